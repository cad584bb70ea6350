/-
  The plain law of a range's and a part's text: it is read as it was.
-/
import Derived.Test.YtjlemghmpnkncaaDoorRangLaw
import Derived.Test.YtjlemghmpnkncaaDoorRangV
import Derived.Test.YtjlemghmpnkncaaDoorDecimalTP
namespace Go.Proofs.YtjlemghmpnkncaaDoor
open Go.RowKit
set_option linter.unusedSimpArgs false
set_option linter.unusedVariables false

/-- The digits of a number, none of -1. -/
def wordL (n : Int) : List UInt8 := if n = -1 then [] else Lib.decDigits n.toNat

def inB (n : Int) : Bool := decide (-1 ≤ n) && decide (n ≤ 9007199254740991)

theorem inB_on {n : Int} (h : inB n = true) : -1 ≤ n ∧ n ≤ 9007199254740991 := by
  unfold inB at h
  simpa using h

theorem word_digits (n : Int) : (wordL n).all isDigit = true := by
  unfold wordL
  split
  · rfl
  · exact all_dec _

theorem word_nil (n : Int) : wordL n = [] ↔ n = -1 := by
  unfold wordL
  split
  · simp [*]
  · simp [dec_ne_nil, *]

theorem word_none : wordL (-1) = [] := rfl

theorem saidN_word {n : Int} (h : inB n = true) : saidN (wordL n) = n := by
  have h2 := inB_on h
  unfold saidN
  by_cases hn : n = -1
  · rw [if_pos ((word_nil n).2 hn), hn]
  · rw [if_neg (fun e => hn ((word_nil n).1 e))]
    have e : valL (wordL n) = n.toNat := by
      unfold wordL
      rw [if_neg hn, valL_dec]
    rw [e, if_pos (by unfold mostN; omega)]
    omega

theorem saidE_word {n : Int} (h : inB n = true) (e : Int) : saidE (wordL n) e = e := by
  have h2 := inB_on h
  unfold saidE
  by_cases hn : n = -1
  · rw [if_pos ((word_nil n).2 hn)]
  · rw [if_neg (fun e => hn ((word_nil n).1 e))]
    have e : valL (wordL n) = n.toNat := by
      unfold wordL
      rw [if_neg hn, valL_dec]
    rw [e, if_pos (by unfold mostN; omega)]

theorem digit_notab (b : UInt8) : isDigit b = true → isTab b = false :=
  all_u8 (p := fun b => isDigit b = true → isTab b = false) (by decide +kernel) b

theorem digit_nostar (b : UInt8) : isDigit b = true → b ≠ 42 :=
  all_u8 (p := fun b => isDigit b = true → b ≠ 42) (by decide +kernel) b

theorem twd_app {a b : List UInt8} (ha : a.all isDigit = true) (hb : ∀ x, b.head? = some x → isDigit x = false) :
    (a ++ b).takeWhile isDigit = a ∧ (a ++ b).dropWhile isDigit = b := by
  obtain ⟨h1, h2⟩ := tw_app (b := b) ha
  obtain ⟨h3, h4⟩ := tw_nil hb
  exact ⟨by rw [h1, h3, List.append_nil], by rw [h2, h4]⟩

theorem dwt_app {a b : List UInt8} (ha : a.all isDigit = true) (hb : ∀ x, b.head? = some x → isTab x = false) : (a ++ b).dropWhile isTab = a ++ b := by
  refine (tw_nil ?_).2
  intro x hx
  cases a with
  | nil => exact hb x hx
  | cons y a =>
    rw [List.all_cons, Bool.and_eq_true] at ha
    simp at hx
    rw [← hx]
    exact digit_notab y ha.1

theorem dw_nil : ([] : List UInt8).dropWhile isTab = [] := rfl

theorem signOk_cons (b : UInt8) (l : List UInt8) : signOk b (b :: l) = true := by simp [signOk]

/-- A range's text. -/
def textL (f t : Int) : List UInt8 := bytesL ++ 61 :: (wordL f ++ 45 :: wordL t)

theorem unit_back (b : UInt8) (l : List UInt8) (hb : isLetter b = false) : unitOk ((bytesL ++ b :: l).dropWhile isTab) = true ∧ ((bytesL ++ b :: l).dropWhile isTab).dropWhile isLetter = b :: l := by
  have e : (bytesL ++ b :: l).dropWhile isTab = bytesL ++ b :: l := (tw_nil (by intro x hx; simp [bytesL] at hx; rw [← hx]; decide)).2
  have hbl : bytesL.all isLetter = true := by decide
  obtain ⟨h1, h2⟩ := tw_app (b := b :: l) hbl
  have h3 := tw_nil (p := isLetter) (l := b :: l) (by intro x hx; simp at hx; rw [← hx]; exact hb)
  rw [e, h2, h3.2]
  refine ⟨?_, rfl⟩
  unfold unitOk
  rw [h1, h3.1, List.append_nil]
  decide

theorem ask_back (f t : Int) (h : ¬ (f = -1 ∧ t = -1)) : askL (textL f t) = some (wordL f, wordL t) := by
  have hu := unit_back 61 (wordL f ++ 45 :: wordL t) (by decide)
  unfold askL textL
  rw [hu.1, if_pos rfl, hu.2]
  have hf := word_digits f
  have ht := word_digits t
  have h45 : ∀ x, (45 :: wordL t).head? = some x → isDigit x = false := by intro x hx; simp at hx; rw [← hx]; decide
  have h45t : ∀ x, (45 :: wordL t).head? = some x → isTab x = false := by intro x hx; simp at hx; rw [← hx]; decide
  have e1 : (61 :: (wordL f ++ 45 :: wordL t)).dropWhile isTab = 61 :: (wordL f ++ 45 :: wordL t) := (tw_nil (by intro x hx; simp at hx; rw [← hx]; decide)).2
  have e2 := dwt_app hf h45t
  obtain ⟨e3, e4⟩ := twd_app hf h45
  have e5 : (45 :: wordL t).dropWhile isTab = 45 :: wordL t := (tw_nil h45t).2
  have e6 : (wordL t).dropWhile isTab = wordL t := by
    have := dwt_app (b := []) ht (by intro x hx; cases hx)
    simpa using this
  have e7 : (wordL t).takeWhile isDigit = wordL t ∧ (wordL t).dropWhile isDigit = [] := by
    have := twd_app (b := []) ht (by intro x hx; cases hx)
    simpa using this
  unfold ask2
  rw [e1, if_pos (signOk_cons _ _), List.tail_cons]
  unfold ask3
  rw [e2, e3, e4]
  unfold ask4
  rw [e5, if_pos (signOk_cons _ _), List.tail_cons]
  unfold ask5
  rw [e6, e7.1, e7.2]
  unfold ask6
  rw [if_pos dw_nil, if_neg (by rw [word_nil, word_nil]; exact h)]

theorem asked_back (f t : Int) (hf : inB f = true) (ht : inB t = true) (h : ¬ (f = -1 ∧ t = -1)) (h2 : ¬ (t ≠ -1 ∧ t < f)) :
    askedV (textL f t) = .tuple #[.agg #[.int .i64 f, .int .i64 t], .int .i64 0] := by
  unfold askedV
  rw [ask_back f t h]
  simp only
  rw [saidE_word hf, saidE_word ht, saidN_word hf, saidN_word ht, if_neg]
  rintro (h3 | h3)
  · exact h3 rfl
  · exact h2 ⟨h3.2, h3.1⟩

/-- A size's text. -/
def sizeT (s : Int) : List UInt8 := if s = -1 then [42] else wordL s

/-- A place's text. -/
def placeT (f t : Int) : List UInt8 := if f = -1 then [42] else wordL f ++ 45 :: wordL t

/-- A part's text. -/
def writeL (f t s : Int) : List UInt8 := bytesL ++ 32 :: (placeT f t ++ 47 :: sizeT s)

theorem size_word {n : Int} (hn : n ≠ -1) {b : List UInt8} (hb : ∀ x, b.head? = some x → isDigit x = false) : sizeL (wordL n ++ b) = some (wordL n, b) := by
  have hd := word_digits n
  have hne : wordL n ≠ [] := fun e => hn ((word_nil n).1 e)
  obtain ⟨h1, h2⟩ := twd_app hd hb
  cases hw : wordL n with
  | nil => exact absurd hw hne
  | cons x r =>
    rw [hw] at h1 h2 hd
    rw [List.all_cons, Bool.and_eq_true] at hd
    rw [List.cons_append, sizeL_cons, if_neg (digit_nostar x hd.1), if_pos hd.1, ← List.cons_append, h1, h2]

theorem con_size (f t : List UInt8) (o : Bool) (s : Int) (h : ¬ (s = -1 ∧ o = true)) : con7 f t o (sizeL (sizeT s)) = some (f, t, wordL s) := by
  unfold sizeT
  by_cases hs : s = -1
  · rw [if_pos hs]
    show con7 f t o (some ([], [])) = _
    unfold con7
    simp only
    rw [if_neg (by rintro ⟨_, ho⟩; exact h ⟨hs, ho⟩), if_pos dw_nil, hs, word_none]
  · rw [if_neg hs]
    have := size_word hs (b := []) (by intro x hx; cases hx)
    rw [List.append_nil] at this
    rw [this]
    unfold con7
    simp only
    rw [if_neg (by rintro ⟨e, _⟩; exact hs ((word_nil s).1 e)), if_pos dw_nil]

theorem con_back (f t s : Int) (h : (f = -1 ∧ t = -1 ∧ s ≠ -1) ∨ (f ≠ -1 ∧ t ≠ -1)) : conL (writeL f t s) = some (wordL f, wordL t, wordL s) := by
  have hu := unit_back 32 (placeT f t ++ 47 :: sizeT s) (by decide)
  unfold conL writeL
  rw [hu.1, if_pos rfl, hu.2]
  have h47 : ∀ (l : List UInt8) x, (47 :: l).head? = some x → isDigit x = false := by intro l x hx; simp at hx; rw [← hx]; decide
  have h45 : ∀ (l : List UInt8) x, (45 :: l).head? = some x → isDigit x = false := by intro l x hx; simp at hx; rw [← hx]; decide
  have h45t : ∀ (l : List UInt8) x, (45 :: l).head? = some x → isTab x = false := by intro l x hx; simp at hx; rw [← hx]; decide
  unfold con2
  rw [if_neg (by rw [List.takeWhile_cons, if_pos (by decide)]; simp), List.dropWhile_cons, if_pos (by decide)]
  rcases h with ⟨rfl, rfl, hs⟩ | ⟨hf, ht⟩
  · have e : placeT (-1) (-1) = [42] := rfl
    rw [e]
    show con3 (([42] ++ 47 :: sizeT s).dropWhile isTab) = _
    have e1 : ([42] ++ 47 :: sizeT s).dropWhile isTab = 42 :: 47 :: sizeT s := (tw_nil (l := 42 :: 47 :: sizeT s) (by intro x hx; simp at hx; rw [← hx]; decide)).2
    rw [e1]
    show con6 [] [] true (47 :: sizeT s) = _
    show con7 [] [] true (sizeL (sizeT s)) = _
    rw [con_size _ _ _ _ (fun h => hs h.1)]
    rfl
  · unfold placeT
    rw [if_neg hf, List.append_assoc, List.cons_append]
    rw [dwt_app (word_digits f) (h45t _)]
    unfold con3
    have hne : wordL f ≠ [] := fun e => hf ((word_nil f).1 e)
    have hs42 : signOk 42 (wordL f ++ 45 :: (wordL t ++ 47 :: sizeT s)) = false := by
      have hd := word_digits f
      cases hw : wordL f with
      | nil => exact absurd hw hne
      | cons x r =>
        rw [hw, List.all_cons, Bool.and_eq_true] at hd
        have := digit_nostar x hd.1
        simp [signOk, this]
    rw [hs42, if_neg (by simp), size_word hf (h45 _)]
    unfold con4
    simp only
    rw [if_neg hne, if_pos (signOk_cons _ _), List.tail_cons, size_word ht (h47 _)]
    unfold con5
    simp only
    rw [if_neg (fun e => ht ((word_nil t).1 e))]
    unfold con6
    rw [if_pos (signOk_cons _ _), List.tail_cons, con_size _ _ _ _ (by simp)]

theorem con_said (f t s : Int) (h : goodP f t s = true) : conV (writeL f t s) = .tuple #[.agg #[.int .i64 f, .int .i64 t, .int .i64 s], .int .i64 0] := by
  have h2 := h
  unfold goodP at h2
  rw [decide_eq_true_eq] at h2
  have hf : inB f = true := by unfold inB; simp; omega
  have ht : inB t = true := by unfold inB; simp; omega
  have hs : inB s = true := by unfold inB; simp; omega
  unfold conV
  rw [con_back f t s (by omega)]
  simp only
  rw [saidE_word hf, saidE_word ht, saidE_word hs, saidN_word hf, saidN_word ht, saidN_word hs, h, if_neg (by simp)]

theorem word_len {n : Int} (h : inB n = true) : (wordL n).length ≤ 20 := by
  have h2 := inB_on h
  unfold wordL
  split
  · simp
  · rw [Lib.decDigits_length]
    exact Lib.nDigits_le20 _ (by omega)

end Go.Proofs.YtjlemghmpnkncaaDoor
