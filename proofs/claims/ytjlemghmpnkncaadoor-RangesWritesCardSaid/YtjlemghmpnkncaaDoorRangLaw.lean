/-
  The plain law of package ranges: what the program reads is what the reference reads.
-/
import Derived.Test.YtjlemghmpnkncaaDoorRangPlain
import Derived.Test.YtjlemghmpnkncaaDoorSpanPlain
namespace Go.Proofs.YtjlemghmpnkncaaDoor
set_option linter.unusedSimpArgs false
set_option linter.unusedVariables false

theorem lowerL_len (l : List UInt8) : (lowerL l).length = l.length := by simp [lowerL]

theorem low_letter (b : UInt8) : isSmall (lowOf b) = true → isLetter b = true :=
  all_u8 (p := fun b => isSmall (lowOf b) = true → isLetter b = true) (by decide +kernel) b

theorem low_letters : ∀ (l : List UInt8), (lowerL l).all isSmall = true → l.all isLetter = true
  | [], _ => rfl
  | b :: l, h => by
    have e : lowerL (b :: l) = lowOf b :: lowerL l := rfl
    rw [e, List.all_cons, Bool.and_eq_true] at h
    rw [List.all_cons, low_letter b h.1, low_letters l h.2]
    rfl

theorem tw_app {p : UInt8 → Bool} {a b : List UInt8} (ha : a.all p = true) : (a ++ b).takeWhile p = a ++ b.takeWhile p ∧ (a ++ b).dropWhile p = b.dropWhile p := by
  induction a with
  | nil => exact ⟨rfl, rfl⟩
  | cons x a ih =>
    rw [List.all_cons, Bool.and_eq_true] at ha
    obtain ⟨h1, h2⟩ := ih ha.2
    constructor
    · rw [List.cons_append, List.takeWhile_cons, if_pos ha.1, h1]; rfl
    · rw [List.cons_append, List.dropWhile_cons, if_pos ha.1, h2]

theorem tw_nil {p : UInt8 → Bool} {l : List UInt8} (h : ∀ b, l.head? = some b → p b = false) : l.takeWhile p = [] ∧ l.dropWhile p = l := by
  cases l with
  | nil => exact ⟨rfl, rfl⟩
  | cons b l =>
    have hb := h b rfl
    exact ⟨by rw [List.takeWhile_cons, if_neg (by rw [hb]; simp)], by rw [List.dropWhile_cons, if_neg (by rw [hb]; simp)]⟩

/-- How the reference asks for the unit. -/
def runitOk (l : List UInt8) : Bool := decide (5 ≤ l.length ∧ lowerL (l.take 5) = bytesL ∧ ¬ (5 < l.length ∧ isLetter (l.getD 5 0) = true))

theorem lower_bytes : lowerL bytesL = bytesL := by decide

theorem unit_plain (l : List UInt8) : unitOk l = runitOk l := by
  rw [Bool.eq_iff_iff]
  unfold unitOk runitOk
  rw [beq_iff_eq, decide_eq_true_eq, lower_bytes]
  have hsp := List.takeWhile_append_dropWhile (p := isLetter) (l := l)
  constructor
  · intro h
    have hl : (l.takeWhile isLetter).length = 5 := by rw [← lowerL_len, h]; rfl
    have ht : l.take 5 = l.takeWhile isLetter := by
      rw [← hl]
      exact (List.prefix_iff_eq_take.1 (List.takeWhile_prefix isLetter)).symm
    refine ⟨?_, by rw [ht]; exact h, ?_⟩
    · have := (List.takeWhile_sublist (p := isLetter) (l := l)).length_le
      omega
    · rintro ⟨h5, hc⟩
      have hd : l.drop 5 = l.dropWhile isLetter := by
        have e : l.drop 5 = (l.takeWhile isLetter ++ l.dropWhile isLetter).drop (l.takeWhile isLetter).length := by rw [hsp, hl]
        rw [e, List.drop_left]
      have hh : (l.dropWhile isLetter).head? = some (l.getD 5 0) := by
        rw [← hd, List.head?_drop, List.getElem?_eq_getElem h5, List.getD, List.getElem?_eq_getElem h5]
        rfl
      have hn := List.head?_dropWhile_not isLetter l
      rw [hh] at hn
      simp only at hn
      rw [hc] at hn
      exact absurd hn (by simp)
  · rintro ⟨h5, h, hn⟩
    have ha : (l.take 5).all isLetter = true := low_letters _ (by rw [h]; decide)
    have e := List.take_append_drop 5 l
    have hz : (l.drop 5).takeWhile isLetter = [] := by
      refine (tw_nil ?_).1
      intro b hb
      rw [List.head?_drop] at hb
      have h6 : 5 < l.length := (List.getElem?_eq_some_iff.1 hb).1
      have hg : l.getD 5 0 = b := by unfold List.getD; rw [hb]; rfl
      cases hc : isLetter b
      · rfl
      · exact absurd ⟨h6, by rw [hg]; exact hc⟩ hn
    rw [← e, (tw_app ha).1, hz, List.append_nil, h]

theorem unit_drop {l : List UInt8} (h : runitOk l = true) : l.dropWhile isLetter = l.drop 5 := by
  rw [← unit_plain] at h
  unfold unitOk at h
  rw [beq_iff_eq, lower_bytes] at h
  have hl : (l.takeWhile isLetter).length = 5 := by rw [← lowerL_len, h]; rfl
  have hsp := List.takeWhile_append_dropWhile (p := isLetter) (l := l)
  have e : l.drop 5 = (l.takeWhile isLetter ++ l.dropWhile isLetter).drop (l.takeWhile isLetter).length := by rw [hsp, hl]
  rw [e, List.drop_left]

theorem saidE_zero (f t : List UInt8) : (saidE t (saidE f 0) = 0) ↔ ((f = [] ∨ valL f ≤ mostN) ∧ (t = [] ∨ valL t ≤ mostN)) := by
  unfold saidE
  by_cases h1 : f = [] <;> by_cases h2 : t = [] <;> by_cases h3 : valL f ≤ mostN <;> by_cases h4 : valL t ≤ mostN <;> simp [h1, h2, h3, h4]

theorem saidE_zero3 (f t a : List UInt8) : (saidE a (saidE t (saidE f 0)) = 0) ↔ ((f = [] ∨ valL f ≤ mostN) ∧ (t = [] ∨ valL t ≤ mostN) ∧ (a = [] ∨ valL a ≤ mostN)) := by
  unfold saidE
  by_cases h1 : f = [] <;> by_cases h2 : t = [] <;> by_cases h5 : a = [] <;> by_cases h3 : valL f ≤ mostN <;> by_cases h4 : valL t ≤ mostN <;> by_cases h6 : valL a ≤ mostN <;> simp [h1, h2, h3, h4, h5, h6]

theorem saidN_least (l : List UInt8) : -1 ≤ saidN l := by
  unfold saidN
  split
  · omega
  · split <;> omega

/-- What the reference reads behind the unit, trimmed. -/
def rcon6 (f t l : List UInt8) : Option (List UInt8 × List UInt8 × List UInt8) :=
  if signOk 47 l = true then (if l.tail = [42] ∧ f ≠ [] then some (f, t, []) else if l.tail = [] ∨ l.tail.all isDigit = false then none else some (f, t, l.tail)) else none

def rcon5 (f l : List UInt8) : Option (List UInt8 × List UInt8 × List UInt8) :=
  if l.takeWhile isDigit = [] then none else rcon6 f (l.takeWhile isDigit) (l.dropWhile isDigit)

def rcon4 (f l : List UInt8) : Option (List UInt8 × List UInt8 × List UInt8) :=
  if f = [] then none else if signOk 45 l = true then rcon5 f l.tail else none

def rcon3 (l : List UInt8) : Option (List UInt8 × List UInt8 × List UInt8) :=
  if signOk 42 l = true then rcon6 [] [] l.tail else rcon4 (l.takeWhile isDigit) (l.dropWhile isDigit)

/-- A text without tabs and blanks at its end, and such behind it. -/
structure Trim (y t : List UInt8) : Prop where
  tabs : t.all isTab = true
  ends : ∀ b, y.getLast? = some b → isTab b = false

theorem trim_split : ∀ (n : Nat) (l : List UInt8), l.length ≤ n → ∃ t, l = trimEnd isTab l ++ t ∧ Trim (trimEnd isTab l) t
  | 0, l, h => by
    obtain rfl : l = [] := List.eq_nil_of_length_eq_zero (by omega)
    exact ⟨[], rfl, rfl, by intro b hb; simp [trimEnd_nil] at hb⟩
  | n + 1, l, h => by
    rcases List.eq_nil_or_concat l with rfl | ⟨l2, y, rfl⟩
    · exact ⟨[], rfl, rfl, by intro b hb; simp [trimEnd_nil] at hb⟩
    · rw [List.concat_eq_append] at h ⊢
      rw [trimEnd_snoc]
      cases hy : isTab y
      · refine ⟨[], by simp, rfl, ?_⟩
        intro b hb
        simp at hb
        rw [← hb]
        exact hy
      · obtain ⟨t, h1, h2⟩ := trim_split n l2 (by simp at h; omega)
        simp only [if_true]
        refine ⟨t ++ [y], ?_, ?_, h2.ends⟩
        · conv => lhs; rw [h1]
          rw [List.append_assoc]
        · rw [List.all_append, h2.tabs]; simp [hy]

theorem Trim.tail {b : UInt8} {y t : List UInt8} (h : Trim (b :: y) t) : Trim y t := ⟨h.tabs, fun c hc => h.ends c (by
  cases y with
  | nil => simp at hc
  | cons x y => rw [List.getLast?_cons_cons]; exact hc)⟩

theorem Trim.drop {y t : List UInt8} (h : Trim y t) (n : Nat) : Trim (y.drop n) t := ⟨h.tabs, fun c hc => h.ends c (by
  rw [List.getLast?_drop] at hc
  split at hc
  · cases hc
  · exact hc)⟩

theorem Trim.nil {y t : List UInt8} (h : Trim y t) (ht : y.all isTab = true) : y = [] := by
  rcases List.eq_nil_or_concat y with rfl | ⟨l2, b, rfl⟩
  · rfl
  · rw [List.concat_eq_append] at ht h
    have := h.ends b (by simp)
    rw [List.all_append] at ht
    simp [this] at ht

theorem digit_tab (b : UInt8) : isTab b = true → isDigit b = false :=
  all_u8 (p := fun b => isTab b = true → isDigit b = false) (by decide +kernel) b

theorem tabs_head {t : List UInt8} (h : t.all isTab = true) : ∀ b, t.head? = some b → isTab b = true := by
  intro b hb
  cases t with
  | nil => cases hb
  | cons x t =>
    rw [List.all_cons, Bool.and_eq_true] at h
    simp at hb
    rw [← hb]
    exact h.1

theorem tw_trim {y t : List UInt8} (h : Trim y t) : (y ++ t).takeWhile isDigit = y.takeWhile isDigit ∧ (y ++ t).dropWhile isDigit = y.dropWhile isDigit ++ t := by
  obtain ⟨h1, h2⟩ := tw_nil (p := isDigit) (l := t) (fun b hb => digit_tab b (tabs_head h.tabs b hb))
  have hy := List.takeWhile_append_dropWhile (p := isDigit) (l := y)
  clear h
  induction y with
  | nil => exact ⟨by rw [List.nil_append, h1]; rfl, by rw [List.nil_append, h2]; rfl⟩
  | cons x y ih =>
    have hy2 := List.takeWhile_append_dropWhile (p := isDigit) (l := y)
    obtain ⟨i1, i2⟩ := ih hy2
    rw [List.cons_append, List.takeWhile_cons, List.dropWhile_cons, List.takeWhile_cons, List.dropWhile_cons]
    cases isDigit x
    · exact ⟨rfl, rfl⟩
    · simp only [if_true]
      exact ⟨by rw [i1], i2⟩

theorem sign_trim {x : UInt8} (hx : isTab x = false) {y t : List UInt8} (h : Trim y t) : signOk x (y ++ t) = signOk x y ∧ (signOk x y = true → (y ++ t).tail = y.tail ++ t ∧ Trim y.tail t) := by
  cases y with
  | nil =>
    constructor
    · unfold signOk
      rw [List.nil_append]
      cases ht : t.head? with
      | none => rfl
      | some b =>
        have := tabs_head h.tabs b ht
        have hne : b ≠ x := fun e => by rw [e, hx] at this; cases this
        simp [hne]
    · intro h2
      simp [signOk] at h2
  | cons a y => exact ⟨rfl, fun _ => ⟨rfl, h.tail⟩⟩

theorem Trim.dropWhile {y t : List UInt8} (h : Trim y t) (p : UInt8 → Bool) : Trim (y.dropWhile p) t := by
  have hsp := List.takeWhile_append_dropWhile (p := p) (l := y)
  have e : y.dropWhile p = y.drop (y.takeWhile p).length := by
    have e4 : y.drop (y.takeWhile p).length = (y.takeWhile p ++ y.dropWhile p).drop (y.takeWhile p).length := by rw [hsp]
    rw [e4, List.drop_left]
  rw [e]
  exact h.drop _

theorem twAll (p : UInt8 → Bool) : ∀ l : List UInt8, (l.takeWhile p).all p = true
  | [] => rfl
  | a :: l => by
    rw [List.takeWhile_cons]
    split
    · rw [List.all_cons, twAll p l, Bool.and_true]; assumption
    · rfl

theorem dw_all (p : UInt8 → Bool) (l : List UInt8) : (l.dropWhile p = []) ↔ l.all p = true := by
  have h3 := List.takeWhile_append_dropWhile (p := p) (l := l)
  constructor
  · intro h
    rw [h, List.append_nil] at h3
    rw [← h3]
    exact twAll p l
  · intro h
    have := (tw_app (p := p) (a := l) (b := []) h).2
    simpa using this

theorem tw_full {p : UInt8 → Bool} {l : List UInt8} (h : l.all p = true) : l.takeWhile p = l := by
  have := (tw_app (p := p) (a := l) (b := []) h).1
  simpa using this

theorem end_trim {y t : List UInt8} (h : Trim y t) : ((y ++ t).dropWhile isTab = []) ↔ y = [] := by
  constructor
  · intro h2
    refine h.nil ?_
    rw [List.all_eq_true]
    intro b hb
    have h3 := List.takeWhile_append_dropWhile (p := isTab) (l := y ++ t)
    rw [h2, List.append_nil] at h3
    have : b ∈ (y ++ t).takeWhile isTab := by rw [h3]; exact List.mem_append_left _ hb
    exact List.all_eq_true.1 (twAll isTab (y ++ t)) b this
  · rintro rfl
    rw [List.nil_append]
    have := (tw_app (p := isTab) (a := t) (b := []) h.tabs).2
    simpa using this

theorem sizeL_cons (x : UInt8) (r : List UInt8) : sizeL (x :: r) = if x = 42 then some ([], r) else if isDigit x = true then some ((x :: r).takeWhile isDigit, (x :: r).dropWhile isDigit) else none := rfl

theorem size_nil {t : List UInt8} (h : t.all isTab = true) : sizeL t = none := by
  cases t with
  | nil => rfl
  | cons b t =>
    have hb := tabs_head h b rfl
    have h42 : b ≠ 42 := fun e => by rw [e] at hb; exact absurd hb (by decide)
    rw [sizeL_cons, if_neg h42, if_neg (by rw [digit_tab b hb]; simp)]

theorem size_trim {x : UInt8} {y t : List UInt8} (h : Trim (x :: y) t) :
    sizeL (x :: y ++ t) = if x = 42 then some ([], y ++ t) else if isDigit x = true then some ((x :: y).takeWhile isDigit, (x :: y).dropWhile isDigit ++ t) else none := by
  rw [List.cons_append, sizeL_cons, ← List.cons_append, (tw_trim h).1, (tw_trim h).2]

theorem con7_trim (f : List UInt8) (o : Bool) (ho : o = true ↔ f = []) (t2 y t : List UInt8) (h : Trim y t) :
    con7 f t2 o (sizeL (y ++ t)) = if y = [42] ∧ f ≠ [] then some (f, t2, []) else if y = [] ∨ y.all isDigit = false then none else some (f, t2, y) := by
  cases y with
  | nil =>
    rw [List.nil_append, size_nil h.tabs, if_neg (by simp), if_pos (.inl rfl)]
    rfl
  | cons x y =>
    rw [size_trim h]
    by_cases hx : x = 42
    · subst hx
      rw [if_pos rfl]
      show (if ([] : List UInt8) = [] ∧ o = true then none else if (y ++ t).dropWhile isTab = [] then some (f, t2, []) else none) = _
      have he := end_trim h.tail
      have hd : ((42 :: y).all isDigit) = false := rfl
      by_cases hy : y = []
      · by_cases hf : f = []
        · rw [if_pos ⟨rfl, ho.2 hf⟩, if_neg (by rintro ⟨_, h2⟩; exact h2 hf), if_pos (.inr hd)]
        · rw [if_neg (by rintro ⟨_, h2⟩; exact hf (ho.1 h2)), if_pos (he.2 hy), if_pos ⟨by rw [hy], hf⟩]
      · have hn : ¬ (42 :: y = [42]) := fun e => hy (by injection e)
        have hr : (if 42 :: y = [42] ∧ f ≠ [] then some (f, t2, []) else if 42 :: y = [] ∨ (42 :: y).all isDigit = false then none else some (f, t2, 42 :: y)) = none := by rw [if_neg (fun h2 => hn h2.1), if_pos (.inr hd)]
        rw [hr]
        split
        · rfl
        · rw [if_neg (fun h2 => hy (he.1 h2))]
    · rw [if_neg hx]
      have hn : ¬ (x :: y = [42] ∧ f ≠ []) := fun e => hx (by injection e.1)
      by_cases hd : isDigit x = true
      · rw [if_pos hd]
        have htw : (x :: y).takeWhile isDigit ≠ [] := by rw [List.takeWhile_cons, if_pos hd]; simp
        show (if (x :: y).takeWhile isDigit = [] ∧ o = true then none else if ((x :: y).dropWhile isDigit ++ t).dropWhile isTab = [] then some (f, t2, (x :: y).takeWhile isDigit) else none) = _
        rw [if_neg (fun h2 => htw h2.1), if_neg hn]
        have he := end_trim (h.dropWhile isDigit)
        by_cases ha : (x :: y).all isDigit = true
        · rw [if_pos (he.2 ((dw_all _ _).2 ha)), tw_full ha, if_neg (by rw [ha]; simp)]
        · rw [if_neg (fun h2 => ha ((dw_all _ _).1 (he.1 h2))), if_pos (.inr (by simpa using ha))]
      · rw [if_neg hd, if_neg hn, if_pos (.inr (by rw [List.all_cons]; simp [hd]))]
        rfl

theorem con6_trim (f : List UInt8) (o : Bool) (ho : o = true ↔ f = []) (t2 y t : List UInt8) (h : Trim y t) : con6 f t2 o (y ++ t) = rcon6 f t2 y := by
  obtain ⟨h1, h2⟩ := sign_trim (x := 47) (by decide) h
  unfold con6 rcon6
  rw [h1]
  cases hs : signOk 47 y
  · rfl
  · obtain ⟨h3, h4⟩ := h2 hs
    rw [if_pos rfl, if_pos rfl, h3]
    exact con7_trim f o ho t2 y.tail t h4

theorem con5_trim (f : List UInt8) (hf : f ≠ []) (y t : List UInt8) (h : Trim y t) : con5 f (sizeL (y ++ t)) = rcon5 f y := by
  unfold rcon5
  cases y with
  | nil =>
    rw [List.nil_append, size_nil h.tabs]
    rfl
  | cons x y =>
    rw [size_trim h]
    by_cases hx : x = 42
    · subst hx
      rw [if_pos rfl]
      rfl
    · rw [if_neg hx]
      by_cases hd : isDigit x = true
      · have htw : (x :: y).takeWhile isDigit ≠ [] := by rw [List.takeWhile_cons, if_pos hd]; simp
        rw [if_pos hd, if_neg htw]
        show (if (x :: y).takeWhile isDigit = [] then none else con6 f ((x :: y).takeWhile isDigit) false ((x :: y).dropWhile isDigit ++ t)) = _
        rw [if_neg htw]
        exact con6_trim f false (by constructor <;> intro h2; cases h2; exact absurd h2 hf) _ _ t (h.dropWhile isDigit)
      · rw [if_neg hd, if_pos (by rw [List.takeWhile_cons, if_neg hd])]
        rfl

theorem con3_trim {y t : List UInt8} (h : Trim y t) : con3 (y ++ t) = rcon3 y := by
  obtain ⟨h1, h2⟩ := sign_trim (x := 42) (by decide) h
  unfold con3 rcon3
  rw [h1]
  cases hs : signOk 42 y
  · rw [if_neg (by simp), if_neg (by simp)]
    unfold rcon4
    cases y with
    | nil =>
      rw [List.nil_append, size_nil h.tabs]
      rfl
    | cons x y =>
      have hx : x ≠ 42 := fun e => by rw [e] at hs; exact absurd hs (by simp [signOk])
      rw [size_trim h, if_neg hx]
      by_cases hd : isDigit x = true
      · have htw : (x :: y).takeWhile isDigit ≠ [] := by rw [List.takeWhile_cons, if_pos hd]; simp
        rw [if_pos hd, if_neg htw]
        show (if (x :: y).takeWhile isDigit = [] then none else if signOk 45 ((x :: y).dropWhile isDigit ++ t) = true then con5 ((x :: y).takeWhile isDigit) (sizeL ((x :: y).dropWhile isDigit ++ t).tail) else none) = _
        rw [if_neg htw]
        obtain ⟨h5, h6⟩ := sign_trim (x := 45) (by decide) (h.dropWhile isDigit)
        rw [h5]
        cases hq : signOk 45 ((x :: y).dropWhile isDigit)
        · rfl
        · obtain ⟨h7, h8⟩ := h6 hq
          rw [if_pos rfl, if_pos rfl, h7]
          exact con5_trim _ htw _ t h8
      · rw [if_neg hd, if_pos (by rw [List.takeWhile_cons, if_neg hd])]
        rfl
  · obtain ⟨h3, h4⟩ := h2 hs
    rw [if_pos rfl, if_pos rfl, h3]
    exact con6_trim [] true (by simp) [] y.tail t h4

/-- Behind the unit: what the program reads of a text is what the reference reads of the trimmed one. -/
theorem con3_ends (l : List UInt8) : con3 l = rcon3 (trimEnd isTab l) := by
  obtain ⟨t, h1, h2⟩ := trim_split l.length l (Nat.le_refl _)
  conv => lhs; rw [h1]
  exact con3_trim h2

end Go.Proofs.YtjlemghmpnkncaaDoor
