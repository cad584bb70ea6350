/-
  Texts between quotes, in plain Lean.
-/
import Derived.Test.YtigclegknofhmaaCursorG
namespace Go.Proofs.Ytigclegknofhmaa
set_option linter.unusedSimpArgs false
set_option linter.unusedVariables false

/-- What is taken behind a quote, and how many bytes are gone by. -/
def readL : List UInt8 → List UInt8 × Nat
  | [] => ([], 0)
  | [b] => if b = 34 then ([], 1) else ([b], 1)
  | b :: x :: r => if b = 34 then ([], 1) else if b = 92 then (x :: (readL r).1, 2 + (readL r).2) else (b :: (readL (x :: r)).1, 1 + (readL (x :: r)).2)

theorem readL_quote (r : List UInt8) : readL (34 :: r) = ([], 1) := by
  cases r <;> simp [readL]

theorem readL_slash (x : UInt8) (r : List UInt8) : readL (92 :: x :: r) = (x :: (readL r).1, 2 + (readL r).2) := by
  simp [readL]

theorem readL_slash_end : readL [92] = ([92], 1) := by simp [readL]

theorem readL_plain (b : UInt8) (r : List UInt8) (h1 : b ≠ 34) (h2 : b ≠ 92) : readL (b :: r) = (b :: (readL r).1, 1 + (readL r).2) := by
  cases r with
  | nil => simp [readL, h1]
  | cons x r => simp [readL, h1, h2]

theorem readL_span (p r : List UInt8) (h : ∀ b ∈ p, b ≠ 34 ∧ b ≠ 92) : readL (p ++ r) = (p ++ (readL r).1, p.length + (readL r).2) := by
  induction p with
  | nil => simp
  | cons b p ih =>
    have hb := h b (by simp)
    rw [List.cons_append, readL_plain b _ hb.1 hb.2, ih (fun c hc => h c (by simp [hc]))]
    simp; omega

theorem readL_le (l : List UInt8) : (readL l).2 ≤ l.length ∧ (readL l).1.length ≤ l.length := by
  induction h : l.length using Nat.strongRecOn generalizing l with
  | _ n ih =>
    match l, h with
    | [], _ => simp [readL]
    | [b], _ =>
      unfold readL
      split <;> simp_all
    | b :: x :: r, h =>
      simp only [List.length_cons] at h
      by_cases h1 : b = 34
      · subst h1; rw [readL_quote]; simp; omega
      · by_cases h2 : b = 92
        · subst h2
          rw [readL_slash]
          have := ih r.length (by omega) r rfl
          simp; omega
        · rw [readL_plain b _ h1 h2]
          have := ih (x :: r).length (by simp; omega) (x :: r) rfl
          simp at this ⊢; omega

/-- The bytes behind a place. -/
def dropB (s : ByteArray) (k : Nat) : List UInt8 := s.data.toList.drop k

theorem dropB_end (s : ByteArray) : dropB s s.size = [] := by
  unfold dropB
  rw [List.drop_eq_nil_of_le (by rw [← Lib.size_eq]; exact Nat.le_refl _)]

theorem dropB_cons (s : ByteArray) (k : Nat) (h : k < s.size) : dropB s k = s[k] :: dropB s (k + 1) := by
  unfold dropB
  rw [List.drop_eq_getElem_cons (by rw [← Lib.size_eq]; exact h)]
  rfl

def quoStops : ByteArray := ⟨#[34, 92]⟩

theorem goes_quo (b : UInt8) : goesOn quoStops b = (b != 34 && b != 92) := by
  have : quoStops.data.toList = [34, 92] := rfl
  unfold goesOn
  rw [this]
  by_cases h1 : b = 34 <;> by_cases h2 : b = 92 <;> simp [h1, h2]

/-- Up to the next quote or backslash. -/
theorem dropB_span (s : ByteArray) (m : Nat) (hm : m ≤ s.size) (n : Nat) (hn : n = spanN (goesOn quoStops) (restB s m).data.toList) :
    m + n ≤ s.size ∧ dropB s m = (s.extract m (m + n)).data.toList ++ dropB s (m + n) ∧ (∀ b ∈ (s.extract m (m + n)).data.toList, b ≠ 34 ∧ b ≠ 92) ∧ (∀ (h : m + n < s.size), s[m + n] = 34 ∨ s[m + n] = 92) := by
  have hr : (restB s m).data.toList = dropB s m := by
    unfold dropB restB
    rw [ByteArray.data_extract, Array.toList_extract, List.extract_eq_take_drop, List.take_of_length_le (by rw [List.length_drop, ← Lib.size_eq]; omega)]
  rw [hr] at hn
  have hle : n ≤ (dropB s m).length := by rw [hn]; exact spanN_le _ _
  have hlen : (dropB s m).length = s.size - m := by unfold dropB; rw [List.length_drop, Lib.size_eq]
  have ht : (dropB s m).takeWhile (goesOn quoStops) = (dropB s m).take n := by
    rw [hn]
    unfold spanN
    exact (List.prefix_iff_eq_take.1 (List.takeWhile_prefix _))
  have hx : (s.extract m (m + n)).data.toList = (dropB s m).take n := by
    unfold dropB
    rw [ByteArray.data_extract, Array.toList_extract, List.extract_eq_take_drop]
    rw [show m + n - m = n by omega]
  refine ⟨by omega, ?_, ?_, ?_⟩
  · rw [hx]
    have : dropB s (m + n) = (dropB s m).drop n := by unfold dropB; rw [List.drop_drop]
    rw [this, List.take_append_drop]
  · intro b hb
    rw [hx, ← ht] at hb
    have hal := List.all_takeWhile (p := goesOn quoStops) (l := dropB s m)
    rw [List.all_eq_true] at hal
    have := hal b hb
    rw [goes_quo] at this
    simpa using this
  · intro h
    have hcons := dropB_cons s (m + n) h
    have hd : dropB s (m + n) = (dropB s m).dropWhile (goesOn quoStops) := by
      have e1 : dropB s (m + n) = (dropB s m).drop n := by unfold dropB; rw [List.drop_drop]
      have e2 := List.takeWhile_append_dropWhile (p := goesOn quoStops) (l := dropB s m)
      rw [e1]
      conv => lhs; rw [← e2]
      rw [ht]
      rw [List.drop_append_of_le_length (by rw [List.length_take]; omega), List.drop_eq_nil_of_le (by rw [List.length_take]; omega), List.nil_append]
    rw [hd] at hcons
    have hne : (dropB s m).dropWhile (goesOn quoStops) ≠ [] := by rw [hcons]; simp
    have hh := List.head_dropWhile_not (p := goesOn quoStops) hne
    have he : ((dropB s m).dropWhile (goesOn quoStops)).head hne = s[m + n] := by
      simp only [hcons, List.head_cons]
    rw [he, goes_quo] at hh
    simp only [Bool.and_eq_false_iff, bne_eq_false_iff_eq] at hh
    exact hh

end Go.Proofs.Ytigclegknofhmaa
