/-
  Tables of patterns, in plain Lean: which one matches, how many bytes must come.
-/
import Derived.Test.YtcpjokjfjhhndaaMaskFind
namespace Go.Proofs.Ytcpjokjfjhhndaa
set_option linter.unusedSimpArgs false
set_option linter.unusedVariables false

def openP (s : ByteArray) (p : Pat) : Bool := openB s p.b p.m p.k

/-- A good pattern that passes nothing over and has a type. -/
def Pat.full (p : Pat) : Bool := goodM p.b p.m && p.k.data.toList.isEmpty && !p.t.data.toList.isEmpty

/-- One step of the least number of bytes that lack. -/
def leastN (s : ByteArray) (p : Pat) (n : Nat) : Nat := if openP s p && (n == 0 || decide (p.b.size - s.size < n)) then p.b.size - s.size else n

def foldN (s : ByteArray) : List Pat → Nat → Nat
  | [], n => n
  | p :: r, n => foldN s r (leastN s p n)

def needsN (s : ByteArray) (ps : List Pat) : Nat := if findN s ps < ps.length then 0 else foldN s ps 0

def mostN : List Pat → Nat → Nat
  | [], n => n
  | p :: r, n => mostN r (max n p.b.size)

theorem foldN_take (s : ByteArray) (ps : List Pat) (k : Nat) (hk : k < ps.length) (n : Nat) : foldN s (ps.take (k + 1)) n = leastN s ps[k] (foldN s (ps.take k) n) := by
  induction ps generalizing k n with
  | nil => simp at hk
  | cons p r ih =>
    cases k with
    | zero => simp [foldN]
    | succ k =>
      simp only [List.take_succ_cons, foldN, List.getElem_cons_succ]
      exact ih k (by simpa using hk) _

theorem mostN_take (ps : List Pat) (k : Nat) (hk : k < ps.length) (n : Nat) : mostN (ps.take (k + 1)) n = max (mostN (ps.take k) n) ps[k].b.size := by
  induction ps generalizing k n with
  | nil => simp at hk
  | cons p r ih =>
    cases k with
    | zero => simp [mostN]
    | succ k =>
      simp only [List.take_succ_cons, mostN, List.getElem_cons_succ]
      exact ih k (by simpa using hk) _

theorem mostN_le (ps : List Pat) (n : Nat) : n ≤ mostN ps n ∧ ∀ p ∈ ps, p.b.size ≤ mostN ps n := by
  induction ps generalizing n with
  | nil => simp [mostN]
  | cons p r ih =>
    obtain ⟨h1, h2⟩ := ih (max n p.b.size)
    refine ⟨by simp only [mostN]; omega, fun q hq => ?_⟩
    simp only [mostN]
    rcases List.mem_cons.1 hq with rfl | hq
    · omega
    · exact h2 q hq

theorem full_good {p : Pat} (h : p.full = true) : goodM p.b p.m = true := by
  unfold Pat.full at h; simp only [Bool.and_eq_true] at h; exact h.1.1

theorem full_k {p : Pat} (h : p.full = true) : p.k.data.toList = [] := by
  unfold Pat.full at h; simp only [Bool.and_eq_true, List.isEmpty_iff] at h; exact h.1.2

theorem full_t {p : Pat} (h : p.full = true) : p.t.data.toList ≠ [] := by
  unfold Pat.full at h; simp at h; simpa using h.2

theorem behind_nil (s : List UInt8) : behind s [] = s := by unfold behind; cases s <;> simp

theorem spanN_none (l : List UInt8) (p : UInt8 → Bool) (h : ∀ x, p x = false) : spanN p l = 0 := by
  cases l with
  | nil => rfl
  | cons x l => simp [spanN, h x]

theorem matchP_eq {p : Pat} (h : p.full = true) (s : ByteArray) : matchP s p = (agreeL s.data.toList p.b.data.toList p.m.data.toList && decide (p.b.data.toList.length ≤ s.data.toList.length)) := by
  unfold matchP matchB matchL
  rw [full_good h, full_k h, behind_nil]
  simp

theorem openP_eq {p : Pat} (h : p.full = true) (s : ByteArray) : openP s p = (agreeL s.data.toList p.b.data.toList p.m.data.toList && decide (s.data.toList.length < p.b.data.toList.length)) := by
  unfold openP openB openL
  rw [full_good h, full_k h, behind_nil]
  simp

/-- Both cannot begin one text. -/
def clashL : List UInt8 → List UInt8 → List UInt8 → List UInt8 → Bool
  | y :: b, z :: m, y2 :: b2, z2 :: m2 => ((y &&& z2) != (y2 &&& z)) || clashL b m b2 m2
  | _, _, _, _ => false

theorem clash_agree (s b m b2 m2 : List UInt8) (hc : clashL b m b2 m2 = true) (h : agreeL s b m = true) (hl : b.length ≤ s.length ∨ b2.length ≤ s.length) : agreeL s b2 m2 = false := by
  induction s generalizing b m b2 m2 with
  | nil =>
    match b, m, b2, m2, hc with
    | y :: b, z :: m, y2 :: b2, z2 :: m2, hc => simp at hl
  | cons x s ih =>
    match b, m, b2, m2, hc with
    | y :: b, z :: m, y2 :: b2, z2 :: m2, hc =>
      simp only [clashL, Bool.or_eq_true, bne_iff_ne, ne_eq] at hc
      simp only [agreeL, Bool.and_eq_true, beq_iff_eq] at h
      simp only [agreeL, Bool.and_eq_false_iff, beq_eq_false_iff_ne, ne_eq]
      by_cases he : (x &&& z2) = y2
      · right
        refine ih b m b2 m2 ?_ h.2 (by simpa using hl)
        rcases hc with hc | hc
        · exfalso
          apply hc
          rw [← h.1, ← he, UInt8.and_assoc, UInt8.and_assoc, UInt8.and_comm z z2]
        · exact hc
      · exact .inl he

def clashP (p q : Pat) : Bool := clashL p.b.data.toList p.m.data.toList q.b.data.toList q.m.data.toList

/-- Where one pattern matches, another one that clashes neither matches nor may. -/
theorem clash_match {p q : Pat} (hp : p.full = true) (hq : q.full = true) (hc : clashP p q = true) {s : ByteArray} (h : matchP s p = true) : matchP s q = false ∧ openP s q = false := by
  rw [matchP_eq hp, Bool.and_eq_true, decide_eq_true_eq] at h
  have := clash_agree _ _ _ _ _ hc h.1 (.inl h.2)
  rw [matchP_eq hq, openP_eq hq, this]
  simp

theorem match_more {p : Pat} (hp : p.full = true) {s : ByteArray} (t : ByteArray) (h : matchP s p = true) : matchP (s ++ t) p = true := by
  rw [matchP_eq hp, Bool.and_eq_true, decide_eq_true_eq] at h ⊢
  have hg := full_good hp
  unfold goodM at hg
  rw [decide_eq_true_eq, Lib.size_eq, Lib.size_eq] at hg
  rw [ByteArray.data_append, Array.toList_append, agreeL_append _ _ _ _ h.2 (by omega)]
  exact ⟨h.1, by rw [List.length_append]; omega⟩

theorem match_none {p : Pat} (hp : p.full = true) {s : ByteArray} (t : ByteArray) (h1 : matchP s p = false) (h2 : openP s p = false) : matchP (s ++ t) p = false := by
  rw [matchP_eq hp] at h1 ⊢
  rw [openP_eq hp] at h2
  rw [ByteArray.data_append, Array.toList_append]
  have ha : agreeL s.data.toList p.b.data.toList p.m.data.toList = false := by
    by_cases hl : p.b.data.toList.length ≤ s.data.toList.length
    · rwa [decide_eq_true hl, Bool.and_true] at h1
    · rwa [decide_eq_true (Nat.lt_of_not_le hl), Bool.and_true] at h2
  cases hx : agreeL (s.data.toList ++ t.data.toList) p.b.data.toList p.m.data.toList
  · rfl
  · rw [agreeL_mono _ _ _ _ hx] at ha
    simp at ha

/-- What may still come does not match while it is too short. -/
theorem match_short {p : Pat} (hp : p.full = true) {s : ByteArray} (h : s.size < p.b.size) : matchP s p = false := by
  rw [matchP_eq hp, ← Lib.size_eq, ← Lib.size_eq, decide_eq_false (by omega)]
  simp

theorem open_short {p : Pat} (hp : p.full = true) {s : ByteArray} (h : openP s p = true) : s.size < p.b.size := by
  rw [openP_eq hp, Bool.and_eq_true, decide_eq_true_eq, ← Lib.size_eq, ← Lib.size_eq] at h
  exact h.2

end Go.Proofs.Ytcpjokjfjhhndaa
