/-
  Patterns of bytes, in plain Lean.
-/
import Derived.Test.YtcpjokjfjhhndaaSpanPlain
namespace Go.Proofs.Ytcpjokjfjhhndaa
set_option linter.unusedSimpArgs false

/-- A good pattern: not empty, at most 64 bytes, and as many of a mask. -/
def goodM (b m : ByteArray) : Bool := decide (1 ≤ b.size ∧ b.size ≤ 64 ∧ m.size = b.size)

/-- Behind the bytes that are passed over. -/
def behind (s k : List UInt8) : List UInt8 := s.dropWhile fun x => k.contains x

/-- A text's bytes are a pattern's, as far as both go. -/
def agreeL : List UInt8 → List UInt8 → List UInt8 → Bool
  | x :: s, y :: b, z :: m => (x &&& z) == y && agreeL s b m
  | _, _, _ => true

def matchL (s b m k : List UInt8) : Bool := agreeL (behind s k) b m && decide (b.length ≤ (behind s k).length)

def openL (s b m k : List UInt8) : Bool := agreeL (behind s k) b m && decide ((behind s k).length < b.length)

theorem agreeL_append (s t b m : List UInt8) (hb : b.length ≤ s.length) (hm : m.length = b.length) : agreeL (s ++ t) b m = agreeL s b m := by
  induction s generalizing b m with
  | nil =>
    match b, hb with
    | [], _ => cases t <;> rfl
  | cons x s ih =>
    match b, m, hm, hb with
    | [], [], _, _ => rfl
    | y :: b, z :: m, hm, hb =>
      simp only [List.cons_append, agreeL]
      rw [ih b m (by simpa using hb) (by simpa using hm)]

theorem agreeL_mono (s t b m : List UInt8) (h : agreeL (s ++ t) b m = true) : agreeL s b m = true := by
  induction s generalizing b m with
  | nil => rfl
  | cons x s ih =>
    match b, m with
    | [], m => rfl
    | y :: b, [] => rfl
    | y :: b, z :: m =>
      simp only [List.cons_append, agreeL, Bool.and_eq_true] at h ⊢
      exact ⟨h.1, ih b m h.2⟩

theorem dropWhile_append_ne (p : UInt8 → Bool) (s t : List UInt8) (h : s.dropWhile p ≠ []) : (s ++ t).dropWhile p = s.dropWhile p ++ t := by
  induction s with
  | nil => simp at h
  | cons x s ih =>
    by_cases hx : p x = true
    · rw [List.cons_append, List.dropWhile_cons_of_pos hx, List.dropWhile_cons_of_pos hx]
      rw [List.dropWhile_cons_of_pos hx] at h
      exact ih h
    · rw [List.cons_append, List.dropWhile_cons_of_neg hx, List.dropWhile_cons_of_neg hx, List.cons_append]

theorem matchL_more (s t b m k : List UInt8) (hb : b ≠ []) (hm : m.length = b.length) (h : matchL s b m k = true) : matchL (s ++ t) b m k = true := by
  unfold matchL at *
  simp only [Bool.and_eq_true, decide_eq_true_eq] at h
  obtain ⟨h1, h2⟩ := h
  have hne : behind s k ≠ [] := by
    intro e
    rw [e] at h2
    simp at h2
    exact hb h2
  have he : behind (s ++ t) k = behind s k ++ t := dropWhile_append_ne _ _ _ hne
  rw [he, agreeL_append _ _ _ _ h2 hm, h1]
  simp
  omega

theorem matchL_none (s t b m k : List UInt8) (h1 : matchL s b m k = false) (h2 : openL s b m k = false) : matchL (s ++ t) b m k = false := by
  have ha : agreeL (behind s k) b m = false := by
    by_cases hl : b.length ≤ (behind s k).length
    · unfold matchL at h1
      simpa [hl] using h1
    · unfold openL at h2
      simpa [Nat.lt_of_not_le hl] using h2
  have hne : behind s k ≠ [] := by
    intro e
    rw [e] at ha
    simp [agreeL] at ha
  have he : behind (s ++ t) k = behind s k ++ t := dropWhile_append_ne _ _ _ hne
  unfold matchL
  rw [he]
  cases hx : agreeL (behind s k ++ t) b m
  · rfl
  · rw [agreeL_mono _ _ _ _ hx] at ha
    simp at ha

theorem match_not_open (s b m k : List UInt8) (h : matchL s b m k = true) : openL s b m k = false := by
  unfold matchL openL at *
  simp only [Bool.and_eq_true, decide_eq_true_eq] at h
  simp [h.1]
  omega

/-- The first n bytes agree. -/
def AgreeTo (s b m : ByteArray) (n : Nat) : Prop := ∀ i (h1 : i < s.size) (h2 : i < b.size) (h3 : i < m.size), i < n → (s[i] &&& m[i]) = b[i]

theorem agreeL_iff (s b m : List UInt8) (hm : m.length = b.length) : agreeL s b m = true ↔ ∀ i (h1 : i < s.length) (h2 : i < b.length), (s[i] &&& m[i]'(by omega)) = b[i] := by
  induction s generalizing b m with
  | nil => simp [agreeL]
  | cons x s ih =>
    match b, m, hm with
    | [], [], _ => simp [agreeL]
    | y :: b, z :: m, hm =>
      simp only [agreeL, Bool.and_eq_true, beq_iff_eq]
      rw [ih b m (by simpa using hm)]
      constructor
      · rintro ⟨h0, hr⟩ i h1 h2
        cases i with
        | zero => exact h0
        | succ i => exact hr i (by simpa using h1) (by simpa using h2)
      · intro h
        exact ⟨h 0 (by simp) (by simp), fun i h1 h2 => h (i + 1) (by simpa using h1) (by simpa using h2)⟩

theorem agree_of (s b m : ByteArray) (hm : m.size = b.size) : agreeL s.data.toList b.data.toList m.data.toList = true ↔ AgreeTo s b m (min s.size b.size) := by
  rw [agreeL_iff _ _ _ (by rw [← Lib.size_eq, ← Lib.size_eq]; exact hm)]
  unfold AgreeTo
  constructor
  · intro h i h1 h2 h3 _
    have := h i (by rw [← Lib.size_eq]; exact h1) (by rw [← Lib.size_eq]; exact h2)
    rw [getElem_data s i h1, getElem_data m i h3, getElem_data b i h2]
    exact this
  · intro h i h1 h2
    rw [← Lib.size_eq] at h1 h2
    have := h i h1 h2 (by omega) (by omega)
    rw [getElem_data s i h1, getElem_data m i (by omega), getElem_data b i h2] at this
    exact this

theorem agreeTo_zero (s b m : ByteArray) : AgreeTo s b m 0 := fun i _ _ _ h => by omega

theorem agreeTo_step {s b m : ByteArray} {n : Nat} (h : AgreeTo s b m n) (h1 : n < s.size) (h2 : n < b.size) (h3 : n < m.size) (he : (s[n] &&& m[n]) = b[n]) : AgreeTo s b m (n + 1) := fun i a b c hi => by
  by_cases e : i = n
  · subst e; exact he
  · exact h i a b c (by omega)

theorem agree_miss {s b m : ByteArray} {n : Nat} (hm : m.size = b.size) (h1 : n < s.size) (h2 : n < b.size) (h3 : n < m.size) (he : (s[n] &&& m[n]) ≠ b[n]) : agreeL s.data.toList b.data.toList m.data.toList = false := by
  rw [← Bool.not_eq_true, agree_of s b m hm]
  intro h
  exact he (h n h1 h2 h3 (by omega))

/-- The bits that two bytes have both, of the first k. -/
def andTo (a b k : Nat) : Nat := (a % 2 ^ k) &&& (b % 2 ^ k)

theorem and_add (x y k p q : Nat) (hx : x < 2 ^ k) (hy : y < 2 ^ k) (hp : p < 2) (hq : q < 2) : ((2 ^ k * p + x) &&& (2 ^ k * q + y)) = 2 ^ k * (p * q) + (x &&& y) := by
  apply Nat.eq_of_testBit_eq
  intro j
  have hxy : (x &&& y) < 2 ^ k := Nat.and_lt_two_pow _ hy
  rw [Nat.testBit_and, Nat.testBit_two_pow_mul_add _ hx, Nat.testBit_two_pow_mul_add _ hy, Nat.testBit_two_pow_mul_add _ hxy]
  by_cases h : j < k
  · simp [h]
  · simp only [h, if_false]
    obtain rfl | rfl : p = 0 ∨ p = 1 := by omega
    · simp
    · obtain rfl | rfl : q = 0 ∨ q = 1 := by omega
      · simp
      · simp

theorem andTo_step (a b k : Nat) : andTo a b (k + 1) = 2 ^ k * ((a / 2 ^ k % 2) * (b / 2 ^ k % 2)) + andTo a b k := by
  unfold andTo
  rw [Nat.mod_pow_succ, Nat.mod_pow_succ, Nat.add_comm (a % 2 ^ k), Nat.add_comm (b % 2 ^ k)]
  exact and_add _ _ _ _ _ (Nat.mod_lt _ (Nat.pow_pos (by omega))) (Nat.mod_lt _ (Nat.pow_pos (by omega))) (Nat.mod_lt _ (by omega)) (Nat.mod_lt _ (by omega))

theorem andTo_zero (a b : Nat) : andTo a b 0 = 0 := by simp [andTo, Nat.mod_one]

theorem andTo_lt (a b k : Nat) : andTo a b k < 2 ^ k := Nat.and_lt_two_pow _ (Nat.mod_lt _ (Nat.pow_pos (by omega)))

theorem andTo_byte (a b : UInt8) : andTo a.toNat b.toNat 8 = (a &&& b).toNat := by
  unfold andTo
  rw [Nat.mod_eq_of_lt (by have := a.toNat_lt; omega), Nat.mod_eq_of_lt (by have := b.toNat_lt; omega), UInt8.toNat_and]

theorem pow_le_256 {k : Nat} (h : k ≤ 8) : 1 ≤ 2 ^ k ∧ 2 ^ k ≤ 256 := ⟨Nat.pow_pos (by omega), Nat.pow_le_pow_right (n := 2) (by omega) h⟩

end Go.Proofs.Ytcpjokjfjhhndaa
