/-
  Members of an archive, in plain Lean: how many stand one behind the other.
-/
import Derived.Test.YtcpjokjfjhhndaaBase
namespace Go.Proofs.Ytcpjokjfjhhndaa
set_option linter.unusedSimpArgs false
set_option linter.unusedVariables false

theorem or_byte_i64 (a b : Nat) (ha : a < 18014398509481984) (hb : b < 256) : bits .or .i64 ((a : Int) * 256) (b : Int) = (a : Int) * 256 + b := by
  have h0 : (a : Int) * 256 = ((a * 256 : Nat) : Int) := by omega
  rw [h0]
  have h1 : (BitVec.ofInt 64 ((a * 256 : Nat) : Int)).toNat = a * 256 := by
    rw [BitVec.ofInt_natCast, BitVec.toNat_ofNat]; exact Nat.mod_eq_of_lt (by omega)
  have h2 : (BitVec.ofInt 64 (b : Int)).toNat = b := by
    rw [BitVec.ofInt_natCast, BitVec.toNat_ofNat]; exact Nat.mod_eq_of_lt (by omega)
  have h3 : a * 256 ||| b = a * 256 + b := by
    have := Nat.shiftLeft_add_eq_or_of_lt (i := 8) (b := b) (by simpa using hb) a
    rw [Nat.shiftLeft_eq] at this
    simpa using this.symm
  show IntKind.i64.wrap ((BitVec.ofInt 64 ((a * 256 : Nat) : Int) ||| BitVec.ofInt 64 (b : Int)).toNat : Int) = _
  rw [BitVec.toNat_or, h1, h2, h3, IntWalk.i64_in _ (by omega)]
  omega

/-- The number of bytes, the lowest first. -/
def lowN : List UInt8 → Nat
  | [] => 0
  | b :: r => b.toNat + 256 * lowN r

theorem lowN_drop (l : List UInt8) (k : Nat) (hk : k < l.length) : lowN (l.drop k) = l[k].toNat + 256 * lowN (l.drop (k + 1)) := by
  rw [List.drop_eq_getElem_cons hk]; rfl

theorem lowN_lt (l : List UInt8) : lowN l < 256 ^ l.length := by
  induction l with
  | nil => simp [lowN]
  | cons b r ih =>
    simp only [lowN, List.length_cons, Nat.pow_succ]
    have := b.toNat_lt
    omega

def lowB (s : ByteArray) : Nat := lowN s.data.toList

/-- The head of a member. -/
def headB (s : ByteArray) : Bool := decide (30 ≤ s.size) && ((s.extract 0 4).toList == [80, 75, 3, 4])

/-- How many bytes the first member has. -/
def memSize (s : ByteArray) : Nat := 30 + lowB (s.extract 26 28) + lowB (s.extract 28 30) + lowB (s.extract 18 22)

def wholeB (s : ByteArray) : Bool := headB s && decide (memSize s ≤ s.size)

def memF : Nat → ByteArray → Nat × Bool
  | 0, s => (0, decide (s.size = 0))
  | f + 1, s => if wholeB s = true then ((memF f (s.extract (memSize s) s.size)).1 + 1, (memF f (s.extract (memSize s) s.size)).2) else (0, decide (s.size = 0))

theorem whole_parts {s : ByteArray} (h : wholeB s = true) : headB s = true ∧ memSize s ≤ s.size ∧ 30 ≤ memSize s := by
  unfold wholeB at h
  rw [Bool.and_eq_true, decide_eq_true_eq] at h
  exact ⟨h.1, h.2, by unfold memSize; omega⟩

theorem memF_eq : ∀ (f g : Nat) (s : ByteArray), s.size ≤ f → s.size ≤ g → memF f s = memF g s := by
  intro f
  induction f with
  | zero =>
    intro g s hf hg
    cases g with
    | zero => rfl
    | succ g =>
      have hn : ¬ wholeB s = true := fun h => by have := whole_parts h; omega
      simp only [memF, if_neg hn]
  | succ f ih =>
    intro g s hf hg
    cases g with
    | zero =>
      have hn : ¬ wholeB s = true := fun h => by have := whole_parts h; omega
      simp only [memF, if_neg hn]
    | succ g =>
      by_cases h : wholeB s = true
      · obtain ⟨_, h1, h2⟩ := whole_parts h
        have hz : (s.extract (memSize s) s.size).size = s.size - memSize s := by simp
        have := ih g (s.extract (memSize s) s.size) (by omega) (by omega)
        simp only [memF, if_pos h, this]
      · simp only [memF, if_neg h]

def memN (s : ByteArray) : Nat := (memF s.size s).1

/-- Nothing stands behind the last member. -/
def memE (s : ByteArray) : Bool := (memF s.size s).2

theorem mem_whole {s : ByteArray} (h : wholeB s = true) : memN s = memN (s.extract (memSize s) s.size) + 1 ∧ memE s = memE (s.extract (memSize s) s.size) := by
  obtain ⟨_, h1, h2⟩ := whole_parts h
  have hz : (s.extract (memSize s) s.size).size = s.size - memSize s := by simp
  obtain ⟨f, hf⟩ : ∃ f, s.size = f + 1 := ⟨s.size - 1, by omega⟩
  have e : memF s.size s = ((memF f (s.extract (memSize s) s.size)).1 + 1, (memF f (s.extract (memSize s) s.size)).2) := by
    have h0 : memF s.size s = memF (f + 1) s := memF_eq _ _ _ (Nat.le_refl _) (by omega)
    rw [h0]
    simp only [memF, if_pos h]
  have e2 := memF_eq f (s.extract (memSize s) s.size).size (s.extract (memSize s) s.size) (by omega) (Nat.le_refl _)
  rw [e2] at e
  unfold memN memE
  generalize memF (s.extract (memSize s) s.size).size (s.extract (memSize s) s.size) = x at *
  generalize memF s.size s = y at *
  subst e
  exact ⟨rfl, rfl⟩

theorem mem_none {s : ByteArray} (h : wholeB s = false) : memN s = 0 ∧ memE s = decide (s.size = 0) := by
  unfold memN memE
  cases hs : s.size with
  | zero => simp [memF, hs]
  | succ n => simp [memF, h, hs]

theorem memN_le (s : ByteArray) : memN s ≤ s.size := by
  have : ∀ (f : Nat) (s : ByteArray), s.size ≤ f → memN s ≤ s.size := by
    intro f
    induction f with
    | zero =>
      intro s hs
      have hn : wholeB s = false := by
        cases h : wholeB s
        · rfl
        · have := whole_parts h; omega
      rw [(mem_none hn).1]; omega
    | succ f ih =>
      intro s hs
      cases h : wholeB s
      · rw [(mem_none h).1]; omega
      · obtain ⟨_, h1, h2⟩ := whole_parts h
        have hz : (s.extract (memSize s) s.size).size = s.size - memSize s := by simp
        rw [(mem_whole h).1]
        have := ih (s.extract (memSize s) s.size) (by omega)
        omega
  exact this s.size s (Nat.le_refl _)

theorem take4 (l : List UInt8) (h : 4 ≤ l.length) : l.take 4 = [l[0], l[1], l[2], l[3]] := by
  match l, h with
  | a :: b :: c :: d :: r, _ => rfl

theorem head_bytes (s : ByteArray) (h : 4 ≤ s.size) : ((s.extract 0 4).toList == [80, 75, 3, 4]) = (s[0] == 80 && s[1] == 75 && s[2] == 3 && s[3] == 4) := by
  have e : (s.extract 0 4).toList = [s[0], s[1], s[2], s[3]] := by
    rw [Lib.toList_data]
    have e2 : (s.extract 0 4).data.toList = s.data.toList.take 4 := by simp
    rw [e2, take4 _ (by rw [← Lib.size_eq]; exact h)]
    rfl
  rw [e]
  rw [Bool.eq_iff_iff]
  simp [and_assoc]

theorem head_ints (s : ByteArray) (h : 30 ≤ s.size) (i0 i1 i2 i3 : Int) (e0 : (s[0].toNat : Int) = i0) (e1 : (s[1].toNat : Int) = i1) (e2 : (s[2].toNat : Int) = i2) (e3 : (s[3].toNat : Int) = i3) :
    (headB s = true → i0 = 80 ∧ i1 = 75 ∧ i2 = 3 ∧ i3 = 4) ∧
    (headB s = false → (i0 == 80) = false ∨ (i0 = 80 ∧ (i1 == 75) = false) ∨ (i0 = 80 ∧ i1 = 75 ∧ (i2 == 3) = false) ∨ (i0 = 80 ∧ i1 = 75 ∧ i2 = 3 ∧ (i3 == 4) = false)) := by
  have hb : headB s = (s[0] == 80 && s[1] == 75 && s[2] == 3 && s[3] == 4) := by
    unfold headB; rw [decide_eq_true h, Bool.true_and]; exact head_bytes s (by omega)
  rw [hb]
  have f : ∀ (x : UInt8) (k : UInt8) (i : Int), (x.toNat : Int) = i → ((x == k) = (i == (k.toNat : Int))) := by
    intro x k i e
    subst e
    rw [Bool.eq_iff_iff, beq_iff_eq, beq_iff_eq, ← UInt8.toNat_inj]
    omega
  rw [f _ 80 i0 e0, f _ 75 i1 e1, f _ 3 i2 e2, f _ 4 i3 e3]
  show (((i0 == 80) && (i1 == 75) && (i2 == 3) && (i3 == 4)) = true → _) ∧ (((i0 == 80) && (i1 == 75) && (i2 == 3) && (i3 == 4)) = false → _)
  cases h0 : (i0 == 80) <;> cases h1 : (i1 == 75) <;> cases h2 : (i2 == 3) <;> cases h3 : (i3 == 4) <;> simp_all

theorem low_two (s : ByteArray) (k : Nat) (h : k + 2 ≤ s.size) : lowB (s.extract k (k + 2)) = s[k].toNat + 256 * s[k + 1].toNat := by
  have e : (s.extract k (k + 2)).data.toList = [s[k], s[k + 1]] := by
    apply List.ext_getElem
    · simp; omega
    · intro i h1 h2
      simp at h2
      have : i = 0 ∨ i = 1 := by omega
      rcases this with rfl | rfl <;> simp [ByteArray.getElem_eq_getElem_data]
  unfold lowB
  rw [e]
  simp [lowN]

theorem low_four (s : ByteArray) (k : Nat) (h : k + 4 ≤ s.size) : lowB (s.extract k (k + 4)) = s[k].toNat + 256 * s[k + 1].toNat + 65536 * (s[k + 2].toNat + 256 * s[k + 3].toNat) := by
  have e : (s.extract k (k + 4)).data.toList = [s[k], s[k + 1], s[k + 2], s[k + 3]] := by
    apply List.ext_getElem
    · simp; omega
    · intro i h1 h2
      simp at h2
      have : i = 0 ∨ i = 1 ∨ i = 2 ∨ i = 3 := by omega
      rcases this with rfl | rfl | rfl | rfl <;> simp [ByteArray.getElem_eq_getElem_data]
  unfold lowB
  rw [e]
  simp [lowN]
  omega

/-- Two bytes from a place on, as a number. -/
def twoN (s : ByteArray) (k : Nat) : Nat := lowB (s.extract k (k + 2))

theorem twoN_lt (s : ByteArray) (k : Nat) : twoN s k < 65536 := by
  have h := lowN_lt (s.extract k (k + 2)).data.toList
  have h2 : (s.extract k (k + 2)).data.toList.length ≤ 2 := by simp; omega
  exact Nat.lt_of_lt_of_le h (Nat.le_trans (Nat.pow_le_pow_right (by decide) h2) (by decide))

theorem memSize_two (s : ByteArray) (h : 30 ≤ s.size) : memSize s = 30 + twoN s 26 + twoN s 28 + twoN s 18 + 65536 * twoN s 20 := by
  unfold memSize
  have h5 : lowB (s.extract 18 22) = s[18].toNat + 256 * s[19].toNat + 65536 * (s[20].toNat + 256 * s[21].toNat) := low_four s 18 (by omega)
  have h1 : twoN s 18 = s[18].toNat + 256 * s[19].toNat := low_two s 18 (by omega)
  have h2 : twoN s 20 = s[20].toNat + 256 * s[21].toNat := low_two s 20 (by omega)
  have h3 : lowB (s.extract 26 28) = twoN s 26 := rfl
  have h4 : lowB (s.extract 28 30) = twoN s 28 := rfl
  rw [h3, h4, h5, h1, h2]
  omega

end Go.Proofs.Ytcpjokjfjhhndaa
