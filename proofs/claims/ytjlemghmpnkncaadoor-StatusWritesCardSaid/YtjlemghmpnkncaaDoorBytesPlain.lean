/-
  What bytes are, in plain Lean: no program in sight.
-/
import Derived.Lib.Strings
import Derived.Lib.Bytealg
namespace Go.Proofs.YtjlemghmpnkncaaDoor

def isSmall (b : UInt8) : Bool := 97 ≤ b && b ≤ 122
def isGreat (b : UInt8) : Bool := 65 ≤ b && b ≤ 90
def isDigit (b : UInt8) : Bool := 48 ≤ b && b ≤ 57
def isLetter (b : UInt8) : Bool := isSmall b || isGreat b
def signs : List UInt8 := [33, 35, 36, 37, 38, 39, 42, 43, 45, 46, 94, 95, 124, 126, 96]
def isToken (b : UInt8) : Bool := isLetter b || isDigit b || signs.contains b
def isWhite (b : UInt8) : Bool := b == 9 || b == 10 || b == 13 || b == 32
def isTab (b : UInt8) : Bool := b == 9 || b == 32
def isQuoted (b : UInt8) : Bool := b == 9 || 32 ≤ b && b ≤ 126 || 128 ≤ b
def hexOf (b : UInt8) : Int :=
  if isDigit b then b.toNat - 48 else if 97 ≤ b && b ≤ 102 then b.toNat - 97 + 10 else if 65 ≤ b && b ≤ 70 then b.toNat - 65 + 10 else -1
def lowOf (b : UInt8) : UInt8 := if isGreat b then b + 32 else b
def lowerL (l : List UInt8) : List UInt8 := l.map lowOf

theorem u8_le (a b : UInt8) : (a ≤ b) = (a.toNat ≤ b.toNat) := by rw [UInt8.le_iff_toNat_le]

theorem isSmall_eq (b : UInt8) : isSmall b = decide (97 ≤ b.toNat ∧ b.toNat ≤ 122) := by
  simp [isSmall, u8_le]

theorem isGreat_eq (b : UInt8) : isGreat b = decide (65 ≤ b.toNat ∧ b.toNat ≤ 90) := by
  simp [isGreat, u8_le]

theorem isDigit_eq (b : UInt8) : isDigit b = decide (48 ≤ b.toNat ∧ b.toNat ≤ 57) := by
  simp [isDigit, u8_le]

theorem all_u8 {p : UInt8 → Prop} (h : ∀ n : Fin 256, p (UInt8.ofNat n.val)) (b : UInt8) : p b := by
  have := h ⟨b.toNat, b.toNat_lt⟩
  simpa using this

theorem isWhite_eq (b : UInt8) : isWhite b = decide (b.toNat = 9 ∨ b.toNat = 10 ∨ b.toNat = 13 ∨ b.toNat = 32) :=
  all_u8 (p := fun b => isWhite b = decide (b.toNat = 9 ∨ b.toNat = 10 ∨ b.toNat = 13 ∨ b.toNat = 32)) (by decide +kernel) b

theorem isTab_eq (b : UInt8) : isTab b = decide (b.toNat = 9 ∨ b.toNat = 32) :=
  all_u8 (p := fun b => isTab b = decide (b.toNat = 9 ∨ b.toNat = 32)) (by decide +kernel) b

theorem isQuoted_eq (b : UInt8) : isQuoted b = decide (b.toNat = 9 ∨ (32 ≤ b.toNat ∧ b.toNat ≤ 126) ∨ 128 ≤ b.toNat) :=
  all_u8 (p := fun b => isQuoted b = decide (b.toNat = 9 ∨ (32 ≤ b.toNat ∧ b.toNat ≤ 126) ∨ 128 ≤ b.toNat)) (by decide +kernel) b

theorem isLetter_eq (b : UInt8) : isLetter b = decide ((97 ≤ b.toNat ∧ b.toNat ≤ 122) ∨ (65 ≤ b.toNat ∧ b.toNat ≤ 90)) := by
  simp [isLetter, isSmall, isGreat, u8_le]

theorem hexOf_eq (b : UInt8) : hexOf b = if 48 ≤ b.toNat ∧ b.toNat ≤ 57 then (b.toNat : Int) - 48 else if 97 ≤ b.toNat ∧ b.toNat ≤ 102 then (b.toNat : Int) - 97 + 10 else if 65 ≤ b.toNat ∧ b.toNat ≤ 70 then (b.toNat : Int) - 65 + 10 else -1 :=
  all_u8 (p := fun b => hexOf b = if 48 ≤ b.toNat ∧ b.toNat ≤ 57 then (b.toNat : Int) - 48 else if 97 ≤ b.toNat ∧ b.toNat ≤ 102 then (b.toNat : Int) - 97 + 10 else if 65 ≤ b.toNat ∧ b.toNat ≤ 70 then (b.toNat : Int) - 65 + 10 else -1) (by decide +kernel) b

theorem lowOf_toNat (b : UInt8) : (lowOf b).toNat = if 65 ≤ b.toNat ∧ b.toNat ≤ 90 then b.toNat + 32 else b.toNat :=
  all_u8 (p := fun b => (lowOf b).toNat = if 65 ≤ b.toNat ∧ b.toNat ≤ 90 then b.toNat + 32 else b.toNat) (by decide +kernel) b

theorem beq_u8 (a b : UInt8) : (a == b) = decide ((a.toNat : Int) = (b.toNat : Int)) := by
  rw [Bool.eq_iff_iff]; rw [beq_iff_eq, decide_eq_true_eq, ← UInt8.toNat_inj]; omega

theorem bytes_small (b : UInt8) : (0 : Int) ≤ b.toNat ∧ (b.toNat : Int) ≤ 255 := by
  have := b.toNat_lt; omega

theorem indexByte_has (l : List UInt8) (c : UInt8) : (0 ≤ Lib.indexByte l c) = (l.contains c = true) := by
  induction l with
  | nil => simp [Lib.indexByte]
  | cons x l ih =>
    have hg := Lib.indexByte_ge l c
    unfold Lib.indexByte
    by_cases h : (x == c) = true
    · have : c = x := by simpa using (beq_iff_eq.1 h).symm
      simp [this]
    · have hx : ¬ c = x := fun e => h (by simp [e])
      have h' : (x == c) = false := by simpa using h
      rw [h']
      simp only [Bool.false_eq_true, if_false, List.contains_cons]
      have e1 : (c == x) = false := by simpa using hx
      rw [e1, Bool.false_or, ← ih]
      by_cases hm : Lib.indexByte l c = -1
      · rw [hm]; simp
      · have : (Lib.indexByte l c == -1) = false := by simpa using hm
        rw [this]; simp; omega

/-- Does a text hold a byte? -/
def hasB (s : ByteArray) (b : UInt8) : Bool := s.data.toList.contains b

theorem getElem_data (s : ByteArray) (k : Nat) (hk : k < s.size) : s[k] = s.data.toList[k]'(by rw [← Lib.size_eq]; exact hk) := by
  simp [ByteArray.getElem_eq_getElem_data]

theorem hasB_at {s : ByteArray} {b : UInt8} {k : Nat} (hk : k < s.size) (h : (((s[k]).toNat : Int) == (b.toNat : Int)) = true) : hasB s b = true := by
  have e : s[k] = b := by rw [beq_iff_eq] at h; exact UInt8.toNat_inj.1 (by omega)
  unfold hasB
  rw [List.contains_iff_mem, ← e, getElem_data s k hk]
  exact List.getElem_mem _

theorem hasB_none {s : ByteArray} {b : UInt8} (h : ∀ j (hj : j < s.size), s[j] ≠ b) : hasB s b = false := by
  unfold hasB
  rw [Bool.eq_false_iff]
  intro hc
  rw [List.contains_iff_mem] at hc
  obtain ⟨j, hj, e⟩ := List.mem_iff_getElem.1 hc
  rw [← Lib.size_eq] at hj
  exact h j hj (by rw [getElem_data s j hj]; exact e)

theorem u8_ne {a b : UInt8} (h : (((a).toNat : Int) == (b.toNat : Int)) = false) : a ≠ b := by
  rintro rfl
  simp at h

/-- None of the first k digits, small or great, is the byte. -/
def NoHex (b : UInt8) (k : Nat) : Prop := hexOf b < 0 ∨ (k : Int) ≤ hexOf b

theorem noHex_zero (b : UInt8) : NoHex b 0 := by unfold NoHex; omega

theorem noHex_end {b : UInt8} (h : NoHex b 16) : hexOf b = -1 := by
  have := hexOf_eq b
  unfold NoHex at h
  revert this
  (repeat' split) <;> omega

theorem hexS : ∀ k : Fin 16, hexOf (({ data := #[48, 49, 50, 51, 52, 53, 54, 55, 56, 57, 97, 98, 99, 100, 101, 102] } : ByteArray)[k.val]'(by have := k.isLt; exact this)) = k.val := by decide +kernel

theorem hexT : ∀ k : Fin 16, hexOf (({ data := #[48, 49, 50, 51, 52, 53, 54, 55, 56, 57, 65, 66, 67, 68, 69, 70] } : ByteArray)[k.val]'(by have := k.isLt; exact this)) = k.val := by decide +kernel

theorem hex_at1 {b : UInt8} {k : Nat} (hk : k < 16) (h : ((({ data := #[48, 49, 50, 51, 52, 53, 54, 55, 56, 57, 97, 98, 99, 100, 101, 102] } : ByteArray)[k]'hk).toNat : Int) = b.toNat) : hexOf b = k := by
  have e : ({ data := #[48, 49, 50, 51, 52, 53, 54, 55, 56, 57, 97, 98, 99, 100, 101, 102] } : ByteArray)[k]'hk = b := UInt8.toNat_inj.1 (by omega)
  rw [← e]
  exact hexS ⟨k, hk⟩

theorem hex_at2 {b : UInt8} {k : Nat} (hk : k < 16) (h0 : ¬ ((({ data := #[48, 49, 50, 51, 52, 53, 54, 55, 56, 57, 97, 98, 99, 100, 101, 102] } : ByteArray)[k]'hk).toNat : Int) = b.toNat)
    (h : (((({ data := #[48, 49, 50, 51, 52, 53, 54, 55, 56, 57, 97, 98, 99, 100, 101, 102] } : ByteArray)[k]'hk).toNat : Int) == b.toNat) = true ∨ (((({ data := #[48, 49, 50, 51, 52, 53, 54, 55, 56, 57, 65, 66, 67, 68, 69, 70] } : ByteArray)[k]'hk).toNat : Int) == b.toNat) = true) : hexOf b = k := by
  have e : ({ data := #[48, 49, 50, 51, 52, 53, 54, 55, 56, 57, 65, 66, 67, 68, 69, 70] } : ByteArray)[k]'hk = b := UInt8.toNat_inj.1 (by
    rcases h with h | h
    · exact absurd (beq_iff_eq.1 h) h0
    · have := beq_iff_eq.1 h; omega)
  rw [← e]
  exact hexT ⟨k, hk⟩

theorem hex_back (b : UInt8) (k : Fin 16) : hexOf b = k.val → b = ({ data := #[48, 49, 50, 51, 52, 53, 54, 55, 56, 57, 97, 98, 99, 100, 101, 102] } : ByteArray)[k.val]'(by have := k.isLt; exact this) ∨ b = ({ data := #[48, 49, 50, 51, 52, 53, 54, 55, 56, 57, 65, 66, 67, 68, 69, 70] } : ByteArray)[k.val]'(by have := k.isLt; exact this) :=
  all_u8 (p := fun b => ∀ k : Fin 16, hexOf b = k.val → b = ({ data := #[48, 49, 50, 51, 52, 53, 54, 55, 56, 57, 97, 98, 99, 100, 101, 102] } : ByteArray)[k.val]'(by have := k.isLt; exact this) ∨ b = ({ data := #[48, 49, 50, 51, 52, 53, 54, 55, 56, 57, 65, 66, 67, 68, 69, 70] } : ByteArray)[k.val]'(by have := k.isLt; exact this)) (by decide +kernel) b k

theorem noHex_step {b : UInt8} {k : Nat} (hn : NoHex b k) (hk : k < 16) (h0 : ¬ ((({ data := #[48, 49, 50, 51, 52, 53, 54, 55, 56, 57, 97, 98, 99, 100, 101, 102] } : ByteArray)[k]'hk).toNat : Int) = b.toNat)
    (h : (((({ data := #[48, 49, 50, 51, 52, 53, 54, 55, 56, 57, 97, 98, 99, 100, 101, 102] } : ByteArray)[k]'hk).toNat : Int) == b.toNat) = false ∧ (((({ data := #[48, 49, 50, 51, 52, 53, 54, 55, 56, 57, 65, 66, 67, 68, 69, 70] } : ByteArray)[k]'hk).toNat : Int) == b.toNat) = false) : NoHex b (k + 1) := by
  unfold NoHex at *
  rcases hn with hn | hn
  · exact .inl hn
  · by_cases e : hexOf b = k
    · rcases hex_back b ⟨k, hk⟩ e with e' | e'
      · exact absurd (by rw [e']) h0
      · have h2 := h.2
        rw [e'] at h2
        simp at h2
    · omega

end Go.Proofs.YtjlemghmpnkncaaDoor
