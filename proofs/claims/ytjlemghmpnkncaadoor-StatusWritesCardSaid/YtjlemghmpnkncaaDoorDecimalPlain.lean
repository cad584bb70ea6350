/-
  Numbers in texts, in plain Lean.
-/
import Derived.Test.YtjlemghmpnkncaaDoorTextsPlain
namespace Go.Proofs.YtjlemghmpnkncaaDoor

def mostN : Nat := 9007199254740991

/-- The number of the digits of a text (whatever else it holds counts as some digit). -/
def valFrom (n : Nat) (l : List UInt8) : Nat := l.foldl (fun n b => 10 * n + (b.toNat - 48)) n
def valL (l : List UInt8) : Nat := valFrom 0 l

theorem valFrom_le (l : List UInt8) : ∀ n, n ≤ valFrom n l := by
  induction l with
  | nil => intro n; exact Nat.le_refl _
  | cons b l ih =>
    intro n
    have := ih (10 * n + (b.toNat - 48))
    unfold valFrom at this ⊢
    rw [List.foldl_cons]
    omega

theorem valL_take_le (l : List UInt8) (k : Nat) : valL (l.take k) ≤ valL l := by
  have h : valL l = valFrom (valL (l.take k)) (l.drop k) := by
    unfold valL valFrom
    rw [← List.foldl_append, List.take_append_drop]
  rw [h]
  exact valFrom_le _ _

theorem valL_at (s : ByteArray) (k : Nat) (hk : k < s.size) : valL (s.data.toList.take (k + 1)) = 10 * valL (s.data.toList.take k) + ((s[k]).toNat - 48) := by
  rw [List.take_succ_eq_append_getElem (by rw [← Lib.size_eq]; exact hk), ← getElem_data s k hk]
  unfold valL valFrom
  rw [List.foldl_append]
  rfl

/-- How many digits a text begins with. -/
def runL (l : List UInt8) : Nat := (l.takeWhile isDigit).length

theorem runL_le (l : List UInt8) : runL l ≤ l.length := (List.takeWhile_sublist _).length_le

theorem runL_leB (s : ByteArray) : runL s.data.toList ≤ s.size := by rw [Lib.size_eq]; exact runL_le _

/-- The first k bytes are digits. -/
def DigTo (s : ByteArray) (k : Nat) : Prop := (s.data.toList.take k).all isDigit = true

theorem digTo_zero (s : ByteArray) : DigTo s 0 := by simp [DigTo]

theorem digTo_step {s : ByteArray} {k : Nat} (h : DigTo s k) (hk : k < s.size) (hd : isDigit s[k] = true) : DigTo s (k + 1) := by
  unfold DigTo at *
  rw [List.take_succ_eq_append_getElem (by rw [← Lib.size_eq]; exact hk), List.all_append, h, ← getElem_data s k hk]
  simp [hd]

theorem runL_split (l : List UInt8) (k : Nat) (h : (l.take k).all isDigit = true) (hk : k ≤ l.length) : runL l = k + runL (l.drop k) := by
  induction k generalizing l with
  | zero => simp
  | succ k ih =>
    cases l with
    | nil => simp at hk
    | cons b l =>
      simp only [List.take_succ_cons, List.all_cons, Bool.and_eq_true] at h
      have := ih l h.2 (by simpa using hk)
      unfold runL at this ⊢
      rw [List.takeWhile_cons_of_pos h.1, List.length_cons, this, List.drop_succ_cons]
      omega

theorem runL_stop {s : ByteArray} {k : Nat} (h : DigTo s k) (hk : k < s.size) (hd : isDigit s[k] = false) : runL s.data.toList = k := by
  have hk' : k < s.data.toList.length := by rw [← Lib.size_eq]; exact hk
  rw [runL_split _ k h (by omega), List.drop_eq_getElem_cons hk', ← getElem_data s k hk]
  unfold runL
  rw [List.takeWhile_cons_of_neg (by simp [hd])]
  rfl

theorem runL_all {s : ByteArray} (h : DigTo s s.size) : runL s.data.toList = s.size := by
  rw [runL_split _ s.size h (by rw [← Lib.size_eq]; omega), drop_endB]
  rfl

theorem all_of_run {l : List UInt8} (h : runL l = l.length) : l.all isDigit = true := by
  induction l with
  | nil => rfl
  | cons b l ih =>
    unfold runL at h ih
    by_cases hb : isDigit b = true
    · rw [List.takeWhile_cons_of_pos hb] at h
      rw [List.all_cons, hb, Bool.true_and]
      exact ih (by simpa using h)
    · rw [List.takeWhile_cons_of_neg hb] at h
      simp at h

theorem run_of_all {l : List UInt8} (h : l.all isDigit = true) : runL l = l.length := by
  have := runL_split l l.length (by rw [List.take_length]; exact h) (Nat.le_refl _)
  rw [List.drop_length] at this
  exact this

theorem digTo_at {s : ByteArray} (h : s.data.toList.all isDigit = true) (k : Nat) (hk : k < s.size) : isDigit s[k] = true := by
  rw [getElem_data s k hk]
  exact List.all_eq_true.1 h _ (List.getElem_mem _)

/-- Which number a text is, and the code. -/
def parseOk (s : ByteArray) : Bool := !s.data.toList.isEmpty && s.data.toList.all isDigit
def parseN (s : ByteArray) : Int := if parseOk s = true ∧ valL s.data.toList ≤ mostN then (valL s.data.toList : Int) else 0
def parseE (s : ByteArray) : Int := if parseOk s = true then (if valL s.data.toList ≤ mostN then 0 else 9) else 2

theorem take_all_digits (l : List UInt8) : (l.take (runL l)).all isDigit = true := by
  induction l with
  | nil => rfl
  | cons b l ih =>
    unfold runL at *
    by_cases hb : isDigit b = true
    · rw [List.takeWhile_cons_of_pos hb, List.length_cons, List.take_succ_cons, List.all_cons, hb, ih]
      rfl
    · rw [List.takeWhile_cons_of_neg hb]
      rfl

/-- A nought ahead of another digit. -/
def strictOff (s : ByteArray) : Bool := decide (1 < s.size) && (s.data.toList.getD 0 0 == 48)
def strictN (s : ByteArray) : Int := if strictOff s then 0 else parseN s
def strictE (s : ByteArray) : Int := if strictOff s then 2 else parseE s

theorem strict_on {s : ByteArray} (h : strictOff s = true) : strictN s = 0 ∧ strictE s = 2 := by simp [strictN, strictE, h]

theorem strict_off {s : ByteArray} (h : strictOff s = false) : strictN s = parseN s ∧ strictE s = parseE s := by simp [strictN, strictE, h]

theorem strictOff_at (s : ByteArray) (h : 1 < s.size) : strictOff s = (((s[0]).toNat : Int) == 48) := by
  have e : s.data.toList.getD 0 0 = s[0] := by
    rw [getElem_data s 0 (by omega)]
    simp [List.getD, List.getElem?_eq_getElem (show 0 < s.data.toList.length by rw [← Lib.size_eq]; omega)]
  unfold strictOff
  rw [e, beq_u8, decide_eq_true h, Bool.true_and, Bool.eq_iff_iff, decide_eq_true_eq, beq_iff_eq]
  exact Iff.rfl

theorem strictOff_short (s : ByteArray) (h : ¬ 1 < s.size) : strictOff s = false := by
  simp [strictOff, h]

/-- Of a text: what stands in its first digits. -/
theorem extract_run (s : ByteArray) : (s.extract 0 (runL s.data.toList)).data.toList = s.data.toList.take (runL s.data.toList) := by
  rw [Lib.extract_data, List.drop_zero, Nat.sub_zero]

theorem extract_digits (s : ByteArray) : (s.extract 0 (runL s.data.toList)).data.toList.all isDigit = true := by
  rw [extract_run]; exact take_all_digits _

theorem parse_empty {s : ByteArray} (h : s.size = 0) : parseN s = 0 ∧ parseE s = 2 ∧ valL s.data.toList = 0 := by
  have : s.data.toList = [] := List.eq_nil_of_length_eq_zero (by rw [← Lib.size_eq]; exact h)
  simp [parseN, parseE, parseOk, this, valL, valFrom]

theorem parse_digits {s : ByteArray} (h0 : 0 < s.size) (hd : s.data.toList.all isDigit = true) :
    parseN s = (if valL s.data.toList ≤ mostN then (valL s.data.toList : Int) else 0) ∧ parseE s = (if valL s.data.toList ≤ mostN then 0 else 9) := by
  have hz : s.data.toList.isEmpty = false := by rw [List.isEmpty_eq_false_iff, ne_eq, ← List.length_eq_zero_iff, ← Lib.size_eq]; omega
  simp [parseN, parseE, parseOk, hz, hd]

theorem parse_bad {s : ByteArray} (hd : ¬ s.data.toList.all isDigit = true) : parseN s = 0 ∧ parseE s = 2 := by
  simp [parseN, parseE, parseOk, hd]

theorem not_all_at {s : ByteArray} {k : Nat} (hk : k < s.size) (hd : isDigit s[k] = false) : ¬ s.data.toList.all isDigit = true := by
  intro h
  rw [digTo_at h k hk] at hd
  exact absurd hd (by simp)

theorem all_of_digTo {s : ByteArray} (h : DigTo s s.size) : s.data.toList.all isDigit = true := by
  unfold DigTo at h
  rwa [take_allB] at h

end Go.Proofs.YtjlemghmpnkncaaDoor
