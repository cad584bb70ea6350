/-
  Texts without what parts at their ends, in plain Lean.
-/
import Derived.Test.YtjlemghmpnkncaaDoorBytesPlain
namespace Go.Proofs.YtjlemghmpnkncaaDoor

/-- A text without bytes of a kind at its back. -/
def trimEnd (p : UInt8 → Bool) : List UInt8 → List UInt8
  | [] => []
  | x :: r => match trimEnd p r with
    | [] => if p x then [] else [x]
    | y :: t => x :: y :: t

theorem trimEnd_nil (p : UInt8 → Bool) : trimEnd p [] = [] := rfl

theorem trimEnd_snoc (p : UInt8 → Bool) (l : List UInt8) (y : UInt8) : trimEnd p (l ++ [y]) = if p y then trimEnd p l else l ++ [y] := by
  induction l with
  | nil => simp [trimEnd]
  | cons x l ih =>
    rw [List.cons_append, trimEnd, ih]
    by_cases h : p y = true
    · simp [h, trimEnd]
    · simp only [h, if_false, Bool.false_eq_true]
      cases l <;> simp

theorem trimEnd_le (p : UInt8 → Bool) (l : List UInt8) : (trimEnd p l).length ≤ l.length := by
  induction l with
  | nil => simp [trimEnd]
  | cons x l ih =>
    rw [trimEnd]
    split
    · rename_i h; split <;> simp
    · rename_i y t h; rw [h] at ih; simp at ih ⊢; omega

theorem trimEnd_take (p : UInt8 → Bool) (l : List UInt8) : l.take (trimEnd p l).length = trimEnd p l := by
  induction l with
  | nil => simp [trimEnd]
  | cons x l ih =>
    rw [trimEnd]
    split
    · split <;> simp
    · rename_i y t h
      rw [h] at ih
      simp at ih ⊢
      exact ih

theorem trimEnd_idem (p : UInt8 → Bool) (l : List UInt8) : trimEnd p (trimEnd p l) = trimEnd p l := by
  induction l with
  | nil => simp [trimEnd]
  | cons x l ih =>
    rw [trimEnd]
    split
    · split
      · rfl
      · rename_i h2; simp [trimEnd, h2]
    · rename_i y t h
      rw [h] at ih
      rw [trimEnd, ih]

theorem trimEnd_dropWhile (p : UInt8 → Bool) (l : List UInt8) : (trimEnd p l).dropWhile p = trimEnd p (l.dropWhile p) := by
  induction l with
  | nil => simp [trimEnd]
  | cons x l ih =>
    by_cases h : p x = true
    · rw [List.dropWhile_cons_of_pos h, ← ih, trimEnd]
      split
      · rename_i e; simp [h, e]
      · rename_i y t e; rw [List.dropWhile_cons_of_pos h, e]
    · rw [List.dropWhile_cons_of_neg h, trimEnd]
      split
      · simp [h]
      · rw [List.dropWhile_cons_of_neg h]

/-- A text without what parts at both ends. -/
def trimL (p : UInt8 → Bool) (l : List UInt8) : List UInt8 := trimEnd p (l.dropWhile p)

theorem dropWhile_idem (p : UInt8 → Bool) (l : List UInt8) : (l.dropWhile p).dropWhile p = l.dropWhile p := by
  induction l with
  | nil => rfl
  | cons x l ih =>
    by_cases h : p x = true
    · rw [List.dropWhile_cons_of_pos h, ih]
    · rw [List.dropWhile_cons_of_neg h, List.dropWhile_cons_of_neg h]

theorem trimL_idem (p : UInt8 → Bool) (l : List UInt8) : trimL p (trimL p l) = trimL p l := by
  unfold trimL
  rw [trimEnd_dropWhile, dropWhile_idem, trimEnd_idem]

theorem lowOf_idem (b : UInt8) : lowOf (lowOf b) = lowOf b :=
  all_u8 (p := fun b => lowOf (lowOf b) = lowOf b) (by decide +kernel) b

theorem lowerL_idem (l : List UInt8) : lowerL (lowerL l) = lowerL l := by
  simp only [lowerL, List.map_map]
  exact List.map_congr_left fun b _ => lowOf_idem b

/-- A text up to so many bytes. -/
def cutB (s : ByteArray) (n : Nat) : ByteArray := if n < s.size then s.extract 0 n else s

theorem cutB_size (s : ByteArray) (n : Nat) : (cutB s n).size = min n s.size := by
  unfold cutB
  split
  · rw [ByteArray.size_extract]; omega
  · omega

theorem extract_size (s : ByteArray) (a b : Nat) : (s.extract a b).size = min b s.size - a := by
  rw [ByteArray.size_extract]

theorem bytes_ext {a b : ByteArray} (h : a.data.toList = b.data.toList) : a = b := by
  rw [← Lib.mk_data a, ← Lib.mk_data b, h]

theorem extract_all (s : ByteArray) : s.extract 0 s.size = s := by
  apply bytes_ext
  rw [Lib.extract_data, List.drop_zero, Nat.sub_zero, List.take_of_length_le (by rw [← Lib.size_eq]; omega)]

theorem dropWhile_at (p : UInt8 → Bool) (l : List UInt8) (i : Nat) (hi : i < l.length) (h : p l[i] = true) : (l.drop (i + 1)).dropWhile p = (l.drop i).dropWhile p := by
  rw [List.drop_eq_getElem_cons hi, List.dropWhile_cons_of_pos h]

theorem dropWhile_stop (p : UInt8 → Bool) (l : List UInt8) (i : Nat) (hi : i < l.length) (h : ¬ p l[i] = true) : (l.drop i).dropWhile p = l.drop i := by
  rw [List.drop_eq_getElem_cons hi, List.dropWhile_cons_of_neg h]

theorem trimEnd_at (p : UInt8 → Bool) (l : List UInt8) (n : Nat) (hn : n < l.length) (h : p l[n] = true) : trimEnd p (l.take (n + 1)) = trimEnd p (l.take n) := by
  rw [List.take_succ_eq_append_getElem hn, trimEnd_snoc, if_pos h]

theorem trimEnd_stop (p : UInt8 → Bool) (l : List UInt8) (n : Nat) (hn : n < l.length) (h : ¬ p l[n] = true) : trimEnd p (l.take (n + 1)) = l.take (n + 1) := by
  rw [List.take_succ_eq_append_getElem hn, trimEnd_snoc, if_neg h]

/-- How many bytes of the first k are of a kind. -/
def cnt (p : UInt8 → Bool) (l : List UInt8) : Nat := (l.filter p).length

theorem cnt_le (p : UInt8 → Bool) (l : List UInt8) : cnt p l ≤ l.length := List.length_filter_le _ _

theorem cnt_at (p : UInt8 → Bool) (l : List UInt8) (k : Nat) (hk : k < l.length) : cnt p (l.take (k + 1)) = cnt p (l.take k) + if p l[k] then 1 else 0 := by
  rw [List.take_succ_eq_append_getElem hk]
  unfold cnt
  rw [List.filter_append]
  by_cases h : p l[k] = true <;> simp [h]

/-- The first k bytes are alike but for small and great letters. -/
def SameTo (a b : ByteArray) (k : Nat) : Prop := (lowerL a.data.toList).take k = (lowerL b.data.toList).take k

theorem sameTo_zero (a b : ByteArray) : SameTo a b 0 := by simp [SameTo]

theorem lowerL_at (s : ByteArray) (k : Nat) (hk : k < s.size) : (lowerL s.data.toList)[k]'(by rw [show (lowerL s.data.toList).length = s.size by simp [lowerL]]; exact hk) = lowOf s[k] := by
  simp [lowerL, ByteArray.getElem_eq_getElem_data]

theorem lowerL_length (s : ByteArray) : (lowerL s.data.toList).length = s.size := by simp [lowerL]

theorem sameTo_step {a b : ByteArray} {k : Nat} (h : SameTo a b k) (ha : k < a.size) (hb : k < b.size)
    (he : (((lowOf a[k]).toNat : Int) != ((lowOf b[k]).toNat : Int)) = false) : SameTo a b (k + 1) := by
  unfold SameTo at *
  rw [List.take_succ_eq_append_getElem (by rw [lowerL_length]; exact ha), List.take_succ_eq_append_getElem (by rw [lowerL_length]; exact hb), h, lowerL_at a k ha, lowerL_at b k hb]
  have : lowOf a[k] = lowOf b[k] := UInt8.toNat_inj.1 (by simp at he; exact_mod_cast he)
  rw [this]

theorem sameTo_miss {a b : ByteArray} {k : Nat} (ha : k < a.size) (hb : k < b.size)
    (he : (((lowOf a[k]).toNat : Int) != ((lowOf b[k]).toNat : Int)) = true) : (lowerL a.data.toList == lowerL b.data.toList) = false := by
  rw [beq_eq_false_iff_ne]
  intro e
  have h1 := lowerL_at a k ha
  have h2 := lowerL_at b k hb
  simp only [e] at h1
  rw [h1] at h2
  rw [h2] at he
  simp at he

theorem sameTo_all {a b : ByteArray} (hs : a.size = b.size) (h : SameTo a b a.size) : (lowerL a.data.toList == lowerL b.data.toList) = true := by
  unfold SameTo at h
  rw [beq_iff_eq]
  rwa [List.take_of_length_le (by rw [lowerL_length]; omega), List.take_of_length_le (by rw [lowerL_length]; omega)] at h

theorem same_size {a b : ByteArray} (h : ¬ a.size = b.size) : (lowerL a.data.toList == lowerL b.data.toList) = false := by
  rw [beq_eq_false_iff_ne]
  intro e
  have := congrArg List.length e
  rw [lowerL_length, lowerL_length] at this
  exact h this

theorem trimEnd_atB (p : UInt8 → Bool) (s : ByteArray) (n : Nat) (hn : n < s.size) (h : p s[n] = true) : trimEnd p (s.data.toList.take (n + 1)) = trimEnd p (s.data.toList.take n) :=
  trimEnd_at p _ n (by rw [← Lib.size_eq]; exact hn) (by rw [← getElem_data s n hn]; exact h)

theorem trimEnd_stopB (p : UInt8 → Bool) (s : ByteArray) (n : Nat) (hn : n < s.size) (h : p s[n] = false) : trimEnd p (s.data.toList.take (n + 1)) = s.data.toList.take (n + 1) :=
  trimEnd_stop p _ n (by rw [← Lib.size_eq]; exact hn) (by rw [← getElem_data s n hn, h]; simp)

theorem cnt_atB (p : UInt8 → Bool) (s : ByteArray) (k : Nat) (hk : k < s.size) : cnt p (s.data.toList.take (k + 1)) = cnt p (s.data.toList.take k) + if p s[k] then 1 else 0 := by
  rw [cnt_at p _ k (by rw [← Lib.size_eq]; exact hk), ← getElem_data s k hk]

theorem take_allB (s : ByteArray) : s.data.toList.take s.size = s.data.toList :=
  List.take_of_length_le (by rw [← Lib.size_eq]; omega)

theorem take_lengthB (s : ByteArray) (n : Nat) (h : n ≤ s.size) : (s.data.toList.take n).length = n := by
  rw [List.length_take, ← Lib.size_eq]; omega

theorem dropWhile_atB (p : UInt8 → Bool) (s : ByteArray) (i : Nat) (hi : i < s.size) (h : p s[i] = true) : (s.data.toList.drop (i + 1)).dropWhile p = (s.data.toList.drop i).dropWhile p :=
  dropWhile_at p _ i (by rw [← Lib.size_eq]; exact hi) (by rw [← getElem_data s i hi]; exact h)

theorem dropWhile_stopB (p : UInt8 → Bool) (s : ByteArray) (i : Nat) (hi : i < s.size) (h : p s[i] = false) : (s.data.toList.drop i).dropWhile p = s.data.toList.drop i :=
  dropWhile_stop p _ i (by rw [← Lib.size_eq]; exact hi) (by rw [← getElem_data s i hi, h]; simp)

theorem extract_from (s : ByteArray) (i : Nat) : s.extract i s.size = ⟨(s.data.toList.drop i).toArray⟩ := by
  rw [Lib.extract_eq, List.take_of_length_le]
  rw [List.length_drop, ← Lib.size_eq]; omega

theorem drop_endB (s : ByteArray) : s.data.toList.drop s.size = [] :=
  List.drop_of_length_le (by rw [← Lib.size_eq]; omega)

/-- A text without tabs and blanks at its back; without what parts at both ends. -/
def endsB (s : ByteArray) : ByteArray := ⟨(trimEnd isTab s.data.toList).toArray⟩

def trimB (s : ByteArray) : ByteArray := ⟨(trimL isWhite s.data.toList).toArray⟩

theorem trimB_idem (s : ByteArray) : trimB (trimB s) = trimB s := by
  unfold trimB; simp only [trimL_idem]

theorem endsB_idem (s : ByteArray) : endsB (endsB s) = endsB s := by
  unfold endsB; simp only [trimEnd_idem]

theorem trimB_le (s : ByteArray) : (trimB s).size ≤ s.size := by
  rw [Lib.size_eq, Lib.size_eq]
  exact Nat.le_trans (trimEnd_le _ _) (List.Sublist.length_le (List.dropWhile_sublist _))

theorem endsB_le (s : ByteArray) : (endsB s).size ≤ s.size := by
  rw [Lib.size_eq, Lib.size_eq]
  exact trimEnd_le _ _

theorem extract_trimEnd (p : UInt8 → Bool) (s : ByteArray) : s.extract 0 (trimEnd p s.data.toList).length = ⟨(trimEnd p s.data.toList).toArray⟩ := by
  rw [Lib.extract_eq, List.drop_zero, Nat.sub_zero, trimEnd_take]

theorem trimEnd_leB (p : UInt8 → Bool) (s : ByteArray) : (trimEnd p s.data.toList).length ≤ s.size := by
  rw [Lib.size_eq]; exact trimEnd_le p _

theorem trimB_of {s t : ByteArray} (ht : t.data.toList = trimEnd isWhite s.data.toList) {i : Nat} (h : t.data.toList.drop i = t.data.toList.dropWhile isWhite) : t.extract i t.size = trimB s := by
  rw [extract_from, h, ht, trimEnd_dropWhile]
  rfl

/-- Cutting one byte off the front, or the back. -/
theorem extract_one (t : ByteArray) : (t.extract 1 t.size).data.toList = t.data.toList.drop 1 := by
  rw [extract_from]

theorem extract_last (t : ByteArray) : (t.extract 0 (t.size - 1)).data.toList = t.data.toList.take (t.size - 1) := by
  rw [Lib.extract_data, List.drop_zero, Nat.sub_zero]

theorem endsB_stop {s t : ByteArray} (p : UInt8 → Bool) (ht : trimEnd p t.data.toList = trimEnd p s.data.toList) (h0 : 0 < t.size) (h : p t[t.size - 1] = false) : t = ⟨(trimEnd p s.data.toList).toArray⟩ := by
  have := trimEnd_stopB p t (t.size - 1) (by omega) h
  rw [show t.size - 1 + 1 = t.size by omega, take_allB] at this
  rw [← ht, this, Lib.mk_data]

theorem endsB_empty {s t : ByteArray} (p : UInt8 → Bool) (ht : trimEnd p t.data.toList = trimEnd p s.data.toList) (h0 : t.size = 0) : t = ⟨(trimEnd p s.data.toList).toArray⟩ := by
  rw [← ht]
  have : t.data.toList = [] := List.eq_nil_of_length_eq_zero (by rw [← Lib.size_eq]; exact h0)
  apply bytes_ext
  simp [this, trimEnd]

theorem endsB_step {s t : ByteArray} (p : UInt8 → Bool) (ht : trimEnd p t.data.toList = trimEnd p s.data.toList) (h0 : 0 < t.size) (h : p t[t.size - 1] = true) :
    trimEnd p (t.extract 0 (t.size - 1)).data.toList = trimEnd p s.data.toList := by
  have := trimEnd_atB p t (t.size - 1) (by omega) h
  rw [show t.size - 1 + 1 = t.size by omega, take_allB] at this
  rw [extract_last, ← this, ht]

theorem front_step {s t : ByteArray} (p : UInt8 → Bool) (ht : t.data.toList.dropWhile p = s.data.toList.dropWhile p) (h0 : 0 < t.size) (h : p t[0] = true) :
    (t.extract 1 t.size).data.toList.dropWhile p = s.data.toList.dropWhile p := by
  have := dropWhile_atB p t 0 h0 h
  rw [List.drop_zero] at this
  rw [extract_one t, ← ht, ← this]

theorem front_stop {s t : ByteArray} (p : UInt8 → Bool) (ht : t.data.toList.dropWhile p = s.data.toList.dropWhile p) (h0 : 0 < t.size) (h : p t[0] = false) :
    t.data.toList = s.data.toList.dropWhile p := by
  have := dropWhile_stopB p t 0 h0 h
  rw [List.drop_zero] at this
  rw [← ht, this]

theorem front_empty {s t : ByteArray} (p : UInt8 → Bool) (ht : t.data.toList.dropWhile p = s.data.toList.dropWhile p) (h0 : t.size = 0) :
    t.data.toList = s.data.toList.dropWhile p := by
  have : t.data.toList = [] := List.eq_nil_of_length_eq_zero (by rw [← Lib.size_eq]; exact h0)
  rw [← ht, this]
  rfl

theorem trimB_back {s t q : ByteArray} (ht : t.data.toList = s.data.toList.dropWhile isWhite) (hq : q = ⟨(trimEnd isWhite t.data.toList).toArray⟩) : q = trimB s := by
  rw [hq, ht]
  rfl

end Go.Proofs.YtjlemghmpnkncaaDoor
