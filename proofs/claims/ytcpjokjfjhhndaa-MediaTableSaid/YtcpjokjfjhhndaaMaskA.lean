/-
  Walks of package mask and its reference: one pattern.
-/
import Derived.Test.YtcpjokjfjhhndaaMaskPlain
import Derived.Test.YtcpjokjfjhhndaaClassB
import Derived.Laws.BitsAllLaws
import Derived.Deep.DeepCutAuto
namespace Go.Proofs.Ytcpjokjfjhhndaa
open Go.RowKit
set_option linter.unusedSimpArgs false
set_option linter.unusedVariables false

/-- A pattern, as a value. -/
abbrev patV (b m k t : ByteArray) : Value := .agg #[.string b, .string m, .string k, .string t]

theorem and_bytes (x y : UInt8) : bits .and .u8 (x.toNat : Int) (y.toNat : Int) = ((x &&& y).toNat : Int) := by
  rw [u8_and_nat _ _ x.toNat_lt y.toNat_lt, UInt8.toNat_and]

theorem good_mask (b m k t : ByteArray) (w : World) (hb : b.size ≤ maxLen) (hm : m.size ≤ maxLen) :
    Calls Try.prog 66 #[patV b m k t] w fun e w' => e = .returned (.bool (goodM b m)) ∧ Below w.heap.size w w' := by
  unfold maxLen at hb hm
  go_enter Try.func66, Try.ntmps66
  go_wp2
  all_goals go_ret
  all_goals exact ⟨ret_bool (by unfold goodM; exact (by (try simp only [Bool.not_eq_true', Bool.not_eq_false', Bool.and_eq_true, Bool.or_eq_true, Bool.and_eq_false_iff, Bool.or_eq_false_iff, beq_iff_eq, beq_eq_false_iff_ne, bne_iff_ne, bne_eq_false_iff_eq, decide_eq_true_eq, decide_eq_false_iff_not, ne_eq, Int.not_le, Int.not_lt] at *); first | done | rfl | exact decide_eq_decide.2 (by omega) | exact (decide_eq_false (by omega)).symm | exact (decide_eq_true (by omega)).symm | exact decide_eq_false (by omega) | exact decide_eq_true (by omega) | (rw [Bool.eq_iff_iff]; simp only [Bool.or_eq_true, Bool.and_eq_true, beq_iff_eq, bne_iff_ne, ne_eq, decide_eq_true_eq, Bool.not_eq_true, Bool.false_eq_true, true_iff, false_iff, iff_true, iff_false] <;> omega))), below_box _ _⟩

theorem Good_mask (b m k t : ByteArray) (w : World) (hb : b.size ≤ maxLen) (hm : m.size ≤ maxLen) :
    Calls Try.prog 24 #[patV b m k t] w fun e w' => e = .returned (.bool (goodM b m)) ∧ Below w.heap.size w w' := by
  go_enter Try.func24, Try.ntmps24
  go_wp2_with (go_at_call 66; refine (good_mask _ _ _ _ _ hb hm).mono ?_; rintro e w' ⟨rfl, hb⟩)
  go_ret
  exact ⟨rfl, below_after hb⟩

/-- How many bytes that may be passed over stand ahead. -/
def aheadN (s k : ByteArray) : Nat := spanN (fun x => k.data.toList.contains x) s.data.toList

theorem indexByte_geq (k : ByteArray) (x : UInt8) (r : Bool) (h : k.data.toList.contains x = r) : decide (0 ≤ Lib.indexByte k.data.toList x) = r := by
  rw [← h, Bool.eq_iff_iff, decide_eq_true_eq, indexByte_has]

set_option maxHeartbeats 400000 in
theorem begins_any (s b m k t : ByteArray) (w : World) (hs : s.size ≤ maxLen) :
    Calls Try.prog 68 #[.string s, patV b m k t] w fun e w' => e = .returned (.int .i64 (aheadN s k)) ∧ Below w.heap.size w w' := by
  unfold maxLen at hs
  have hw := Lib.hid (below_box w (.cells #[.string b, .string m, .string k, .string t] 25))
  go_enter Try.func68, Try.ntmps68
  go_wp2_with fail
  go_loopw [5] (fun i wr => ∃ n : Nat, n ≤ s.size ∧ i = .int .i64 n ∧ AllTo (fun x => k.data.toList.contains x) s n ∧ Drew (w.alloc (.cells #[.string b, .string m, .string k, .string t] 25)) wr) (fun i _ => s.size - (intOf i).toNat)
  case atStart => exact ⟨0, Nat.zero_le _, rfl, fun j _ h => by omega, Drew.refl _⟩
  case round =>
    obtain ⟨n, hn, rfl, hp, nd, rfl⟩ := hrel
    have HP := Lib.hid hp; clear hp
    by_cases hlt : n < s.size
    · have hidx := index_byte (P := Try.prog) 9 Try.underlying9 s n hlt
      cases hb : k.data.toList.contains s[n]
      · have HS := Lib.hid (show aheadN s k = n from spanN_of (fun x => k.data.toList.contains x) s n hn HP.out fun _ => hb)
        have hi := indexByte_geq k s[n] _ hb
        have HB := Lib.hid hb; clear hb
        generalize s[n] = x at *
        go_wp2_with fail
        go_quiet ((go_at_call 88; exact quiet_add_left (IndexByte_any _ _ _)))
        go_wp2_with fail
        go_ret
        exact ⟨ret_int (by rw [HS.out]), below_drewN (below_drewN hw.out _) _⟩
      · have HS := Lib.hid (allTo_step HP.out hlt hb)
        have hi := indexByte_geq k s[n] _ hb
        have HB := Lib.hid hb; clear hb
        generalize s[n] = x at *
        go_wp2_with fail
        go_quiet ((go_at_call 88; exact quiet_add_left (IndexByte_any _ _ _)))
        go_wp2_with fail
        go_roundw
        case rel => exact ⟨n + 1, by omega, by go_num, HS.out, ⟨_, rfl⟩⟩
        case measure => simp [intOf]; omega
    · obtain rfl : n = s.size := by omega
      have HS := Lib.hid (show aheadN s k = s.size from spanN_of (fun x => k.data.toList.contains x) s s.size (Nat.le_refl _) HP.out fun h => absurd h hlt)
      go_wp2_with fail
      go_quiet (fail)
      go_wp2_with fail
      go_ret
      exact ⟨ret_int (by rw [HS.out]), below_drewN (below_drewN hw.out _) _⟩

theorem Begins_mask (s b m k t : ByteArray) (w : World) (hs : s.size ≤ maxLen) :
    Calls Try.prog 26 #[.string s, patV b m k t] w fun e w' => e = .returned (.int .i64 (aheadN s k)) ∧ Below w.heap.size w w' := by
  go_enter Try.func26, Try.ntmps26
  go_wp2_with (go_at_call 68; refine (begins_any _ _ _ _ _ _ hs).mono ?_; rintro e w' ⟨rfl, hb⟩)
  go_ret
  exact ⟨rfl, below_after hb⟩

theorem aheadN_le (s k : ByteArray) : aheadN s k ≤ s.size := by
  unfold aheadN
  rw [Lib.size_eq]
  exact spanN_le _ _

/-- A text behind the bytes that are passed over. -/
def restM (s k : ByteArray) : ByteArray := s.extract (aheadN s k) s.size

theorem restM_data (s k : ByteArray) : (restM s k).data.toList = behind s.data.toList k.data.toList := by
  unfold restM behind aheadN spanN
  rw [Lib.extract_data, List.take_of_length_le (by rw [List.length_drop, Lib.size_eq]; omega)]
  induction s.data.toList with
  | nil => rfl
  | cons x l ih =>
    by_cases hx : (fun x => k.data.toList.contains x) x = true
    · rw [List.takeWhile_cons_of_pos hx, List.dropWhile_cons_of_pos hx]
      exact ih
    · rw [List.takeWhile_cons_of_neg hx, List.dropWhile_cons_of_neg hx]
      rfl

theorem restM_le (s k : ByteArray) : (restM s k).size ≤ s.size := by unfold restM; rw [extract_size]; omega

/-- What 'fits' answers: whether the bytes agree, as far as both go; and, if they do, how far that is. -/
def Fitted (t b m : ByteArray) (w : World) (e : Ending) (w' : World) : Prop :=
  ∃ n : Int, e = .returned (.tuple #[.int .i64 n, .bool (agreeL t.data.toList b.data.toList m.data.toList)]) ∧ (agreeL t.data.toList b.data.toList m.data.toList = true → n = (min t.size b.size : Nat)) ∧ Below w.heap.size w w'

theorem neq_bytes (x y z : UInt8) : (bits .and .u8 (x.toNat : Int) (y.toNat : Int) != (z.toNat : Int)) = !decide ((x &&& y) = z) := by
  rw [and_bytes, Bool.eq_iff_iff]
  simp only [bne_iff_ne, ne_eq, Bool.not_eq_true', decide_eq_false_iff_not]
  rw [← UInt8.toNat_inj]
  omega

set_option maxHeartbeats 1000000 in
theorem fits_any (s b m k t : ByteArray) (w : World) (hs : s.size ≤ maxLen) (hb : b.size ≤ maxLen) (hm : m.size = b.size) :
    Calls Try.prog 67 #[.string s, patV b m k t] w (Fitted (restM s k) b m w) := by
  have hle := aheadN_le s k
  have htl := restM_le s k
  have hs2 : s.size ≤ 9223372036854775807 := by unfold maxLen at hs; omega
  have hb2 : b.size ≤ 9223372036854775807 := by unfold maxLen at hb; omega
  generalize ht : restM s k = t at *
  have HT := Lib.hid ht
  have HM := Lib.hid hm
  clear ht hm
  go_enter Try.func67, Try.ntmps67
  go_upto_region 2 with fail
  go_wp2_with fail
  refine (begins_any s b m k _ _ hs).mono ?_
  rintro e w1 ⟨rfl, hb1⟩
  obtain ⟨hc1, hf1⟩ := bcell hb1
  have hz1 : w.heap.size < w1.heap.size := by have := hb1.size; simp at this; omega
  have p0 : w1.cell? ⟨w.heap.size, 0, none⟩ = some (.string b) := by rw [hc1 _ _ (by simp)]; simp [go_sem]
  have p1 : w1.cell? ⟨w.heap.size, 1, none⟩ = some (.string m) := by rw [hc1 _ _ (by simp)]; simp [go_sem]
  have HB1 := Lib.hid (below_after hb1)
  clear hb1 hc1 hf1
  go_upto_region 2 with fail
  rw [show s.extract (aheadN s k) s.size = t from HT.out]
  go_cut [6] (fun s6 wx => s6 = .int .i64 ((min t.size b.size : Nat) : Int) ∧ w1 = wx)
  case first =>
    by_cases hc : b.size ≤ t.size
    · have e : min t.size b.size = b.size := by omega
      have H := Lib.hid e; clear e
      go_wp2_with fail
      all_goals go_meet
      all_goals exact ⟨congrArg (Value.int .i64) (by have := H.out; omega), rfl⟩
    · have e : min t.size b.size = t.size := by omega
      have H := Lib.hid e; clear e
      go_wp2_with fail
      all_goals go_meet
      all_goals exact ⟨congrArg (Value.int .i64) (by have := H.out; omega), rfl⟩
  obtain ⟨rfl, rfl⟩ := hcut
  have hm1 : min t.size b.size ≤ t.size := Nat.min_le_left _ _
  have hm2 : min t.size b.size ≤ b.size := Nat.min_le_right _ _
  generalize hmn : min t.size b.size = mn at *
  have HMN := Lib.hid hmn
  clear hmn
  go_wp2_with fail
  go_loopw [20] (fun i wr => ∃ n : Nat, n ≤ mn ∧ i = .int .i64 n ∧ AgreeTo t b m n ∧ Drew w1 wr) (fun i _ => mn - (intOf i).toNat)
  case atStart => exact ⟨0, Nat.zero_le _, rfl, agreeTo_zero _ _ _, Drew.refl _⟩
  case round =>
    obtain ⟨n, hn, rfl, ha, nd, rfl⟩ := hrel
    have HA := Lib.hid ha; clear ha
    by_cases hlt : n < mn
    · have h1 : n < t.size := by omega
      have h2 : n < b.size := by omega
      have h3 : n < m.size := by rw [HM.out]; exact h2
      have hx := index_byte (P := Try.prog) 9 Try.underlying9 t n h1
      have hy := index_byte (P := Try.prog) 9 Try.underlying9 m n h3
      have hz := index_byte (P := Try.prog) 9 Try.underlying9 b n h2
      have hq := neq_bytes t[n] m[n] b[n]
      by_cases he : (t[n] &&& m[n]) = b[n]
      · have HS := Lib.hid (agreeTo_step HA.out h1 h2 h3 he)
        have HQ : Hid ((!decide ((t[n] &&& m[n]) = b[n])) = false) := Lib.hid (by simp [he])
        rw [HQ.out] at hq
        clear he HQ
        generalize t[n] = x at *
        generalize m[n] = y at *
        generalize b[n] = z at *
        go_wp2_with fail
        go_quiet (fail)
        go_wp2_with fail
        go_roundw
        case rel => exact ⟨n + 1, by omega, by go_num, HS.out, ⟨_, rfl⟩⟩
        case measure => simp [intOf]; omega
      · have HS := Lib.hid (agree_miss HM.out h1 h2 h3 he)
        have HQ : Hid ((!decide ((t[n] &&& m[n]) = b[n])) = true) := Lib.hid (by simp [he])
        rw [HQ.out] at hq
        clear he HQ
        generalize t[n] = x at *
        generalize m[n] = y at *
        generalize b[n] = z at *
        go_wp2_with fail
        go_quiet (fail)
        go_wp2_with fail
        go_ret2
        exact ⟨n, by rw [HS.out] <;> rfl, (fun h => by rw [HS.out] at h; cases h), below_drewN (below_drewN HB1.out _) _⟩
    · obtain rfl : n = mn := by omega
      have HS : Hid (agreeL t.data.toList b.data.toList m.data.toList = true) := Lib.hid ((agree_of t b m HM.out).2 (by rw [HMN.out]; exact HA.out))
      go_wp2_with fail
      go_ret2
      exact ⟨n, by rw [HS.out] <;> rfl, (fun _ => by rw [HMN.out]), below_drewN HB1.out _⟩

/-- Does a text begin with a pattern? -/
def matchB (s b m k : ByteArray) : Bool := goodM b m && matchL s.data.toList b.data.toList m.data.toList k.data.toList

/-- Could a text, with more bytes, begin with a pattern? -/
def openB (s b m k : ByteArray) : Bool := goodM b m && openL s.data.toList b.data.toList m.data.toList k.data.toList

theorem goodM_eq {b m : ByteArray} (h : goodM b m = true) : m.size = b.size := by
  unfold goodM at h; rw [decide_eq_true_eq] at h; exact h.2.2

theorem matchL_eq (s b m k : ByteArray) : matchL s.data.toList b.data.toList m.data.toList k.data.toList = (agreeL (restM s k).data.toList b.data.toList m.data.toList && decide (b.size ≤ (restM s k).size)) := by
  unfold matchL
  rw [restM_data, Lib.size_eq, Lib.size_eq, restM_data]

theorem openL_eq (s b m k : ByteArray) : openL s.data.toList b.data.toList m.data.toList k.data.toList = (agreeL (restM s k).data.toList b.data.toList m.data.toList && decide ((restM s k).size < b.size)) := by
  unfold openL
  rw [restM_data, Lib.size_eq, Lib.size_eq, restM_data]

set_option maxHeartbeats 400000 in
theorem match_any (s b m k t : ByteArray) (w : World) (hs : s.size ≤ maxLen) (hb : b.size ≤ maxLen) (hm : m.size ≤ maxLen) :
    Calls Try.prog 65 #[.string s, patV b m k t] w fun e w' => e = .returned (.bool (matchB s b m k)) ∧ Below w.heap.size w w' := by
  cases hg : goodM b m
  · have H : Hid (matchB s b m k = false) := Lib.hid (by simp [matchB, hg])
    have HG := Lib.hid hg; clear hg
    go_enter Try.func65, Try.ntmps65
    go_wp2_with (go_at_call 66; refine (good_mask _ _ _ _ _ hb hm).mono ?_; rintro e w1 ⟨rfl, hb1⟩; rw [HG.out])
    go_ret
    exact ⟨ret_bool H.out.symm, below_after hb1⟩
  · have hmm := goodM_eq hg
    have H : Hid (matchB s b m k = (agreeL (restM s k).data.toList b.data.toList m.data.toList && decide (b.size ≤ (restM s k).size))) := Lib.hid (by rw [matchB, hg, matchL_eq]; rfl)
    have HG := Lib.hid hg; clear hg
    have HM := Lib.hid hmm; clear hmm
    have hb2 : b.size ≤ 9223372036854775807 := by unfold maxLen at hb; omega
    have hts := restM_le s k
    have hs2 : s.size ≤ 9223372036854775807 := by unfold maxLen at hs; omega
    go_enter Try.func65, Try.ntmps65
    go_wp2_with fail
    refine (good_mask _ _ _ _ _ hb hm).mono ?_
    rintro e w1 ⟨rfl, hb1⟩
    rw [HG.out]
    obtain ⟨hc1, hf1⟩ := bcell hb1
    have hz1 : w.heap.size < w1.heap.size := by have := hb1.size; simp at this; omega
    go_wp2_with fail
    refine (fits_any s b m k t _ hs hb HM.out).mono ?_
    rintro e w2 ⟨n, rfl, hn, hb2⟩
    have p0 : w2.cell? ⟨w.heap.size, 0, none⟩ = some (.string b) := by rw [cell_below hb2 hz1, hc1 _ _ (by simp)]; simp [go_sem]
    have HB := Lib.hid (below_trans (below_after hb1) hb2)
    clear hb1 hb2 hc1 hf1
    generalize restM s k = q at *
    generalize agreeL q.data.toList b.data.toList m.data.toList = a at *
    cases a
    · clear hn
      go_wp2_with fail
      go_ret
      exact ⟨ret_bool (by rw [H.out]; rfl), HB.out⟩
    · have hn2 := hn rfl
      subst hn2
      clear hn
      have e : ((((min q.size b.size : Nat) : Int)) == (b.size : Int)) = decide (b.size ≤ q.size) := by
        rw [Bool.eq_iff_iff, beq_iff_eq, decide_eq_true_eq]; omega
      generalize ((min q.size b.size : Nat) : Int) = z at *
      go_wp2_with fail
      go_ret
      exact ⟨ret_bool (by rw [H.out]; simp), HB.out⟩

end Go.Proofs.Ytcpjokjfjhhndaa
