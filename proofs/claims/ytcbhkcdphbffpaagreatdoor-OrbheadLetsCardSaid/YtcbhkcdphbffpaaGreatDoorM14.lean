/-
  Lemmas of this claim, part 14: the texts DecimalA, LastIn2, StatF, RangA, RangPlain, RangLaw, RangR, PartPlain, RangV, one behind the other.
-/
import Derived.Test.YtcbhkcdphbffpaaGreatDoorM13
import Derived.Deep.RegionWith
import Derived.Conc.MuLone
import Derived.Deep.DeepCutAuto
import Derived.Lib.Strings

namespace Go.Proofs.YtcbhkcdphbffpaaGreatDoor
open Go.RowKit
set_option linter.unusedSimpArgs false
set_option linter.unusedVariables false

set_option maxRecDepth 20000 in
theorem digits_any (s : ByteArray) (w : World) (hs : s.size ≤ maxLen) :
    Calls Tryz.prog 195 #[.string s] w fun e w' => e = .returned (.int .i64 (runL s.data.toList)) ∧ w = w' := by
  unfold maxLen at hs
  go_enter Tryz.func195, Tryz.ntmps195
  go_wp2
  go_loop [3] (fun i => ∃ k : Nat, k ≤ s.size ∧ i = .int .i64 k ∧ DigTo s k) (fun i => s.size - (intOf i).toNat)
  case atStart => exact ⟨0, Nat.zero_le _, rfl, digTo_zero s⟩
  case round =>
    obtain ⟨k, hk, rfl, hp⟩ := hrel
    have HP := Lib.hid hp; clear hp
    by_cases hlt : k < s.size
    · cases hb : isDigit s[k]
      · have HB := Lib.hid hb; clear hb
        go_wp2_with (go_at_call 150; refine (Digit_any _ _).mono ?_; rintro e w' ⟨rfl, rfl⟩; rw [HB.out])
        go_ret
        exact ⟨ret_int (by rw [runL_stop HP.out hlt HB.out]), rfl⟩
      · have HB := Lib.hid hb; clear hb
        go_wp2_with (go_at_call 150; refine (Digit_any _ _).mono ?_; rintro e w' ⟨rfl, rfl⟩; rw [HB.out])
        go_round
        case rel => exact ⟨k + 1, by omega, by go_num, digTo_step HP.out hlt HB.out⟩
        case measure => simp [intOf]; omega
    · obtain rfl : k = s.size := by omega
      go_wp2
      go_ret
      exact ⟨ret_int (by rw [runL_all HP.out]), rfl⟩

set_option maxRecDepth 20000 in
theorem Run_any (s : ByteArray) (w : World) (hs : s.size ≤ maxLen) :
    Calls Tryz.prog 89 #[.string s] w fun e w' => e = .returned (.int .i64 (runL s.data.toList)) ∧ w = w' := by
  unfold maxLen at hs
  go_enter Tryz.func89, Tryz.ntmps89
  go_wp2
  go_loop [3] (fun i => ∃ k : Nat, k ≤ s.size ∧ i = .int .i64 k ∧ DigTo s k) (fun i => s.size - (intOf i).toNat)
  case atStart => exact ⟨0, Nat.zero_le _, rfl, digTo_zero s⟩
  case round =>
    obtain ⟨k, hk, rfl, hp⟩ := hrel
    have HP := Lib.hid hp; clear hp
    by_cases hlt : k < s.size
    · cases hb : isDigit s[k]
      · have HB := Lib.hid hb; clear hb
        go_wp2_with (go_at_call 122; refine (rDigit_any _ _).mono ?_; rintro e w' ⟨rfl, rfl⟩; rw [HB.out])
        go_ret
        exact ⟨ret_int (by rw [runL_stop HP.out hlt HB.out]), rfl⟩
      · have HB := Lib.hid hb; clear hb
        go_wp2_with (go_at_call 122; refine (rDigit_any _ _).mono ?_; rintro e w' ⟨rfl, rfl⟩; rw [HB.out])
        go_round
        case rel => exact ⟨k + 1, by omega, by go_num, digTo_step HP.out hlt HB.out⟩
        case measure => simp [intOf]; omega
    · obtain rfl : k = s.size := by omega
      go_wp2
      go_ret
      exact ⟨ret_int (by rw [runL_all HP.out]), rfl⟩

set_option maxRecDepth 20000 in
theorem dec_value_any (s : ByteArray) (w : World) (hs : s.size ≤ maxLen) (hd : s.data.toList.all isDigit = true) :
    Calls Tryz.prog 196 #[.string s] w fun e w' => e = .returned (.tuple #[.int .i64 (min (dec_valL s.data.toList) mostN : Nat), .bool (decide (dec_valL s.data.toList ≤ mostN))]) ∧ w = w' := by
  unfold maxLen at hs
  have HD := Lib.hid (digTo_at hd); clear hd
  go_enter Tryz.func196, Tryz.ntmps196
  go_wp2
  go_loop [4, 5, 8] (fun n i j => ∃ k : Nat, k ≤ s.size ∧ j = .int .i64 k ∧ n = .int .i64 (dec_valL (s.data.toList.take k)) ∧ dec_valL (s.data.toList.take k) ≤ mostN) (fun _ _ j => s.size - (intOf j).toNat)
  case atStart => exact ⟨0, Nat.zero_le _, rfl, rfl, Nat.zero_le _⟩
  case round =>
    obtain ⟨k, hk, rfl, rfl, hm⟩ := hrel
    unfold mostN at hm
    by_cases hlt : k < s.size
    · have hv := valL_at s k hlt
      have hx0 := HD.out k hlt
      have hle := valL_take_le s.data.toList (k + 1)
      have hidx := index_byte (P := Tryz.prog) 9 Tryz.underlying9 s k hlt
      generalize hx : s[k] = x at *
      have HX := Lib.hid hx; clear hx
      rw [isDigit_eq, decide_eq_true_eq] at hx0
      have hx1 : (48 : Int) ≤ x.toNat ∧ (x.toNat : Int) ≤ 57 := by omega
      clear hx0
      generalize hw0 : dec_valL (s.data.toList.take k) = n at *
      have hn : (n : Int) ≤ 9007199254740991 := by omega
      have HV := Lib.hid hv; have HL := Lib.hid hle
      clear hv hle hw0 hm
      go_wp2
      · go_ret2
        exact ⟨ret_ib (by have h1 := HV.out; have h2 := HL.out; unfold mostN; omega) (decide_eq_false (by have h1 := HV.out; have h2 := HL.out; unfold mostN; omega)).symm, rfl⟩
      · go_round
        case rel => exact ⟨k + 1, by omega, by go_num, by rw [HV.out]; exact congrArg _ (by omega), by rw [HV.out]; unfold mostN; omega⟩
        case measure => simp [intOf]; omega
    · obtain rfl : k = s.size := by omega
      rw [take_allB] at *
      have HM : Hid (dec_valL s.data.toList ≤ mostN) := Lib.hid hm
      clear hm
      go_wp2
      go_ret2
      exact ⟨ret_ib (by rw [Nat.min_eq_left HM.out]) (by rw [decide_eq_true HM.out]), rfl⟩

theorem parse_any (s : ByteArray) (w : World) (hs : s.size ≤ maxLen) :
    Calls Tryz.prog 177 #[.string s] w fun e w' => e = .returned (.tuple #[.int .i64 (parseN s), .int .i64 (parseE s)]) ∧ w = w' := by
  have hs' := hs
  unfold maxLen at hs'
  have hr := runL_leB s
  by_cases h0 : s.size = 0
  · have hz : s.toList.isEmpty = true := by rw [Lib.toList_data, List.isEmpty_iff, ← List.length_eq_zero_iff, ← Lib.size_eq]; exact h0
    have H : Hid (parseN s = 0 ∧ parseE s = 2) := Lib.hid (by
      rw [Lib.toList_data] at hz
      simp [parseN, parseE, parseOk, hz])
    clear h0
    go_enter Tryz.func177, Tryz.ntmps177
    go_wp2
    go_ret2
    exact ⟨ret_ii H.out.1.symm H.out.2.symm, rfl⟩
  · have hz : s.toList.isEmpty = false := by rw [Lib.toList_data, List.isEmpty_eq_false_iff, ne_eq, ← List.length_eq_zero_iff, ← Lib.size_eq]; exact h0
    have hz' : s.data.toList.isEmpty = false := by rw [← Lib.toList_data]; exact hz
    by_cases hall : s.data.toList.all isDigit = true
    · have hrun := run_of_all hall
      rw [← Lib.size_eq] at hrun
      have HRUN := Lib.hid hrun
      have hno : ¬ runL s.data.toList < s.size := by omega
      clear hrun
      by_cases hm : dec_valL s.data.toList ≤ mostN
      · have H : Hid (parseN s = (min (dec_valL s.data.toList) mostN : Nat) ∧ parseE s = 0) := Lib.hid (by
          rw [Nat.min_eq_left hm]; simp [parseN, parseE, parseOk, hz', hall, hm])
        have HM := Lib.hid (decide_eq_true hm)
        clear hm hz'
        go_enter Tryz.func177, Tryz.ntmps177
        go_wp2_with (first | (go_at_call 195; refine (digits_any _ _ hs).mono ?_; rintro e w' ⟨rfl, rfl⟩) | (go_at_call 196; refine (dec_value_any _ _ hs hall).mono ?_; rintro e w' ⟨rfl, rfl⟩; rw [HM.out]))
        go_ret2
        exact ⟨ret_ii H.out.1.symm H.out.2.symm, rfl⟩
      · have H : Hid (parseN s = 0 ∧ parseE s = 9) := Lib.hid (by
          simp [parseN, parseE, parseOk, hz', hall, hm])
        have HM := Lib.hid (decide_eq_false hm)
        clear hm hz'
        go_enter Tryz.func177, Tryz.ntmps177
        go_wp2_with (first | (go_at_call 195; refine (digits_any _ _ hs).mono ?_; rintro e w' ⟨rfl, rfl⟩) | (go_at_call 196; refine (dec_value_any _ _ hs hall).mono ?_; rintro e w' ⟨rfl, rfl⟩; rw [HM.out]))
        go_ret2
        exact ⟨ret_ii H.out.1.symm H.out.2.symm, rfl⟩
    · have H : Hid (parseN s = 0 ∧ parseE s = 2) := Lib.hid (by simp [parseN, parseE, parseOk, hall])
      have hlt : runL s.data.toList < s.size := by
        rcases Nat.lt_or_ge (runL s.data.toList) s.size with h | h
        · exact h
        · exact absurd (all_of_run (l := s.data.toList) (by rw [← Lib.size_eq]; omega)) hall
      clear hz' hall h0
      go_enter Tryz.func177, Tryz.ntmps177
      go_wp2_with (go_at_call 195; refine (digits_any _ _ hs).mono ?_; rintro e w' ⟨rfl, rfl⟩)
      go_ret2
      exact ⟨ret_ii H.out.1.symm H.out.2.symm, rfl⟩

theorem dec_Parse_any (s : ByteArray) (w : World) (hs : s.size ≤ maxLen) :
    Calls Tryz.prog 152 #[.string s] w fun e w' => e = .returned (.tuple #[.int .i64 (parseN s), .int .i64 (parseE s)]) ∧ w = w' := by
  go_enter Tryz.func152, Tryz.ntmps152
  go_wp2_with (go_at_call 177; refine (parse_any _ _ hs).mono ?_; rintro e w' ⟨rfl, rfl⟩)
  go_ret2
  exact ⟨rfl, rfl⟩

/-- What a reader of digits holds behind k of them. -/
def ParseRel (s : ByteArray) (n o i : Value) : Prop :=
  ∃ k : Nat, ∃ N : Int, ∃ over : Bool, k ≤ s.size ∧ i = .int .i64 k ∧ n = .int .i64 N ∧ o = .bool over ∧ DigTo s k ∧ 0 ≤ N ∧ N ≤ 100000000000000000 ∧
    (over = false → N = (dec_valL (s.data.toList.take k) : Int) ∧ N ≤ 9007199254740991) ∧ (over = true → 9007199254740991 < N ∧ mostN < dec_valL (s.data.toList.take k))

set_option maxRecDepth 20000 in
theorem dec_rParse_any (s : ByteArray) (w : World) (hs : s.size ≤ maxLen) :
    Calls Tryz.prog 123 #[.string s] w fun e w' => e = .returned (.tuple #[.int .i64 (parseN s), .int .i64 (parseE s)]) ∧ w = w' := by
  unfold maxLen at hs
  go_enter Tryz.func123, Tryz.ntmps123
  go_wp2
  go_loop [4, 5, 6] (fun n o i => ParseRel s n o i) (fun _ _ j => s.size - (intOf j).toNat)
  case atStart => exact ⟨0, 0, false, Nat.zero_le _, rfl, rfl, rfl, digTo_zero s, by omega, by omega, fun _ => ⟨rfl, by omega⟩, fun h => by cases h⟩
  case round =>
    obtain ⟨k, N, over, hk, rfl, rfl, rfl, hp, hN0, hN1, hf, ht⟩ := hrel
    have HP := Lib.hid hp; clear hp
    by_cases hlt : k < s.size
    · have hv := valL_at s k hlt
      have hle := valL_take_le s.data.toList (k + 1)
      have hidx := index_byte (P := Tryz.prog) 9 Tryz.underlying9 s k hlt
      have hnd := fun h => not_all_at (s := s) hlt h
      have hds := fun h => digTo_step (s := s) HP.out hlt h
      generalize hx : s[k] = x at *
      have HX := Lib.hid hx; clear hx
      cases hb : isDigit x
      · have H : Hid (parseN s = 0 ∧ parseE s = 2) := Lib.hid (parse_bad (hnd hb))
        have HB := Lib.hid hb
        clear hv hle hnd hds hf ht hb
        go_wp2_with (go_at_call 122; refine (rDigit_any _ _).mono ?_; rintro e w' ⟨rfl, rfl⟩; rw [HB.out])
        go_ret2
        exact ⟨ret_ii H.out.1.symm H.out.2.symm, rfl⟩
      · have HD := Lib.hid (hds hb)
        have hx0 := hb
        rw [isDigit_eq, decide_eq_true_eq] at hx0
        have hx1 : (48 : Int) ≤ x.toNat ∧ (x.toNat : Int) ≤ 57 := by omega
        have HB := Lib.hid hb
        have HV := Lib.hid hv; have HL := Lib.hid hle
        clear hx0 hb hnd hds hv hle
        cases over
        · obtain ⟨hf1, hf2⟩ := hf rfl
          have HF := Lib.hid hf1
          clear hf ht hf1
          go_wp2_with (go_at_call 122; refine (rDigit_any _ _).mono ?_; rintro e w' ⟨rfl, rfl⟩; rw [HB.out])
          go_round
          case rel =>
            have h1 := HV.out
            have h2 := HF.out
            exact ⟨k + 1, _, _, by omega, by go_num, rfl, rfl, HD.out, by omega, by omega, fun h => ⟨by omega, by simpa using h⟩, fun h => ⟨by simpa using h, by have := of_decide_eq_true h; unfold mostN; omega⟩⟩
          case measure => simp [intOf]; omega
        · obtain ⟨ht1, ht2⟩ := ht rfl
          have HT := Lib.hid ht2
          clear hf ht ht2
          go_wp2_with (go_at_call 122; refine (rDigit_any _ _).mono ?_; rintro e w' ⟨rfl, rfl⟩; rw [HB.out])
          go_round
          case rel => exact ⟨k + 1, N, true, by omega, by go_num, rfl, rfl, HD.out, hN0, hN1, (fun h => by cases h), fun _ => ⟨ht1, by have h1 := HV.out; have h2 := HT.out; omega⟩⟩
          case measure => simp [intOf]; omega
    · obtain rfl : k = s.size := by omega
      rw [take_allB] at *
      by_cases h0 : s.size = 0
      · have hz : s.toList.isEmpty = true := by rw [Lib.toList_data, List.isEmpty_iff, ← List.length_eq_zero_iff, ← Lib.size_eq]; exact h0
        obtain ⟨e1, e2, _⟩ := parse_empty h0
        have H := Lib.hid (And.intro e1 e2)
        clear e1 e2 h0 hf ht
        go_wp2
        all_goals go_ret2
        all_goals exact ⟨ret_ii H.out.1.symm H.out.2.symm, rfl⟩
      · have hz : s.toList.isEmpty = false := by rw [Lib.toList_data, List.isEmpty_eq_false_iff, ne_eq, ← List.length_eq_zero_iff, ← Lib.size_eq]; exact h0
        obtain ⟨e1, e2⟩ := parse_digits (s := s) (by omega) (all_of_digTo HP.out)
        cases over
        · obtain ⟨hf1, hf2⟩ := hf rfl
          have hm : dec_valL s.data.toList ≤ mostN := by unfold mostN; omega
          rw [if_pos hm] at e1 e2
          have H : Hid (parseN s = N ∧ parseE s = 0) := Lib.hid ⟨by rw [e1]; exact hf1.symm, e2⟩
          clear e1 e2 h0 hf ht hf1 hm
          go_wp2
          go_ret2
          exact ⟨ret_ii H.out.1.symm H.out.2.symm, rfl⟩
        · obtain ⟨ht1, ht2⟩ := ht rfl
          have hm : ¬ dec_valL s.data.toList ≤ mostN := by omega
          rw [if_neg hm] at e1 e2
          have H := Lib.hid (And.intro e1 e2)
          clear e1 e2 h0 hf ht hm ht2
          go_wp2
          go_ret2
          exact ⟨ret_ii H.out.1.symm H.out.2.symm, rfl⟩

end Go.Proofs.YtcbhkcdphbffpaaGreatDoor

namespace Go.Proofs.YtcbhkcdphbffpaaGreatDoor
open Go.RowKit
set_option linter.unusedSimpArgs false
set_option linter.unusedVariables false

section
variable {P : Program} {ops : Array Oper} {Q : Exit → Act → World → Prop} {md : Region.Mode} {S : World → Prop} {n : Nat}

/-- The first of the last ones. -/
theorem NJ.over {o : Oper} {fuel : Nat} {listed : Array Bool} {a : Act} {w : World} (ho : ops[n]? = some o) (hr : Region.ready md ops listed = [n])
    (h : S w → ∀ K' : Act → World → Prop, Shut (∀ a w, wpAnyN P md ops Q S n fuel (listed.setIfInBounds n true) a w → K' a w) → if Region.wanted o (yielded ops a.tmps) = true then Oper.wp P o a w K' Q else K' (a.put o.dst undef) w) :
    NJ P md ops Q S n (fuel + 1) listed a w := by
  intro inv hS
  refine ⟨fun h0 => (by rw [hr] at h0; cases h0), fun j hj => ?_⟩
  have hj2 : j = n := by rw [hr] at hj; simpa using hj
  subst hj2
  exact wpOp_step ho (fun K' hK => h hS K' (fun a w hq => hK a w ⟨fun hlt => absurd hlt (Nat.lt_irrefl _), hq⟩))

theorem wpAnyN_tail {i : Nat} {o : Oper} {fuel : Nat} {listed : Array Bool} {a : Act} {w : World} (ho : ops[i]? = some o) (hge : decide (n ≤ i) = true) (hr : Region.ready md ops listed = [i])
    (h : ∀ K' : Act → World → Prop, Shut (∀ a w, wpAnyN P md ops Q S n fuel (listed.setIfInBounds i true) a w → K' a w) → if Region.wanted o (yielded ops a.tmps) = true then Oper.wp P o a w K' Q else K' (a.put o.dst undef) w) :
    wpAnyN P md ops Q S n (fuel + 1) listed a w := by
  have hge2 : n ≤ i := of_decide_eq_true hge
  refine ⟨fun h0 => (by rw [hr] at h0; cases h0), fun j hj => ?_⟩
  have hj2 : j = i := by rw [hr] at hj; simpa using hj
  subst hj2
  exact wpOp_step ho (fun K' hK => h K' (fun a w hq => hK a w ⟨fun hlt => absurd hlt (Nat.not_lt.2 hge2), hq⟩))

theorem wpAnyN_fin {fuel : Nat} {listed : Array Bool} {a : Act} {w : World} (hr : Region.ready md ops listed = []) (h : Q .normal a w) : wpAnyN P md ops Q S n fuel listed a w := by
  cases fuel with
  | zero => exact ⟨hr, h⟩
  | succ f => exact ⟨fun _ => h, fun i hi => (by rw [hr] at hi; cases hi)⟩

end

end Go.Proofs.YtcbhkcdphbffpaaGreatDoor

namespace Go.Proofs.YtcbhkcdphbffpaaGreatDoor
open Go.RowKit
set_option linter.unusedSimpArgs false
set_option linter.unusedVariables false

end Go.Proofs.YtcbhkcdphbffpaaGreatDoor

namespace Go.Proofs.YtcbhkcdphbffpaaGreatDoor
open Go.RowKit
set_option linter.unusedSimpArgs false
set_option linter.unusedVariables false

/-- A text of bytes. -/
def bl (l : List UInt8) : ByteArray := ⟨l.toArray⟩

theorem bl_list (l : List UInt8) : (bl l).data.toList = l := by simp [bl]

theorem bl_size (l : List UInt8) : (bl l).size = l.length := by rw [Lib.size_eq, bl_list]

theorem bl_back (s : ByteArray) : bl s.data.toList = s := bytes_ext (bl_list _)

theorem bl_nil (l : List UInt8) : ((bl l).toList = []) = (l = []) := by rw [Lib.toList_data, bl_list]

/-- What is left behind a place. -/
def lef (s : ByteArray) (k : Nat) : List UInt8 := s.data.toList.drop k

theorem lef_rest (s : ByteArray) (k : Nat) : (restB s k).data.toList = lef s k := by
  unfold lef restB
  rw [Lib.extract_data, List.take_of_length_le]
  rw [List.length_drop, ← Lib.size_eq]
  exact Nat.le_refl _

theorem lef_len (s : ByteArray) (k : Nat) : (lef s k).length = s.size - k := by unfold lef; rw [List.length_drop, Lib.size_eq]

theorem lef_more (s : ByteArray) (k n : Nat) : lef s (k + n) = (lef s k).drop n := by unfold lef; rw [List.drop_drop]

theorem tw_split (p : UInt8 → Bool) (l : List UInt8) : l.take (spanN p l) = l.takeWhile p ∧ l.drop (spanN p l) = l.dropWhile p := by
  unfold spanN
  have e2 := List.takeWhile_append_dropWhile (p := p) (l := l)
  constructor
  · exact (List.prefix_iff_eq_take.1 (List.takeWhile_prefix _)).symm
  · have e3 : l.drop (l.takeWhile p).length = (l.takeWhile p ++ l.dropWhile p).drop (l.takeWhile p).length := by rw [e2]
    rw [e3, List.drop_left]

/-- The cursor g over s stands ahead of l. -/
def Ahead (g : Nat) (s : ByteArray) (l : List UInt8) (w : World) : Prop := ∃ k, k ≤ s.size ∧ lef s k = l ∧ Cur w g s k

/-- The cursor has gone on, and nothing else. -/
def Went (g : Nat) (s : ByteArray) (l : List UInt8) (w w' : World) : Prop := Ahead g s l w' ∧ But g w w'

theorem Ahead.lt {g : Nat} {s : ByteArray} {l : List UInt8} {w : World} (h : Ahead g s l w) : g < w.heap.size := by
  obtain ⟨k, _, _, h⟩ := h
  exact h.lt

theorem Ahead.below {B g : Nat} {s : ByteArray} {l : List UInt8} {w w' : World} (h : Ahead g s l w) (hb : Below B w w') (hg : g < B) : Ahead g s l w' := by
  obtain ⟨k, h1, h2, h3⟩ := h
  exact ⟨k, h1, h2, h3.below hb hg⟩

theorem Ahead.on {g : Nat} {s : ByteArray} {l : List UInt8} {w w' : World} (h : Ahead g s l w) (hb : Below w.heap.size w w') : Ahead g s l w' := h.below hb h.lt

theorem Ahead.drew {g : Nat} {s : ByteArray} {l : List UInt8} {w : World} (h : Ahead g s l w) : Ahead g s l w.drew := h

theorem Went.trans {g : Nat} {s : ByteArray} {l l2 : List UInt8} {w w1 w2 : World} (h : Went g s l w w1) (h2 : Went g s l2 w1 w2) : Went g s l2 w w2 := ⟨h2.1, h.2.trans h2.2⟩

theorem Went.of_below {g : Nat} {s : ByteArray} {l : List UInt8} {w w' : World} (h : Ahead g s l w) (hb : Below w.heap.size w w') : Went g s l w w' := ⟨h.on hb, But.of_below hb⟩

theorem But.start {g : Nat} {w w' : World} {o : Obj} (h : But g (w.alloc o) w') : But g w w' := ((But.refl g w).alloc o).trans h

theorem But.startd {g : Nat} {w w' : World} (h : But g w.drew w') : But g w w' := ((But.refl g w).drew).trans h

theorem while_at (K : FuncId) (p : UInt8 → Bool) (hK : FnPure K p) (g : Nat) (s : ByteArray) (l : List UInt8) (w : World) (h : Ahead g s l w) (hs : s.size ≤ maxLen) :
    Calls Tryz.prog 143 #[.pointer (some ⟨g, 0, none⟩), .func (.func K) #[] #[]] w fun e w' => e = .returned (.string (bl (l.takeWhile p))) ∧ Went g s (l.dropWhile p) w w' := by
  obtain ⟨k, hk, rfl, h⟩ := h
  have hC := While_gives K p hK g s k w h hk hs
  rw [lef_rest] at hC
  have hn := spanN_le p (lef s k)
  rw [lef_len] at hn
  refine hC.mono ?_
  rintro e w2 ⟨rfl, hm⟩
  refine ⟨?_, ⟨k + spanN p (lef s k), by omega, ?_, hm.1⟩, hm.2⟩
  · refine congrArg (fun t => Ending.returned (.string t)) ?_
    apply bytes_ext
    rw [bl_list, Lib.extract_data, show k + spanN p (lef s k) - k = spanN p (lef s k) by omega]
    exact (tw_split p (lef s k)).1
  · rw [lef_more]
    exact (tw_split p (lef s k)).2

theorem pref_at (s : ByteArray) (k : Nat) (b : UInt8) : prefB (restB s k) ⟨#[b]⟩ = ((lef s k).head? == some b) := by
  unfold prefB Lib.hasPrefix
  rw [lef_rest]
  cases lef s k with
  | nil => rfl
  | cons a r =>
    show [b].isPrefixOf (a :: r) = _
    simp only [List.isPrefixOf, Bool.and_true, List.head?_cons]
    exact Bool.eq_iff_iff.2 ⟨fun h => by simp at h ⊢; exact h.symm, fun h => by simp at h ⊢; exact h.symm⟩

theorem skip_at (b : UInt8) (g : Nat) (s : ByteArray) (l : List UInt8) (w : World) (h : Ahead g s (b :: l) w) (hs : s.size ≤ maxLen) :
    Calls Tryz.prog 105 #[.pointer (some ⟨g, 0, none⟩), .string ⟨#[b]⟩] w fun e w' => e = .returned (.bool true) ∧ Went g s l w w' := by
  obtain ⟨k, hk, hl, h⟩ := h
  have hlt : k < s.size := by
    have := lef_len s k
    rw [hl] at this
    simp at this
    omega
  refine (Skip_yes ⟨#[b]⟩ g s k w h hk hs (by rw [pref_at, hl]; simp)).mono ?_
  rintro e w2 ⟨rfl, hm⟩
  exact ⟨rfl, ⟨k + 1, hlt, by rw [lef_more, hl]; rfl, hm.1⟩, hm.2⟩

theorem skip_off (b : UInt8) (g : Nat) (s : ByteArray) (l : List UInt8) (w : World) (h : Ahead g s l w) (hs : s.size ≤ maxLen) (hb : l.head? ≠ some b) :
    Calls Tryz.prog 105 #[.pointer (some ⟨g, 0, none⟩), .string ⟨#[b]⟩] w fun e w' => e = .returned (.bool false) ∧ Went g s l w w' := by
  obtain ⟨k, hk, rfl, h⟩ := h
  refine (Skip_no ⟨#[b]⟩ g s k w h hk hs (by rw [pref_at]; exact beq_eq_false_iff_ne.2 hb)).mono ?_
  rintro e w2 ⟨rfl, hm⟩
  exact ⟨rfl, ⟨k, hk, rfl, hm.1⟩, hm.2⟩

theorem at_at (g : Nat) (s : ByteArray) (l : List UInt8) (w : World) (h : Ahead g s l w) :
    ∃ k : Int, Calls Tryz.prog 147 #[.pointer (some ⟨g, 0, none⟩)] w fun e w' => e = .returned (.int .i64 k) ∧ w = w' := by
  obtain ⟨k, hk, rfl, h⟩ := h
  exact ⟨_, At_any g s k w h⟩

theorem end_at (g : Nat) (s : ByteArray) (l : List UInt8) (w : World) (h : Ahead g s l w) (hs : s.size ≤ maxLen) :
    Calls Tryz.prog 151 #[.pointer (some ⟨g, 0, none⟩)] w fun e w' => e = .returned (.bool (decide (l = []))) ∧ Went g s l w w' := by
  obtain ⟨k, hk, rfl, h⟩ := h
  refine (End_any g s k w h hk hs).mono ?_
  rintro e w2 ⟨rfl, hd⟩
  refine ⟨ret_bool (decide_eq_decide.2 ?_), ⟨k, hk, rfl, hd.cur h⟩, But.of_below (hd.below _)⟩
  rw [← List.length_eq_zero_iff, lef_len]
  omega

theorem peek_at (g : Nat) (s : ByteArray) (b : UInt8) (l : List UInt8) (w : World) (h : Ahead g s (b :: l) w) (hs : s.size ≤ maxLen) :
    Calls Tryz.prog 134 #[.pointer (some ⟨g, 0, none⟩), .int .i64 0] w fun e w' => e = .returned (.tuple #[.int .u8 (b.toNat : Int), .bool true]) ∧ Below w.heap.size w w' := by
  obtain ⟨k, hk, hl, h⟩ := h
  have hlt : k < s.size := by
    have := lef_len s k
    rw [hl] at this
    simp at this
    omega
  have hb : s[k] = b := by
    have e : lef s k = s[k] :: lef s (k + 1) := by
      unfold lef
      rw [List.drop_eq_getElem_cons (by rw [← Lib.size_eq]; exact hlt)]
      rfl
    rw [hl] at e
    injection e with e1 e2
    exact e1.symm
  have hP := Peek_yes g s k 0 w h (by omega) hs
  simp only [Nat.add_zero] at hP
  rw [hb] at hP
  refine hP.mono ?_
  rintro e w2 ⟨rfl, hd⟩
  exact ⟨rfl, hd.below _⟩

theorem peek_off (g : Nat) (s : ByteArray) (w : World) (h : Ahead g s [] w) (hs : s.size ≤ maxLen) :
    Calls Tryz.prog 134 #[.pointer (some ⟨g, 0, none⟩), .int .i64 0] w fun e w' => e = .returned (.tuple #[.int .u8 0, .bool false]) ∧ Below w.heap.size w w' := by
  obtain ⟨k, hk, hl, h⟩ := h
  have hge : s.size ≤ k := by
    have := lef_len s k
    rw [hl] at this
    simp at this
    omega
  refine (Peek_no g s k 0 w h hk (.inr (by omega)) hs).mono ?_
  rintro e w2 ⟨rfl, hd⟩
  exact ⟨rfl, hd.below _⟩

/-- A reader of a cursor. -/
def rdV (g : Nat) : Value := .agg #[.pointer (some ⟨g, 0, none⟩)]

/-- It is thrown that the form is wrong. -/
def Form (g : Nat) (w : World) (e : Ending) (w' : World) : Prop := ∃ a : Int, e = .panicked [{ v := faultV a 2, recovered := false }] ∧ But g w w'

theorem need_yes (g : Nat) (s : ByteArray) (l : List UInt8) (w : World) (h : Ahead g s l w) :
    Calls Tryz.prog 104 #[rdV g, .bool true] w fun e w' => e = .returned (.tuple #[]) ∧ Below w.heap.size w w' := by
  have HA : Hid (∀ w1, Below w.heap.size w w1 → ∃ k : Int, Calls Tryz.prog 147 #[.pointer (some ⟨g, 0, none⟩)] w1 fun e w' => e = .returned (.int .i64 k) ∧ w1 = w') := Lib.hid (fun w1 hb => at_at g s l w1 (h.on hb))
  clear h
  unfold rdV
  go_enter Tryz.func104, Tryz.ntmps104
  go_wp2_with fail
  obtain ⟨k, hk⟩ := HA.out _ (below_box _ _)
  refine hk.mono ?_
  rintro e w2 ⟨rfl, rfl⟩
  go_wp2_with (go_at_call 146; refine (Check_yes _ _ _).mono ?_; rintro e w2 ⟨rfl, rfl⟩)
  go_end0
  exact ⟨rfl, below_box _ _⟩

theorem need_no (g : Nat) (s : ByteArray) (l : List UInt8) (w : World) (h : Ahead g s l w) :
    Calls Tryz.prog 104 #[rdV g, .bool false] w (Form g w) := by
  have HA : Hid (∀ w1, Below w.heap.size w w1 → ∃ k : Int, Calls Tryz.prog 147 #[.pointer (some ⟨g, 0, none⟩)] w1 fun e w' => e = .returned (.int .i64 k) ∧ w1 = w') := Lib.hid (fun w1 hb => at_at g s l w1 (h.on hb))
  clear h
  unfold rdV
  go_enter Tryz.func104, Tryz.ntmps104
  go_wp2_with fail
  obtain ⟨k, hk⟩ := HA.out _ (below_box _ _)
  refine hk.mono ?_
  rintro e w2 ⟨rfl, rfl⟩
  go_wp2_with (go_at_call 146; refine (Check_no _ _ _).mono ?_; rintro e w2 ⟨rfl, rfl⟩)
  exact ⟨rfl, k, rfl, But.of_below (below_box _ _)⟩

theorem fnTabR : FnPure 144 isTab :=
  ⟨fun args w => MuLone.run_callFunc_enter Tryz.func144 (by kernel_rfl) rfl args w, Tab_any⟩

theorem fnLetR : FnPure 145 isLetter :=
  ⟨fun args w => MuLone.run_callFunc_enter Tryz.func145 (by kernel_rfl) rfl args w, Letter_any⟩

theorem blanks_at (g : Nat) (s : ByteArray) (l : List UInt8) (w : World) (h : Ahead g s l w) (hs : s.size ≤ maxLen) :
    Calls Tryz.prog 102 #[rdV g] w fun e w' => e = .returned (.string (bl (l.takeWhile isTab))) ∧ Went g s (l.dropWhile isTab) w w' := by
  have HW : Hid (∀ w1, Below w.heap.size w w1 → Calls Tryz.prog 143 #[.pointer (some ⟨g, 0, none⟩), .func (.func 144) #[] #[]] w1 fun e w' => e = .returned (.string (bl (l.takeWhile isTab))) ∧ Went g s (l.dropWhile isTab) w1 w') := Lib.hid (fun w1 hb => while_at 144 isTab fnTabR g s l w1 (h.on hb) hs)
  clear h
  unfold rdV
  go_enter Tryz.func102, Tryz.ntmps102
  go_wp2_with fail
  refine (HW.out _ (below_box _ _)).mono ?_
  rintro e w2 ⟨rfl, hw⟩
  go_wp2_with fail
  go_ret
  exact ⟨rfl, hw.1, hw.2.start⟩

end Go.Proofs.YtcbhkcdphbffpaaGreatDoor

namespace Go.Proofs.YtcbhkcdphbffpaaGreatDoor
set_option linter.unusedSimpArgs false
set_option linter.unusedVariables false

def bytesL : List UInt8 := [98, 121, 116, 101, 115]

/-- Letters that are the unit. -/
def unitOk (l : List UInt8) : Bool := lowerL (l.takeWhile isLetter) == lowerL bytesL

/-- A sign stands ahead. -/
def signOk (b : UInt8) (l : List UInt8) : Bool := l.head? == some b

def ask6 (f t l : List UInt8) : Option (List UInt8 × List UInt8) := if l.dropWhile isTab = [] then (if f = [] ∧ t = [] then none else some (f, t)) else none
def ask5 (f l : List UInt8) : Option (List UInt8 × List UInt8) := ask6 f ((l.dropWhile isTab).takeWhile isDigit) ((l.dropWhile isTab).dropWhile isDigit)
def ask4 (f l : List UInt8) : Option (List UInt8 × List UInt8) := if signOk 45 (l.dropWhile isTab) = true then ask5 f (l.dropWhile isTab).tail else none
def ask3 (l : List UInt8) : Option (List UInt8 × List UInt8) := ask4 ((l.dropWhile isTab).takeWhile isDigit) ((l.dropWhile isTab).dropWhile isDigit)
def ask2 (l : List UInt8) : Option (List UInt8 × List UInt8) := if signOk 61 (l.dropWhile isTab) = true then ask3 (l.dropWhile isTab).tail else none

/-- The digits of what is asked for; none: the form is wrong. -/
def askL (l : List UInt8) : Option (List UInt8 × List UInt8) := if unitOk (l.dropWhile isTab) = true then ask2 ((l.dropWhile isTab).dropWhile isLetter) else none

/-- The number that digits say; what was wrong so far. -/
def saidN (l : List UInt8) : Int := if l = [] then -1 else if dec_valL l ≤ mostN then (dec_valL l : Int) else 0
def saidE (l : List UInt8) (e : Int) : Int := if l = [] then e else if dec_valL l ≤ mostN then e else 9

/-- How many bytes there are in all. -/
def sizeL : List UInt8 → Option (List UInt8 × List UInt8)
  | [] => none
  | x :: r => if x = 42 then some ([], r) else if isDigit x = true then some ((x :: r).takeWhile isDigit, (x :: r).dropWhile isDigit) else none

def con7 (f t : List UInt8) (o : Bool) : Option (List UInt8 × List UInt8) → Option (List UInt8 × List UInt8 × List UInt8)
  | none => none
  | some (a, l) => if a = [] ∧ o = true then none else if l.dropWhile isTab = [] then some (f, t, a) else none

def con6 (f t : List UInt8) (o : Bool) (l : List UInt8) : Option (List UInt8 × List UInt8 × List UInt8) := if signOk 47 l = true then con7 f t o (sizeL l.tail) else none

def con5 (f : List UInt8) : Option (List UInt8 × List UInt8) → Option (List UInt8 × List UInt8 × List UInt8)
  | none => none
  | some (t, l) => if t = [] then none else con6 f t false l

def con4 : Option (List UInt8 × List UInt8) → Option (List UInt8 × List UInt8 × List UInt8)
  | none => none
  | some (f, l) => if f = [] then none else if signOk 45 l = true then con5 f (sizeL l.tail) else none

def con3 (l : List UInt8) : Option (List UInt8 × List UInt8 × List UInt8) := if signOk 42 l = true then con6 [] [] true l.tail else con4 (sizeL l)
def con2 (l : List UInt8) : Option (List UInt8 × List UInt8 × List UInt8) := if l.takeWhile isTab = [] then none else con3 (l.dropWhile isTab)

/-- The digits of what comes; none: the form is wrong. -/
def conL (l : List UInt8) : Option (List UInt8 × List UInt8 × List UInt8) := if unitOk (l.dropWhile isTab) = true then con2 ((l.dropWhile isTab).dropWhile isLetter) else none

end Go.Proofs.YtcbhkcdphbffpaaGreatDoor

namespace Go.Proofs.YtcbhkcdphbffpaaGreatDoor
set_option linter.unusedSimpArgs false
set_option linter.unusedVariables false

theorem lowerL_len (l : List UInt8) : (lowerL l).length = l.length := by simp [lowerL]

theorem low_letter (b : UInt8) : isSmall (lowOf b) = true → isLetter b = true :=
  all_u8 (p := fun b => isSmall (lowOf b) = true → isLetter b = true) (by decide +kernel) b

theorem low_letters : ∀ (l : List UInt8), (lowerL l).all isSmall = true → l.all isLetter = true
  | [], _ => rfl
  | b :: l, h => by
    have e : lowerL (b :: l) = lowOf b :: lowerL l := rfl
    rw [e, List.all_cons, Bool.and_eq_true] at h
    rw [List.all_cons, low_letter b h.1, low_letters l h.2]
    rfl

theorem tw_app {p : UInt8 → Bool} {a b : List UInt8} (ha : a.all p = true) : (a ++ b).takeWhile p = a ++ b.takeWhile p ∧ (a ++ b).dropWhile p = b.dropWhile p := by
  induction a with
  | nil => exact ⟨rfl, rfl⟩
  | cons x a ih =>
    rw [List.all_cons, Bool.and_eq_true] at ha
    obtain ⟨h1, h2⟩ := ih ha.2
    constructor
    · rw [List.cons_append, List.takeWhile_cons, if_pos ha.1, h1]; rfl
    · rw [List.cons_append, List.dropWhile_cons, if_pos ha.1, h2]

theorem tw_nil {p : UInt8 → Bool} {l : List UInt8} (h : ∀ b, l.head? = some b → p b = false) : l.takeWhile p = [] ∧ l.dropWhile p = l := by
  cases l with
  | nil => exact ⟨rfl, rfl⟩
  | cons b l =>
    have hb := h b rfl
    exact ⟨by rw [List.takeWhile_cons, if_neg (by rw [hb]; simp)], by rw [List.dropWhile_cons, if_neg (by rw [hb]; simp)]⟩

/-- How the reference asks for the unit. -/
def runitOk (l : List UInt8) : Bool := decide (5 ≤ l.length ∧ lowerL (l.take 5) = bytesL ∧ ¬ (5 < l.length ∧ isLetter (l.getD 5 0) = true))

theorem lower_bytes : lowerL bytesL = bytesL := by decide

theorem unit_plain (l : List UInt8) : unitOk l = runitOk l := by
  rw [Bool.eq_iff_iff]
  unfold unitOk runitOk
  rw [beq_iff_eq, decide_eq_true_eq, lower_bytes]
  have hsp := List.takeWhile_append_dropWhile (p := isLetter) (l := l)
  constructor
  · intro h
    have hl : (l.takeWhile isLetter).length = 5 := by rw [← lowerL_len, h]; rfl
    have ht : l.take 5 = l.takeWhile isLetter := by
      rw [← hl]
      exact (List.prefix_iff_eq_take.1 (List.takeWhile_prefix isLetter)).symm
    refine ⟨?_, by rw [ht]; exact h, ?_⟩
    · have := (List.takeWhile_sublist (p := isLetter) (l := l)).length_le
      omega
    · rintro ⟨h5, hc⟩
      have hd : l.drop 5 = l.dropWhile isLetter := by
        have e : l.drop 5 = (l.takeWhile isLetter ++ l.dropWhile isLetter).drop (l.takeWhile isLetter).length := by rw [hsp, hl]
        rw [e, List.drop_left]
      have hh : (l.dropWhile isLetter).head? = some (l.getD 5 0) := by
        rw [← hd, List.head?_drop, List.getElem?_eq_getElem h5, List.getD, List.getElem?_eq_getElem h5]
        rfl
      have hn := List.head?_dropWhile_not isLetter l
      rw [hh] at hn
      simp only at hn
      rw [hc] at hn
      exact absurd hn (by simp)
  · rintro ⟨h5, h, hn⟩
    have ha : (l.take 5).all isLetter = true := low_letters _ (by rw [h]; decide)
    have e := List.take_append_drop 5 l
    have hz : (l.drop 5).takeWhile isLetter = [] := by
      refine (tw_nil ?_).1
      intro b hb
      rw [List.head?_drop] at hb
      have h6 : 5 < l.length := (List.getElem?_eq_some_iff.1 hb).1
      have hg : l.getD 5 0 = b := by unfold List.getD; rw [hb]; rfl
      cases hc : isLetter b
      · rfl
      · exact absurd ⟨h6, by rw [hg]; exact hc⟩ hn
    rw [← e, (tw_app ha).1, hz, List.append_nil, h]

theorem unit_drop {l : List UInt8} (h : runitOk l = true) : l.dropWhile isLetter = l.drop 5 := by
  rw [← unit_plain] at h
  unfold unitOk at h
  rw [beq_iff_eq, lower_bytes] at h
  have hl : (l.takeWhile isLetter).length = 5 := by rw [← lowerL_len, h]; rfl
  have hsp := List.takeWhile_append_dropWhile (p := isLetter) (l := l)
  have e : l.drop 5 = (l.takeWhile isLetter ++ l.dropWhile isLetter).drop (l.takeWhile isLetter).length := by rw [hsp, hl]
  rw [e, List.drop_left]

theorem saidE_zero (f t : List UInt8) : (saidE t (saidE f 0) = 0) ↔ ((f = [] ∨ dec_valL f ≤ mostN) ∧ (t = [] ∨ dec_valL t ≤ mostN)) := by
  unfold saidE
  by_cases h1 : f = [] <;> by_cases h2 : t = [] <;> by_cases h3 : dec_valL f ≤ mostN <;> by_cases h4 : dec_valL t ≤ mostN <;> simp [h1, h2, h3, h4]

theorem saidE_zero3 (f t a : List UInt8) : (saidE a (saidE t (saidE f 0)) = 0) ↔ ((f = [] ∨ dec_valL f ≤ mostN) ∧ (t = [] ∨ dec_valL t ≤ mostN) ∧ (a = [] ∨ dec_valL a ≤ mostN)) := by
  unfold saidE
  by_cases h1 : f = [] <;> by_cases h2 : t = [] <;> by_cases h5 : a = [] <;> by_cases h3 : dec_valL f ≤ mostN <;> by_cases h4 : dec_valL t ≤ mostN <;> by_cases h6 : dec_valL a ≤ mostN <;> simp [h1, h2, h3, h4, h5, h6]

theorem saidN_least (l : List UInt8) : -1 ≤ saidN l := by
  unfold saidN
  split
  · omega
  · split <;> omega

/-- What the reference reads behind the unit, trimmed. -/
def rcon6 (f t l : List UInt8) : Option (List UInt8 × List UInt8 × List UInt8) :=
  if signOk 47 l = true then (if l.tail = [42] ∧ f ≠ [] then some (f, t, []) else if l.tail = [] ∨ l.tail.all isDigit = false then none else some (f, t, l.tail)) else none

def rcon5 (f l : List UInt8) : Option (List UInt8 × List UInt8 × List UInt8) :=
  if l.takeWhile isDigit = [] then none else rcon6 f (l.takeWhile isDigit) (l.dropWhile isDigit)

def rcon4 (f l : List UInt8) : Option (List UInt8 × List UInt8 × List UInt8) :=
  if f = [] then none else if signOk 45 l = true then rcon5 f l.tail else none

def rcon3 (l : List UInt8) : Option (List UInt8 × List UInt8 × List UInt8) :=
  if signOk 42 l = true then rcon6 [] [] l.tail else rcon4 (l.takeWhile isDigit) (l.dropWhile isDigit)

/-- A text without tabs and blanks at its end, and such behind it. -/
structure Trim (y t : List UInt8) : Prop where
  tabs : t.all isTab = true
  ends : ∀ b, y.getLast? = some b → isTab b = false

theorem trim_split : ∀ (n : Nat) (l : List UInt8), l.length ≤ n → ∃ t, l = trimEnd isTab l ++ t ∧ Trim (trimEnd isTab l) t
  | 0, l, h => by
    obtain rfl : l = [] := List.eq_nil_of_length_eq_zero (by omega)
    exact ⟨[], rfl, rfl, by intro b hb; simp [trimEnd_nil] at hb⟩
  | n + 1, l, h => by
    rcases List.eq_nil_or_concat l with rfl | ⟨l2, y, rfl⟩
    · exact ⟨[], rfl, rfl, by intro b hb; simp [trimEnd_nil] at hb⟩
    · rw [List.concat_eq_append] at h ⊢
      rw [trimEnd_snoc]
      cases hy : isTab y
      · refine ⟨[], by simp, rfl, ?_⟩
        intro b hb
        simp at hb
        rw [← hb]
        exact hy
      · obtain ⟨t, h1, h2⟩ := trim_split n l2 (by simp at h; omega)
        simp only [if_true]
        refine ⟨t ++ [y], ?_, ?_, h2.ends⟩
        · conv => lhs; rw [h1]
          rw [List.append_assoc]
        · rw [List.all_append, h2.tabs]; simp [hy]

theorem Trim.tail {b : UInt8} {y t : List UInt8} (h : Trim (b :: y) t) : Trim y t := ⟨h.tabs, fun c hc => h.ends c (by
  cases y with
  | nil => simp at hc
  | cons x y => rw [List.getLast?_cons_cons]; exact hc)⟩

theorem Trim.drop {y t : List UInt8} (h : Trim y t) (n : Nat) : Trim (y.drop n) t := ⟨h.tabs, fun c hc => h.ends c (by
  rw [List.getLast?_drop] at hc
  split at hc
  · cases hc
  · exact hc)⟩

theorem Trim.nil {y t : List UInt8} (h : Trim y t) (ht : y.all isTab = true) : y = [] := by
  rcases List.eq_nil_or_concat y with rfl | ⟨l2, b, rfl⟩
  · rfl
  · rw [List.concat_eq_append] at ht h
    have := h.ends b (by simp)
    rw [List.all_append] at ht
    simp [this] at ht

theorem digit_tab (b : UInt8) : isTab b = true → isDigit b = false :=
  all_u8 (p := fun b => isTab b = true → isDigit b = false) (by decide +kernel) b

theorem tabs_head {t : List UInt8} (h : t.all isTab = true) : ∀ b, t.head? = some b → isTab b = true := by
  intro b hb
  cases t with
  | nil => cases hb
  | cons x t =>
    rw [List.all_cons, Bool.and_eq_true] at h
    simp at hb
    rw [← hb]
    exact h.1

theorem tw_trim {y t : List UInt8} (h : Trim y t) : (y ++ t).takeWhile isDigit = y.takeWhile isDigit ∧ (y ++ t).dropWhile isDigit = y.dropWhile isDigit ++ t := by
  obtain ⟨h1, h2⟩ := tw_nil (p := isDigit) (l := t) (fun b hb => digit_tab b (tabs_head h.tabs b hb))
  have hy := List.takeWhile_append_dropWhile (p := isDigit) (l := y)
  clear h
  induction y with
  | nil => exact ⟨by rw [List.nil_append, h1]; rfl, by rw [List.nil_append, h2]; rfl⟩
  | cons x y ih =>
    have hy2 := List.takeWhile_append_dropWhile (p := isDigit) (l := y)
    obtain ⟨i1, i2⟩ := ih hy2
    rw [List.cons_append, List.takeWhile_cons, List.dropWhile_cons, List.takeWhile_cons, List.dropWhile_cons]
    cases isDigit x
    · exact ⟨rfl, rfl⟩
    · simp only [if_true]
      exact ⟨by rw [i1], i2⟩

theorem sign_trim {x : UInt8} (hx : isTab x = false) {y t : List UInt8} (h : Trim y t) : signOk x (y ++ t) = signOk x y ∧ (signOk x y = true → (y ++ t).tail = y.tail ++ t ∧ Trim y.tail t) := by
  cases y with
  | nil =>
    constructor
    · unfold signOk
      rw [List.nil_append]
      cases ht : t.head? with
      | none => rfl
      | some b =>
        have := tabs_head h.tabs b ht
        have hne : b ≠ x := fun e => by rw [e, hx] at this; cases this
        simp [hne]
    · intro h2
      simp [signOk] at h2
  | cons a y => exact ⟨rfl, fun _ => ⟨rfl, h.tail⟩⟩

theorem Trim.dropWhile {y t : List UInt8} (h : Trim y t) (p : UInt8 → Bool) : Trim (y.dropWhile p) t := by
  have hsp := List.takeWhile_append_dropWhile (p := p) (l := y)
  have e : y.dropWhile p = y.drop (y.takeWhile p).length := by
    have e4 : y.drop (y.takeWhile p).length = (y.takeWhile p ++ y.dropWhile p).drop (y.takeWhile p).length := by rw [hsp]
    rw [e4, List.drop_left]
  rw [e]
  exact h.drop _

theorem twAll (p : UInt8 → Bool) : ∀ l : List UInt8, (l.takeWhile p).all p = true
  | [] => rfl
  | a :: l => by
    rw [List.takeWhile_cons]
    split
    · rw [List.all_cons, twAll p l, Bool.and_true]; assumption
    · rfl

theorem dw_all (p : UInt8 → Bool) (l : List UInt8) : (l.dropWhile p = []) ↔ l.all p = true := by
  have h3 := List.takeWhile_append_dropWhile (p := p) (l := l)
  constructor
  · intro h
    rw [h, List.append_nil] at h3
    rw [← h3]
    exact twAll p l
  · intro h
    have := (tw_app (p := p) (a := l) (b := []) h).2
    simpa using this

theorem tw_full {p : UInt8 → Bool} {l : List UInt8} (h : l.all p = true) : l.takeWhile p = l := by
  have := (tw_app (p := p) (a := l) (b := []) h).1
  simpa using this

theorem end_trim {y t : List UInt8} (h : Trim y t) : ((y ++ t).dropWhile isTab = []) ↔ y = [] := by
  constructor
  · intro h2
    refine h.nil ?_
    rw [List.all_eq_true]
    intro b hb
    have h3 := List.takeWhile_append_dropWhile (p := isTab) (l := y ++ t)
    rw [h2, List.append_nil] at h3
    have : b ∈ (y ++ t).takeWhile isTab := by rw [h3]; exact List.mem_append_left _ hb
    exact List.all_eq_true.1 (twAll isTab (y ++ t)) b this
  · rintro rfl
    rw [List.nil_append]
    have := (tw_app (p := isTab) (a := t) (b := []) h.tabs).2
    simpa using this

theorem sizeL_cons (x : UInt8) (r : List UInt8) : sizeL (x :: r) = if x = 42 then some ([], r) else if isDigit x = true then some ((x :: r).takeWhile isDigit, (x :: r).dropWhile isDigit) else none := rfl

theorem size_nil {t : List UInt8} (h : t.all isTab = true) : sizeL t = none := by
  cases t with
  | nil => rfl
  | cons b t =>
    have hb := tabs_head h b rfl
    have h42 : b ≠ 42 := fun e => by rw [e] at hb; exact absurd hb (by decide)
    rw [sizeL_cons, if_neg h42, if_neg (by rw [digit_tab b hb]; simp)]

theorem size_trim {x : UInt8} {y t : List UInt8} (h : Trim (x :: y) t) :
    sizeL (x :: y ++ t) = if x = 42 then some ([], y ++ t) else if isDigit x = true then some ((x :: y).takeWhile isDigit, (x :: y).dropWhile isDigit ++ t) else none := by
  rw [List.cons_append, sizeL_cons, ← List.cons_append, (tw_trim h).1, (tw_trim h).2]

theorem con7_trim (f : List UInt8) (o : Bool) (ho : o = true ↔ f = []) (t2 y t : List UInt8) (h : Trim y t) :
    con7 f t2 o (sizeL (y ++ t)) = if y = [42] ∧ f ≠ [] then some (f, t2, []) else if y = [] ∨ y.all isDigit = false then none else some (f, t2, y) := by
  cases y with
  | nil =>
    rw [List.nil_append, size_nil h.tabs, if_neg (by simp), if_pos (.inl rfl)]
    rfl
  | cons x y =>
    rw [size_trim h]
    by_cases hx : x = 42
    · subst hx
      rw [if_pos rfl]
      show (if ([] : List UInt8) = [] ∧ o = true then none else if (y ++ t).dropWhile isTab = [] then some (f, t2, []) else none) = _
      have he := end_trim h.tail
      have hd : ((42 :: y).all isDigit) = false := rfl
      by_cases hy : y = []
      · by_cases hf : f = []
        · rw [if_pos ⟨rfl, ho.2 hf⟩, if_neg (by rintro ⟨_, h2⟩; exact h2 hf), if_pos (.inr hd)]
        · rw [if_neg (by rintro ⟨_, h2⟩; exact hf (ho.1 h2)), if_pos (he.2 hy), if_pos ⟨by rw [hy], hf⟩]
      · have hn : ¬ (42 :: y = [42]) := fun e => hy (by injection e)
        have hr : (if 42 :: y = [42] ∧ f ≠ [] then some (f, t2, []) else if 42 :: y = [] ∨ (42 :: y).all isDigit = false then none else some (f, t2, 42 :: y)) = none := by rw [if_neg (fun h2 => hn h2.1), if_pos (.inr hd)]
        rw [hr]
        split
        · rfl
        · rw [if_neg (fun h2 => hy (he.1 h2))]
    · rw [if_neg hx]
      have hn : ¬ (x :: y = [42] ∧ f ≠ []) := fun e => hx (by injection e.1)
      by_cases hd : isDigit x = true
      · rw [if_pos hd]
        have htw : (x :: y).takeWhile isDigit ≠ [] := by rw [List.takeWhile_cons, if_pos hd]; simp
        show (if (x :: y).takeWhile isDigit = [] ∧ o = true then none else if ((x :: y).dropWhile isDigit ++ t).dropWhile isTab = [] then some (f, t2, (x :: y).takeWhile isDigit) else none) = _
        rw [if_neg (fun h2 => htw h2.1), if_neg hn]
        have he := end_trim (h.dropWhile isDigit)
        by_cases ha : (x :: y).all isDigit = true
        · rw [if_pos (he.2 ((dw_all _ _).2 ha)), tw_full ha, if_neg (by rw [ha]; simp)]
        · rw [if_neg (fun h2 => ha ((dw_all _ _).1 (he.1 h2))), if_pos (.inr (by simpa using ha))]
      · rw [if_neg hd, if_neg hn, if_pos (.inr (by rw [List.all_cons]; simp [hd]))]
        rfl

theorem con6_trim (f : List UInt8) (o : Bool) (ho : o = true ↔ f = []) (t2 y t : List UInt8) (h : Trim y t) : con6 f t2 o (y ++ t) = rcon6 f t2 y := by
  obtain ⟨h1, h2⟩ := sign_trim (x := 47) (by decide) h
  unfold con6 rcon6
  rw [h1]
  cases hs : signOk 47 y
  · rfl
  · obtain ⟨h3, h4⟩ := h2 hs
    rw [if_pos rfl, if_pos rfl, h3]
    exact con7_trim f o ho t2 y.tail t h4

theorem con5_trim (f : List UInt8) (hf : f ≠ []) (y t : List UInt8) (h : Trim y t) : con5 f (sizeL (y ++ t)) = rcon5 f y := by
  unfold rcon5
  cases y with
  | nil =>
    rw [List.nil_append, size_nil h.tabs]
    rfl
  | cons x y =>
    rw [size_trim h]
    by_cases hx : x = 42
    · subst hx
      rw [if_pos rfl]
      rfl
    · rw [if_neg hx]
      by_cases hd : isDigit x = true
      · have htw : (x :: y).takeWhile isDigit ≠ [] := by rw [List.takeWhile_cons, if_pos hd]; simp
        rw [if_pos hd, if_neg htw]
        show (if (x :: y).takeWhile isDigit = [] then none else con6 f ((x :: y).takeWhile isDigit) false ((x :: y).dropWhile isDigit ++ t)) = _
        rw [if_neg htw]
        exact con6_trim f false (by constructor <;> intro h2; cases h2; exact absurd h2 hf) _ _ t (h.dropWhile isDigit)
      · rw [if_neg hd, if_pos (by rw [List.takeWhile_cons, if_neg hd])]
        rfl

theorem con3_trim {y t : List UInt8} (h : Trim y t) : con3 (y ++ t) = rcon3 y := by
  obtain ⟨h1, h2⟩ := sign_trim (x := 42) (by decide) h
  unfold con3 rcon3
  rw [h1]
  cases hs : signOk 42 y
  · rw [if_neg (by simp), if_neg (by simp)]
    unfold rcon4
    cases y with
    | nil =>
      rw [List.nil_append, size_nil h.tabs]
      rfl
    | cons x y =>
      have hx : x ≠ 42 := fun e => by rw [e] at hs; exact absurd hs (by simp [signOk])
      rw [size_trim h, if_neg hx]
      by_cases hd : isDigit x = true
      · have htw : (x :: y).takeWhile isDigit ≠ [] := by rw [List.takeWhile_cons, if_pos hd]; simp
        rw [if_pos hd, if_neg htw]
        show (if (x :: y).takeWhile isDigit = [] then none else if signOk 45 ((x :: y).dropWhile isDigit ++ t) = true then con5 ((x :: y).takeWhile isDigit) (sizeL ((x :: y).dropWhile isDigit ++ t).tail) else none) = _
        rw [if_neg htw]
        obtain ⟨h5, h6⟩ := sign_trim (x := 45) (by decide) (h.dropWhile isDigit)
        rw [h5]
        cases hq : signOk 45 ((x :: y).dropWhile isDigit)
        · rfl
        · obtain ⟨h7, h8⟩ := h6 hq
          rw [if_pos rfl, if_pos rfl, h7]
          exact con5_trim _ htw _ t h8
      · rw [if_neg hd, if_pos (by rw [List.takeWhile_cons, if_neg hd])]
        rfl
  · obtain ⟨h3, h4⟩ := h2 hs
    rw [if_pos rfl, if_pos rfl, h3]
    exact con6_trim [] true (by simp) [] y.tail t h4

/-- Behind the unit: what the program reads of a text is what the reference reads of the trimmed one. -/
theorem con3_ends (l : List UInt8) : con3 l = rcon3 (trimEnd isTab l) := by
  obtain ⟨t, h1, h2⟩ := trim_split l.length l (Nat.le_refl _)
  conv => lhs; rw [h1]
  exact con3_trim h2

end Go.Proofs.YtcbhkcdphbffpaaGreatDoor

namespace Go.Proofs.YtcbhkcdphbffpaaGreatDoor
open Go.RowKit
set_option linter.unusedSimpArgs false
set_option linter.unusedVariables false

theorem bl_drop (n : Nat) (l : List UInt8) : (bl l).extract n (bl l).size = bl (l.drop n) := by
  apply bytes_ext
  rw [Lib.extract_data, bl_list, bl_list, bl_size, List.take_of_length_le]
  rw [List.length_drop]
  exact Nat.le_refl _

theorem bl_take (n : Nat) (l : List UInt8) : (bl l).extract 0 n = bl (l.take n) := by
  apply bytes_ext
  rw [Lib.extract_data, bl_list, bl_list]
  rfl

theorem bl_cons_size (x : UInt8) (l : List UInt8) : 0 < (bl (x :: l)).size := by rw [bl_size]; simp

theorem bl_head (x : UInt8) (l : List UInt8) (w : World) : (Instr.index 9 (.string (bl (x :: l))) (.int .i64 0)).run Tryz.prog w = .ok (.int .u8 (x.toNat : Int)) w :=
  index_zero 9 Tryz.underlying9 (bl (x :: l)) (bl_cons_size x l) w

theorem bl_of {s : ByteArray} {l : List UInt8} (h : s.data.toList = l) : s = bl l := bytes_ext (by rw [bl_list, h])

theorem lst_head (t : ByteArray) (h : 0 < t.size) : t.data.toList = t[0] :: (t.extract 1 t.size).data.toList := by
  have e : (t.extract 1 t.size).data.toList = t.data.toList.drop 1 := lef_rest t 1
  rw [e]
  conv => lhs; rw [← List.drop_zero (l := t.data.toList)]
  rw [List.drop_eq_getElem_cons (by rw [← Lib.size_eq]; exact h)]
  rfl

theorem lst_drop (t : ByteArray) (h : 0 < t.size) (p : UInt8 → Bool) (hp : p t[0] = true) : (t.extract 1 t.size).data.toList.dropWhile p = t.data.toList.dropWhile p := by
  rw [lst_head t h, List.dropWhile_cons, if_pos hp]

theorem lst_stay (t : ByteArray) (h : 0 < t.size) (p : UInt8 → Bool) (hp : p t[0] = false) : t.data.toList.dropWhile p = t.data.toList := by
  conv => lhs; rw [lst_head t h, List.dropWhile_cons, if_neg (by rw [hp]; simp)]
  exact (lst_head t h).symm

set_option maxRecDepth 20000 in
theorem cut24_any (s : ByteArray) (w : World) (hs : s.size ≤ maxLen) :
    Calls Tryz.prog 88 #[.string s] w fun e w' => e = .returned (.string (bl (s.data.toList.dropWhile isTab))) ∧ w = w' := by
  unfold maxLen at hs
  have HT : Hid (s.data.toList.dropWhile isTab = s.data.toList.dropWhile isTab) := Lib.hid rfl
  go_enter Tryz.func88, Tryz.ntmps88
  go_wp2
  go_loop [0] (fun v => ∃ t : ByteArray, v = .string t ∧ t.size ≤ s.size ∧ t.data.toList.dropWhile isTab = s.data.toList.dropWhile isTab) (fun v => strLen v)
  case atStart => exact ⟨s, rfl, Nat.le_refl _, rfl⟩
  case round =>
    obtain ⟨t, rfl, hts, hp⟩ := hrel
    by_cases hlt : 0 < t.size
    · have hlti : (0 : Int) < (t.size : Int) := by omega
      have HTB := Lib.hid (fun w => rTab_any t[0] w)
      cases htb : isTab t[0]
      · rw [lst_stay t hlt isTab htb] at hp
        have HS := Lib.hid hp
        have HT0 := Lib.hid htb
        clear hp htb
        go_wp2_with (go_at_call 86; refine Calls.mono (HTB.out _) ?_; rintro e w' ⟨rfl, rfl⟩; rw [HT0.out])
        go_ret
        exact ⟨ret_string (bl_of HS.out), rfl⟩
      · have hnext := lst_drop t hlt isTab htb
        have HN := Lib.hid (hnext.trans hp)
        have hsz := Lib.hid (extract_size t 1 t.size)
        have HT0 := Lib.hid htb
        clear hnext hp htb
        go_wp2_with (go_at_call 86; refine Calls.mono (HTB.out _) ?_; rintro e w' ⟨rfl, rfl⟩; rw [HT0.out])
        go_round
        case rel => exact ⟨_, rfl, by rw [hsz.out]; omega, HN.out⟩
        case measure => simp [strLen, hsz.out]; omega
    · have hlti : ¬ ((0 : Int) < (t.size : Int)) := by omega
      have hnil : t.data.toList = [] := List.eq_nil_of_length_eq_zero (by rw [← Lib.size_eq]; omega)
      rw [hnil, List.dropWhile_nil] at hp
      have HS := Lib.hid (hnil.trans hp)
      clear hp hnil
      go_wp2_with fail
      go_ret
      exact ⟨ret_string (bl_of HS.out), rfl⟩

/-- A number of no digits or of some; whether it is not too great. -/
def numOk (l : List UInt8) : Bool := decide (l = [] ∨ dec_valL l ≤ mostN)

theorem num24_any (l : List UInt8) (w : World) (hl : l.length ≤ 1000) (hd : l.all isDigit = true) :
    Calls Tryz.prog 90 #[.string (bl l)] w fun e w' => e = .returned (.tuple #[.int .i64 (saidN l), .bool (numOk l)]) ∧ w = w' := by
  by_cases h0 : l = []
  · have H1 : Hid (saidN l = -1) := Lib.hid (by unfold saidN; rw [if_pos h0])
    have H2 : Hid (numOk l = true) := Lib.hid (decide_eq_true (.inl h0))
    have hb : (bl l).toList = [] := by rw [bl_nil]; exact h0
    generalize bl l = s at *
    clear h0
    go_enter Tryz.func90, Tryz.ntmps90
    go_wp2_with fail
    go_ret2
    exact ⟨by rw [H1.out, H2.out]; rfl, rfl⟩
  · have hb : (bl l).toList.isEmpty = false := by rw [List.isEmpty_eq_false_iff, ne_eq, bl_nil]; exact h0
    have hz : 0 < (bl l).size := by rw [bl_size]; exact List.length_pos_iff.2 h0
    have hd2 : (bl l).data.toList.all isDigit = true := by rw [bl_list]; exact hd
    have hp := parse_digits hz hd2
    have HP := Lib.hid (fun w => dec_rParse_any (bl l) w (by rw [bl_size]; unfold maxLen; omega))
    rw [hp.1, hp.2] at HP
    rw [bl_list] at HP
    by_cases hm : dec_valL l ≤ mostN
    · rw [if_pos hm, if_pos hm] at HP
      have H1 : Hid (saidN l = dec_valL l) := Lib.hid (by unfold saidN; rw [if_neg h0, if_pos hm])
      have H2 : Hid (numOk l = true) := Lib.hid (decide_eq_true (.inr hm))
      clear hp hd2 hz h0 hm
      generalize bl l = s at *
      go_enter Tryz.func90, Tryz.ntmps90
      go_wp2_with (go_at_call 123; refine (HP.out _).mono ?_; rintro e w2 ⟨rfl, rfl⟩)
      go_ret2
      exact ⟨by rw [H1.out, H2.out]; rfl, rfl⟩
    · rw [if_neg hm, if_neg hm] at HP
      have H1 : Hid (saidN l = 0) := Lib.hid (by unfold saidN; rw [if_neg h0, if_neg hm])
      have H2 : Hid (numOk l = false) := Lib.hid (decide_eq_false (by rintro (h | h); exact h0 h; exact hm h))
      clear hp hd2 hz h0 hm
      generalize bl l = s at *
      go_enter Tryz.func90, Tryz.ntmps90
      go_wp2_with (go_at_call 123; refine (HP.out _).mono ?_; rintro e w2 ⟨rfl, rfl⟩)
      go_ret2
      exact ⟨by rw [H1.out, H2.out]; rfl, rfl⟩

/-- What the reference's unit says. -/
def unitV (l : List UInt8) : Value :=
  if unitOk (l.dropWhile isTab) = true then .tuple #[.string (bl ((l.dropWhile isTab).dropWhile isLetter)), .bool true] else .tuple #[.string ⟨#[]⟩, .bool false]

theorem lowerB_bl (l : List UInt8) : (lowerB (bl l)).toList = lowerL l := by
  rw [Lib.toList_data]
  unfold lowerB
  simp [bl]

theorem unitV_eq (l : List UInt8) : unitV l = if runitOk (l.dropWhile isTab) = true then .tuple #[.string (bl ((l.dropWhile isTab).drop 5)), .bool true] else .tuple #[.string ⟨#[]⟩, .bool false] := by
  unfold unitV
  rw [unit_plain]
  by_cases h : runitOk (l.dropWhile isTab) = true
  · rw [if_pos h, if_pos h, unit_drop h]
  · rw [if_neg h, if_neg h]

set_option maxRecDepth 20000 in
set_option maxHeartbeats 1000000 in
theorem unit24_any (s : ByteArray) (w : World) (hs : s.size ≤ maxLen) :
    Calls Tryz.prog 85 #[.string s] w fun e w' => e = .returned (unitV s.data.toList) ∧ Below w.heap.size w w' := by
  have HC := Lib.hid (fun w => cut24_any s w hs)
  have HV0 := unitV_eq s.data.toList
  have hl : (s.data.toList.dropWhile isTab).length ≤ s.size := by
    have := (List.dropWhile_sublist (p := isTab) (l := s.data.toList)).length_le
    rw [← Lib.size_eq] at this
    exact this
  generalize s.data.toList.dropWhile isTab = l at *
  have hz : (bl l).size = l.length := bl_size l
  have hs2 : (bl l).size ≤ 9223372036854775807 := by unfold maxLen at hs; omega
  by_cases h5 : l.length < 5
  · have HR : runitOk l = false := decide_eq_false (by omega)
    have HV := Lib.hid (HV0.trans (if_neg (by rw [HR]; simp)))
    have h5i : ((bl l).size : Int) < 5 := by omega
    clear HV0 HR
    generalize bl l = t at *
    go_enter Tryz.func85, Tryz.ntmps85
    go_wp2_with (go_at_call 88; (with_reducible refine (HC.out _).mono ?_); rintro e w2 ⟨rfl, rfl⟩)
    go_ret2
    exact ⟨by rw [HV.out]; rfl, Below.refl _ _⟩
  have h5i : ¬ (((bl l).size : Int) < 5) := by omega
  have h5j : (5 : Int) ≤ ((bl l).size : Int) := by omega
  have ht : (bl l).extract 0 5 = bl (l.take 5) := bl_take 5 l
  have hdr : (bl l).extract 5 (bl l).size = bl (l.drop 5) := bl_drop 5 l
  have HL := Lib.hid (fun w => rLower_any (bl (l.take 5)) w (by rw [bl_size]; have := List.length_take_le 5 l; unfold maxLen; omega) (by rw [bl_size]; have := List.length_take_le 5 l; omega))
  have hlow := lowerB_bl (l.take 5)
  generalize lowerB (bl (l.take 5)) = L5 at *
  generalize bl (l.take 5) = T5 at *
  by_cases hu : lowerL (l.take 5) = bytesL
  case neg =>
    have HR : runitOk l = false := decide_eq_false (fun h => hu h.2.1)
    have HV := Lib.hid (HV0.trans (if_neg (by rw [HR]; simp)))
    have hne : (L5.toList == [98, 121, 116, 101, 115]) = false := beq_eq_false_iff_ne.2 (by rw [hlow]; exact hu)
    clear HV0 HR hu hlow hdr
    generalize bl l = t at *
    go_enter Tryz.func85, Tryz.ntmps85
    go_wp2_with (first | (go_at_call 88; (with_reducible refine (HC.out _).mono ?_); rintro e w2 ⟨rfl, rfl⟩) | (go_at_call 66; (with_reducible refine (HL.out _).mono ?_); rintro e w2 ⟨rfl, hb⟩))
    go_ret2
    exact ⟨by rw [HV.out]; rfl, hb⟩
  have heq : L5.toList = [98, 121, 116, 101, 115] := by rw [hlow]; exact hu
  by_cases h6 : 5 < l.length
  · have h6i : (5 : Int) < ((bl l).size : Int) := by omega
    have hg : (bl l)[5]'(by omega) = l.getD 5 0 := by
      unfold List.getD
      rw [List.getElem?_eq_getElem h6]
      rfl
    have HLT := Lib.hid (fun w => rLetter_any (l.getD 5 0) w)
    have hidx : ∀ w, (Instr.index 9 (.string (bl l)) (.int .i64 5)).run Tryz.prog w = .ok (.int .u8 ((l.getD 5 0).toNat : Int)) w := fun w => by
      have h := index_byte (P := Tryz.prog) 9 Tryz.underlying9 (bl l) 5 (by omega) w
      rw [hg] at h
      exact h
    cases hle : isLetter (l.getD 5 0)
    · have HR : runitOk l = true := decide_eq_true ⟨by omega, hu, by rintro ⟨_, h⟩; rw [hle] at h; cases h⟩
      have HV := Lib.hid (HV0.trans (if_pos HR))
      rw [hle] at HLT
      clear HV0 HR hu hlow hg hle hz h5 h6
      generalize bl (l.drop 5) = D5 at *
      generalize l.getD 5 0 = x at *
      generalize bl l = t at *
      go_enter Tryz.func85, Tryz.ntmps85
      go_wp2_with (first | (go_at_call 88; (with_reducible refine (HC.out _).mono ?_); rintro e w2 ⟨rfl, rfl⟩) | (go_at_call 66; (with_reducible refine (HL.out _).mono ?_); rintro e w2 ⟨rfl, hb⟩) | (go_at_call 120; (with_reducible refine (HLT.out _).mono ?_); rintro e w2 ⟨rfl, rfl⟩))
      go_ret2
      exact ⟨by rw [HV.out]; rfl, hb⟩
    · have HR : runitOk l = false := decide_eq_false (fun h => h.2.2 ⟨h6, hle⟩)
      have HV := Lib.hid (HV0.trans (if_neg (by rw [HR]; simp)))
      rw [hle] at HLT
      clear HV0 HR hu hlow hg hle hz h5 h6
      generalize bl (l.drop 5) = D5 at *
      generalize l.getD 5 0 = x at *
      generalize bl l = t at *
      go_enter Tryz.func85, Tryz.ntmps85
      go_wp2_with (first | (go_at_call 88; (with_reducible refine (HC.out _).mono ?_); rintro e w2 ⟨rfl, rfl⟩) | (go_at_call 66; (with_reducible refine (HL.out _).mono ?_); rintro e w2 ⟨rfl, hb⟩) | (go_at_call 120; (with_reducible refine (HLT.out _).mono ?_); rintro e w2 ⟨rfl, rfl⟩))
      go_ret2
      exact ⟨by rw [HV.out]; rfl, hb⟩
  · have h6i : ¬ ((5 : Int) < ((bl l).size : Int)) := by omega
    have HR : runitOk l = true := decide_eq_true ⟨by omega, hu, by rintro ⟨h, _⟩; exact h6 h⟩
    have HV := Lib.hid (HV0.trans (if_pos HR))
    clear HV0 HR hu hlow hz h5 h6
    generalize bl (l.drop 5) = D5 at *
    generalize bl l = t at *
    go_enter Tryz.func85, Tryz.ntmps85
    go_wp2_with (first | (go_at_call 88; (with_reducible refine (HC.out _).mono ?_); rintro e w2 ⟨rfl, rfl⟩) | (go_at_call 66; (with_reducible refine (HL.out _).mono ?_); rintro e w2 ⟨rfl, hb⟩))
    go_ret2
    exact ⟨by rw [HV.out]; rfl, hb⟩

end Go.Proofs.YtcbhkcdphbffpaaGreatDoor

namespace Go.Proofs.YtcbhkcdphbffpaaGreatDoor

def part_goodP (f t s : Int) : Bool :=
  decide ((f = -1 ∧ t = -1 ∧ 0 ≤ s ∧ s ≤ 9007199254740991) ∨ (¬ (f = -1 ∧ t = -1) ∧ 0 ≤ f ∧ f ≤ t ∧ t ≤ 9007199254740991 ∧ (s = -1 ∨ (t < s ∧ s ≤ 9007199254740991))))

def lenP (f t s : Int) : Int := if part_goodP f t s = true ∧ ¬ f = -1 then t - f + 1 else 0

def saysP (f t s : Int) : Bool := decide (0 < lenP f t s)

theorem saysP_eq (f t s : Int) : saysP f t s = decide (0 ≤ f ∧ f ≤ t ∧ t ≤ 9007199254740991 ∧ (s = -1 ∨ (t < s ∧ s ≤ 9007199254740991))) := by
  unfold saysP lenP part_goodP
  rw [decide_eq_decide]
  simp only [decide_eq_true_eq]
  split <;> omega

def moreP (f t s : Int) : Bool := decide (saysP f t s = true ∧ ¬ t = s - 1 ∧ ¬ t = 9007199254740991)
def wholeP (f t s : Int) : Bool := decide (saysP f t s = true ∧ f = 0 ∧ t = s - 1)
def coversP (f t s f2 t2 s2 : Int) : Bool := decide (saysP f t s = true ∧ saysP f2 t2 s2 = true ∧ f ≤ f2 ∧ t2 ≤ t)

theorem saysP_range {f t s : Int} (h : saysP f t s = true) : 0 ≤ f ∧ f ≤ t ∧ t ≤ 9007199254740991 ∧ -1 ≤ s ∧ s ≤ 9007199254740991 ∧ (s = -1 ∨ t < s) := by
  rw [saysP_eq, decide_eq_true_eq] at h
  omega

theorem moreP_no {f t s : Int} (h : saysP f t s = false) : moreP f t s = false := by simp [moreP, h]

theorem moreP_eq {f t s : Int} (h : saysP f t s = true) : moreP f t s = decide ((s < 0 ∨ t < s - 1) ∧ t < 9007199254740991) := by
  have := saysP_range h
  unfold moreP
  rw [h, decide_eq_decide]
  simp only [true_and]
  omega

theorem coversP_no {f t s f2 t2 s2 : Int} (h : saysP f t s = false ∨ saysP f2 t2 s2 = false) : coversP f t s f2 t2 s2 = false := by
  rcases h with h | h <;> simp [coversP, h]

theorem coversP_eq {f t s f2 t2 s2 : Int} (h : saysP f t s = true) (h2 : saysP f2 t2 s2 = true) : coversP f t s f2 t2 s2 = decide (f ≤ f2 ∧ t2 ≤ t) := by
  simp [coversP, h, h2]

theorem wholeP_no {f t s : Int} (h : saysP f t s = false) : wholeP f t s = false := by simp [wholeP, h]

theorem wholeP_eq {f t s : Int} (h : saysP f t s = true) : wholeP f t s = decide (f = 0 ∧ 0 ≤ s ∧ t = s - 1) := by
  have := saysP_range h
  unfold wholeP
  rw [h, decide_eq_decide]
  simp only [true_and]
  omega

theorem goodP_says {f t s : Int} (h : saysP f t s = true) : part_goodP f t s = true := by
  have := saysP_range h
  unfold part_goodP
  rw [decide_eq_true_eq]
  omega

theorem lenP_range (f t s : Int) : 0 ≤ lenP f t s ∧ lenP f t s ≤ 9007199254740992 := by
  unfold lenP part_goodP
  simp only [decide_eq_true_eq]
  split <;> omega

end Go.Proofs.YtcbhkcdphbffpaaGreatDoor

namespace Go.Proofs.YtcbhkcdphbffpaaGreatDoor
open Go.RowKit

/-- What is asked for, and what was wrong. -/
def askedV (l : List UInt8) : Value :=
  match askL l with
  | none => .tuple #[.agg #[.int .i64 0, .int .i64 0], .int .i64 2]
  | some (f, t) => if saidE t (saidE f 0) ≠ 0 ∨ (saidN t < saidN f ∧ saidN t ≠ -1) then .tuple #[.agg #[.int .i64 0, .int .i64 0], .int .i64 9] else .tuple #[.agg #[.int .i64 (saidN f), .int .i64 (saidN t)], .int .i64 0]

/-- What comes, and what was wrong. -/
def conV (l : List UInt8) : Value :=
  match conL l with
  | none => .tuple #[.agg #[.int .i64 0, .int .i64 0, .int .i64 0], .int .i64 2]
  | some (f, t, a) => if saidE a (saidE t (saidE f 0)) ≠ 0 ∨ part_goodP (saidN f) (saidN t) (saidN a) = false then .tuple #[.agg #[.int .i64 0, .int .i64 0, .int .i64 0], .int .i64 9] else .tuple #[.agg #[.int .i64 (saidN f), .int .i64 (saidN t), .int .i64 (saidN a)], .int .i64 0]

end Go.Proofs.YtcbhkcdphbffpaaGreatDoor
