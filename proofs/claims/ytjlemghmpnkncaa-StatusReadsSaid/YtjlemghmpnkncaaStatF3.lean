/-
  The walk of the reference of package status: Line.
-/
import Derived.Test.YtjlemghmpnkncaaStatR2
import Derived.BigRegion
import Derived.Deep.CutBlock
import Derived.Deep.DeepCutAuto
import Derived.StillTailTactics
import Derived.Test.YtjlemghmpnkncaaTailIn
namespace Go.Proofs.Ytjlemghmpnkncaa
open Go.RowKit
set_option linter.unusedSimpArgs false
set_option linter.unusedVariables false

/-- What the reference says of the list of a line's bytes, trimmed at its end. -/
def refS (S : List UInt8) (a b : Int) : Option (Int × Int × Int × List UInt8) :=
  if runL S < 3 then none else if S.getD 0 0 = 48 then none
  else if S.drop 3 ≠ [] ∧ (S.drop 3).getD 0 0 ≠ 32 then none
  else if quoL ((S.drop 3).dropWhile isTab) = false then none
  else some (a, b, (100 : Int) * (((S.getD 0 0).toNat : Int) - 48) + (10 : Int) * (((S.getD 1 0).toNat : Int) - 48) + (((S.getD 2 0).toNat : Int) - 48), (S.drop 3).dropWhile isTab)

def headOk (T : ByteArray) : Bool :=
  prefB T headT && decide (12 ≤ T.size) && isDigit (T.data.toList.getD 5 0) && (T.data.toList.getD 6 0 == 46) && isDigit (T.data.toList.getD 7 0) && (T.data.toList.getD 8 0 == 32)

def refR (T : ByteArray) : Option (Int × Int × Int × List UInt8) :=
  if headOk T = true then refS ((T.data.toList.drop 8).dropWhile (fun b => b == 32)) (((T.data.toList.getD 5 0).toNat : Int) - 48) (((T.data.toList.getD 7 0).toNat : Int) - 48) else none

/-- What the reference's Line says. -/
def refV (T : ByteArray) : Value :=
  match refR T with
  | none => .tuple #[statV 0 0 0 ⟨#[]⟩, .int .i64 2]
  | some (a, b, c, r) => .tuple #[statV a b c ⟨r.toArray⟩, .int .i64 0]

theorem refV_off {T : ByteArray} (h : headOk T = false) : refV T = .tuple #[statV 0 0 0 ⟨#[]⟩, .int .i64 2] := by
  unfold refV refR
  rw [if_neg (by rw [h]; simp)]

theorem getD_byte (s : ByteArray) (k : Nat) (h : k < s.size) : s.data.toList.getD k 0 = s[k] := by
  unfold List.getD
  rw [List.getElem?_eq_getElem (by rw [← Lib.size_eq]; exact h)]
  rfl

theorem digit_bounds {b : UInt8} (h : isDigit b = true) : 48 ≤ b.toNat ∧ b.toNat ≤ 57 := by
  rw [isDigit_eq] at h
  simpa using h

theorem list_head (t : ByteArray) (h : 0 < t.size) : t.data.toList = t[0] :: (t.extract 1 t.size).data.toList := by
  rw [rest_list]
  conv => lhs; rw [← List.drop_zero (l := t.data.toList)]
  rw [List.drop_eq_getElem_cons (by rw [← Lib.size_eq]; exact h)]
  rfl

theorem drop_head (t : ByteArray) (h : 0 < t.size) (p : UInt8 → Bool) (hp : p t[0] = true) : (t.extract 1 t.size).data.toList.dropWhile p = t.data.toList.dropWhile p := by
  rw [list_head t h, List.dropWhile_cons, if_pos hp]

theorem drop_stay (t : ByteArray) (h : 0 < t.size) (p : UInt8 → Bool) (hp : p t[0] = false) : t.data.toList.dropWhile p = t.data.toList := by
  conv => lhs; rw [list_head t h, List.dropWhile_cons, if_neg (by rw [hp]; simp)]
  exact (list_head t h).symm

theorem run_digit (t : ByteArray) (k : Nat) (h : k < t.size) (hr : k < runL t.data.toList) : isDigit t[k] = true := by
  have ha := take_all_digits t.data.toList
  rw [List.all_eq_true] at ha
  apply ha
  rw [List.mem_iff_getElem?]
  refine ⟨k, ?_⟩
  rw [List.getElem?_take, if_pos hr, List.getElem?_eq_getElem (by rw [← Lib.size_eq]; exact h)]
  rfl

def TwoBox (w cur : World) (a b c : Int) (r : ByteArray) : Prop := Below w.heap.size w cur ∧ cur.heap[w.heap.size]? = some (statO 0 0 0 ⟨#[]⟩) ∧ cur.heap[w.heap.size + 1]? = some (statO 0 0 0 ⟨#[]⟩)

set_option maxRecDepth 20000 in
set_option maxHeartbeats 4000000 in
theorem rLine_any (s : ByteArray) (w : World) (hs : s.size ≤ maxLen) (hse : (endsB s).size ≤ maxLen) :
    Calls Try.prog 16 #[.string s] w fun e w' => e = .returned (refV (endsB s)) ∧ Below w.heap.size w w' := by
  have HEN := Lib.hid (fun w => rEnds_any s w hs)
  generalize endsB s = X at *
  have HP := Lib.hid (fun w => Prefix_any X headT w hse (by decide))
  have hs2 : X.size ≤ 9223372036854775807 := by unfold maxLen at hse; omega
  have z : ((w.alloc (.cells #[.int .i64 0, .int .i64 0, .int .i64 0, .string ⟨#[]⟩] 39)).alloc (.cells #[.int .i64 0, .int .i64 0, .int .i64 0, .string ⟨#[]⟩] 39)).heap[w.heap.size]? = some (statO 0 0 0 ⟨#[]⟩) := by
    rw [Below.heap_alloc _ _ _ (by simp)]
    exact heap_alloc_new w _
  have y : ((w.alloc (.cells #[.int .i64 0, .int .i64 0, .int .i64 0, .string ⟨#[]⟩] 39)).alloc (.cells #[.int .i64 0, .int .i64 0, .int .i64 0, .string ⟨#[]⟩] 39)).heap[w.heap.size + 1]? = some (statO 0 0 0 ⟨#[]⟩) := by
    have := heap_alloc_new (w.alloc (.cells #[.int .i64 0, .int .i64 0, .int .i64 0, .string ⟨#[]⟩] 39)) (.cells #[.int .i64 0, .int .i64 0, .int .i64 0, .string ⟨#[]⟩] 39)
    unfold statO
    simpa using this
  have hb : Below w.heap.size w ((w.alloc (.cells #[.int .i64 0, .int .i64 0, .int .i64 0, .string ⟨#[]⟩] 39)).alloc (.cells #[.int .i64 0, .int .i64 0, .int .i64 0, .string ⟨#[]⟩] 39)) := (below_box w _).alloc (by simp) _
  have hz : ((w.alloc (.cells #[.int .i64 0, .int .i64 0, .int .i64 0, .string ⟨#[]⟩] 39)).alloc (.cells #[.int .i64 0, .int .i64 0, .int .i64 0, .string ⟨#[]⟩] 39)).heap.size = w.heap.size + 2 := by simp
  go_enter Try.func16, Try.ntmps16
  go_upto_region 3 with (go_at_call 40; refine (HEN.out _).mono ?_; rintro e w' ⟨rfl, rfl⟩)
  generalize (w.alloc (.cells #[.int .i64 0, .int .i64 0, .int .i64 0, .string ⟨#[]⟩] 39)).alloc (.cells #[.int .i64 0, .int .i64 0, .int .i64 0, .string ⟨#[]⟩] 39) = W at *
  have HB := Lib.hid hb
  have HZ := Lib.hid z
  have HY := Lib.hid y
  obtain ⟨z0, z1, z2, z3, zf⟩ := stat_cells z
  obtain ⟨y0, y1, y2, y3, yf⟩ := stat_cells y
  clear hb z y HEN
  go_cut [38] (fun v wx => v = .bool (!headOk X) ∧ W = wx)
  case first =>
    cases h1 : prefB X headT
    · have hE : Hid (headOk X = false) := Lib.hid (by unfold headOk; rw [h1]; rfl)
      go_wp2_with (first | (go_at_call 41; refine Calls.mono (HP.out _) ?_; rintro e w' ⟨rfl, rfl⟩; rw [h1]) | (go_at_call 42; first | (with_reducible refine Calls.mono (HD5.out _) ?_; rintro e w' ⟨rfl, rfl⟩; rw [h3]) | (with_reducible refine Calls.mono (HD7.out _) ?_; rintro e w' ⟨rfl, rfl⟩; rw [h7])))
      go_meet
      exact ⟨by rw [hE.out]; first | rfl | (refine congrArg Value.bool ?_; first | (simp [n8]; done) | (simp; omega)), rfl⟩
    by_cases h2 : ¬ (12 ≤ X.size)
    · have hE : Hid (headOk X = false) := Lib.hid (by unfold headOk; rw [h1, decide_eq_false h2]; rfl)
      have hl : (X.size : Int) < 12 := by omega
      go_wp2_with (first | (go_at_call 41; refine Calls.mono (HP.out _) ?_; rintro e w' ⟨rfl, rfl⟩; rw [h1]) | (go_at_call 42; first | (with_reducible refine Calls.mono (HD5.out _) ?_; rintro e w' ⟨rfl, rfl⟩; rw [h3]) | (with_reducible refine Calls.mono (HD7.out _) ?_; rintro e w' ⟨rfl, rfl⟩; rw [h7])))
      go_meet
      exact ⟨by rw [hE.out]; first | rfl | (refine congrArg Value.bool ?_; first | (simp [n8]; done) | (simp; omega)), rfl⟩
    have hl : ¬ ((X.size : Int) < 12) := by omega
    have g5 : 5 < X.size := by omega
    have g6 : 6 < X.size := by omega
    have g7 : 7 < X.size := by omega
    have g8 : 8 < X.size := by omega
    have hk : Hid (headOk X = (isDigit X[5] && (X[6] == 46) && isDigit X[7] && (X[8] == 32))) := Lib.hid (by
      unfold headOk
      rw [h1, decide_eq_true (by omega), getD_byte X 5 g5, getD_byte X 6 g6, getD_byte X 7 g7, getD_byte X 8 g8]
      simp)
    have HD5 := Lib.hid (fun w => rDigit_any X[5] w)
    have HD7 := Lib.hid (fun w => rDigit_any X[7] w)
    cases h3 : isDigit X[5]
    · have hE : Hid (headOk X = false) := Lib.hid (by rw [hk.out, h3]; rfl)
      go_wp2_with (first | (go_at_call 41; refine Calls.mono (HP.out _) ?_; rintro e w' ⟨rfl, rfl⟩; rw [h1]) | (go_at_call 42; first | (with_reducible refine Calls.mono (HD5.out _) ?_; rintro e w' ⟨rfl, rfl⟩; rw [h3]) | (with_reducible refine Calls.mono (HD7.out _) ?_; rintro e w' ⟨rfl, rfl⟩; rw [h7])))
      go_meet
      exact ⟨by rw [hE.out]; first | rfl | (refine congrArg Value.bool ?_; first | (simp [n8]; done) | (simp; omega)), rfl⟩
    by_cases h4 : ¬ (X[6] = 46)
    · have n4 : ¬ ((X[6].toNat : Int) = 46) := fun e => h4 (by apply UInt8.toNat_inj.1; have h46 : (46 : UInt8).toNat = 46 := rfl; omega)
      have hE : Hid (headOk X = false) := Lib.hid (by rw [hk.out, beq_eq_false_iff_ne.2 h4, Bool.and_false]; rfl)
      go_wp2_with (first | (go_at_call 41; refine Calls.mono (HP.out _) ?_; rintro e w' ⟨rfl, rfl⟩; rw [h1]) | (go_at_call 42; first | (with_reducible refine Calls.mono (HD5.out _) ?_; rintro e w' ⟨rfl, rfl⟩; rw [h3]) | (with_reducible refine Calls.mono (HD7.out _) ?_; rintro e w' ⟨rfl, rfl⟩; rw [h7])))
      go_meet
      exact ⟨by rw [hE.out]; first | rfl | (refine congrArg Value.bool ?_; first | (simp [n8]; done) | (simp; omega)), rfl⟩
    have h4b : X[6] = 46 := Decidable.not_not.1 h4
    have n4 : (X[6].toNat : Int) = 46 := by rw [h4b]; rfl
    cases h7 : isDigit X[7]
    · have hE : Hid (headOk X = false) := Lib.hid (by rw [hk.out, h7, Bool.and_false]; rfl)
      go_wp2_with (first | (go_at_call 41; refine Calls.mono (HP.out _) ?_; rintro e w' ⟨rfl, rfl⟩; rw [h1]) | (go_at_call 42; first | (with_reducible refine Calls.mono (HD5.out _) ?_; rintro e w' ⟨rfl, rfl⟩; rw [h3]) | (with_reducible refine Calls.mono (HD7.out _) ?_; rintro e w' ⟨rfl, rfl⟩; rw [h7])))
      go_meet
      exact ⟨by rw [hE.out]; first | rfl | (refine congrArg Value.bool ?_; first | (simp [n8]; done) | (simp; omega)), rfl⟩
    by_cases h8 : ¬ (X[8] = 32)
    · have n8 : ¬ ((X[8].toNat : Int) = 32) := fun e => h8 (by apply UInt8.toNat_inj.1; have h46 : (32 : UInt8).toNat = 32 := rfl; omega)
      have hE : Hid (headOk X = false) := Lib.hid (by rw [hk.out, beq_eq_false_iff_ne.2 h8, Bool.and_false])
      go_wp2_with (first | (go_at_call 41; refine Calls.mono (HP.out _) ?_; rintro e w' ⟨rfl, rfl⟩; rw [h1]) | (go_at_call 42; first | (with_reducible refine Calls.mono (HD5.out _) ?_; rintro e w' ⟨rfl, rfl⟩; rw [h3]) | (with_reducible refine Calls.mono (HD7.out _) ?_; rintro e w' ⟨rfl, rfl⟩; rw [h7])))
      go_meet
      exact ⟨by rw [hE.out]; first | rfl | (refine congrArg Value.bool ?_; first | (simp [n8]; done) | (simp; omega)), rfl⟩
    have h8b : X[8] = 32 := Decidable.not_not.1 h8
    have n8 : (X[8].toNat : Int) = 32 := by rw [h8b]; rfl
    have hE : Hid (headOk X = true) := Lib.hid (by rw [hk.out, h3, h7, beq_iff_eq.2 h4b, beq_iff_eq.2 h8b]; rfl)
    go_wp2_with (first | (go_at_call 41; refine Calls.mono (HP.out _) ?_; rintro e w' ⟨rfl, rfl⟩; rw [h1]) | (go_at_call 42; first | (with_reducible refine Calls.mono (HD5.out _) ?_; rintro e w' ⟨rfl, rfl⟩; rw [h3]) | (with_reducible refine Calls.mono (HD7.out _) ?_; rintro e w' ⟨rfl, rfl⟩; rw [h7])))
    go_meet
    exact ⟨by rw [hE.out]; first | rfl | (refine congrArg Value.bool ?_; first | (simp [n8]; done) | (simp; omega)), rfl⟩
  obtain ⟨rfl, hwx⟩ := hcut
  subst hwx
  cases hh : headOk X
  · have HV := Lib.hid (refV_off hh)
    go_wp2_with fail
    refine bodyPost_ret (v := .tuple #[statV 0 0 0 ⟨#[]⟩, .int .i64 2]) ?_ rfl ⟨by rw [HV.out], (((HB.out.setCell (by simp) _).setCell (by simp) _).setCell (by simp) _).setCell (by simp) _⟩
    unfold statV
    simp [results, Try.results16, go_sem, z0, z1, z2, z3]
  · have hpx := hh
    unfold headOk at hpx
    simp only [Bool.and_eq_true, decide_eq_true_eq, beq_iff_eq] at hpx
    obtain ⟨⟨⟨⟨⟨h1, h2⟩, h5⟩, h6⟩, h7⟩, h8⟩ := hpx
    have g5 : 5 < X.size := by omega
    have g7 : 7 < X.size := by omega
    have g8 : 8 < X.size := by omega
    have HV : Hid (refV X = match refS ((X.data.toList.drop 8).dropWhile (fun b => b == 32)) (((X.data.toList.getD 5 0).toNat : Int) - 48) (((X.data.toList.getD 7 0).toNat : Int) - 48) with
      | none => .tuple #[statV 0 0 0 ⟨#[]⟩, .int .i64 2]
      | some (a, b, c, r) => .tuple #[statV a b c ⟨r.toArray⟩, .int .i64 0]) := Lib.hid (by unfold refV refR; rw [if_pos hh])
    rw [getD_byte X 5 g5] at h5 HV
    rw [getD_byte X 7 g7] at h7 HV
    have d5 := digit_bounds h5
    have d7 := digit_bounds h7
    obtain ⟨m5, hm5⟩ : ∃ m : Int, m = ((X[5].toNat : Int) - 48) := ⟨_, rfl⟩
    obtain ⟨m7, hm7⟩ : ∃ m : Int, m = ((X[7].toNat : Int) - 48) := ⟨_, rfl⟩
    rw [← hm5, ← hm7] at HV
    clear h1 h6 h8 h5 h7 hh
    go_upto_region 5 with fail
    have hz2 : w.heap.size + 1 < W.heap.size := by omega
    have i5 : (5 : Int) < (X.size : Int) := by omega
    have i7 : (7 : Int) < (X.size : Int) := by omega
    have b5 : (48 : Int) ≤ (X[5].toNat : Int) := by omega
    have b5b : (X[5].toNat : Int) ≤ 57 := by omega
    have b7 : (48 : Int) ≤ (X[7].toNat : Int) := by omega
    have b7b : (X[7].toNat : Int) ≤ 57 := by omega
    go_region
    go_upto_block 0 with fail
    have HB2 := Lib.hid ((HB.out.alloc HB.out.size (.cells #[.int .i64 ((X[5].toNat : Int) - 48), .int .i64 ((X[7].toNat : Int) - 48), .int .i64 0, .string ⟨#[]⟩] 39)).drew)
    have x2 : ((W.alloc (.cells #[.int .i64 ((X[5].toNat : Int) - 48), .int .i64 ((X[7].toNat : Int) - 48), .int .i64 0, .string ⟨#[]⟩] 39)).drew).heap[w.heap.size + 2]? = some (statO m5 m7 0 ⟨#[]⟩) := by
      have := heap_alloc_new W (.cells #[.int .i64 ((X[5].toNat : Int) - 48), .int .i64 ((X[7].toNat : Int) - 48), .int .i64 0, .string ⟨#[]⟩] 39)
      rw [hz, ← hm5, ← hm7] at this
      unfold statO
      rw [← hm5, ← hm7]
      exact this
    have z2' : ((W.alloc (.cells #[.int .i64 ((X[5].toNat : Int) - 48), .int .i64 ((X[7].toNat : Int) - 48), .int .i64 0, .string ⟨#[]⟩] 39)).drew).heap[w.heap.size]? = some (statO 0 0 0 ⟨#[]⟩) := (Below.heap_alloc W _ _ (by omega)).trans HZ.out
    have y2' : ((W.alloc (.cells #[.int .i64 ((X[5].toNat : Int) - 48), .int .i64 ((X[7].toNat : Int) - 48), .int .i64 0, .string ⟨#[]⟩] 39)).drew).heap[w.heap.size + 1]? = some (statO 0 0 0 ⟨#[]⟩) := (Below.heap_alloc W _ _ (by omega)).trans HY.out
    have i8 : (8 : Int) ≤ (X.size : Int) := by omega
    generalize ((W.alloc (.cells #[.int .i64 ((X[5].toNat : Int) - 48), .int .i64 ((X[7].toNat : Int) - 48), .int .i64 0, .string ⟨#[]⟩] 39)).drew) = V at *
    clear z0 z1 z2 z3 zf y0 y1 y2 y3 yf HZ HY HB HP
    have HX2 := Lib.hid x2
    have HZ2 := Lib.hid z2'
    have HY2 := Lib.hid y2'
    obtain ⟨z0, z1, z2, z3, zf⟩ := stat_cells z2'
    obtain ⟨y0, y1, y2, y3, yf⟩ := stat_cells y2'
    obtain ⟨x0, x1, x2_, x3, xf⟩ := stat_cells x2
    clear x2 z2' y2'
    have hD0 : (X.extract 8 X.size).data.toList = X.data.toList.drop 8 := rest_list X 8
    have hs8 : (X.extract 8 X.size).size ≤ X.size := by rw [extract_size]; omega
    generalize X.data.toList.drop 8 = D0 at *
    generalize X.extract 8 X.size = t0 at *
    subst hD0
    go_cut [0] (fun v wx => ∃ t : ByteArray, v = .string t ∧ t.size ≤ X.size ∧ t.data.toList = t0.data.toList.dropWhile (fun b => b == 32) ∧ V = wx)
    case first =>
      go_wp2_with fail
      go_loop [0] (fun v => ∃ t : ByteArray, v = .string t ∧ t.size ≤ X.size ∧ t.data.toList.dropWhile (fun b => b == 32) = t0.data.toList.dropWhile (fun b => b == 32)) (fun v => strLen v)
      case atStart => exact ⟨t0, rfl, hs8, rfl⟩
      case round =>
        obtain ⟨t, rfl, hts, hp⟩ := hrel
        by_cases hlt : 0 < t.size
        · have hlti : (0 : Int) < (t.size : Int) := by omega
          by_cases h32 : t[0] = 32
          · have n0 : (t[0].toNat : Int) = 32 := by rw [h32]; rfl
            have hnext := drop_head t hlt (fun b => b == 32) (by rw [h32]; rfl)
            have HN := Lib.hid (hnext.trans hp)
            have hsz := Lib.hid (extract_size t 1 t.size)
            clear hnext hp h32
            go_wp2_with fail
            go_round
            case rel => exact ⟨_, rfl, by rw [hsz.out]; omega, HN.out⟩
            case measure => simp [strLen, hsz.out]; omega
          · have n0 : ¬ ((t[0].toNat : Int) = 32) := fun e => h32 (by apply UInt8.toNat_inj.1; have h46 : (32 : UInt8).toNat = 32 := rfl; omega)
            rw [drop_stay t hlt (fun b => b == 32) (by simpa using h32)] at hp
            have HS := Lib.hid hp
            clear hp h32
            go_wp2_with fail
            go_meet
            exact ⟨t, rfl, hts, HS.out, rfl⟩
        · have hlti : ¬ ((0 : Int) < (t.size : Int)) := by omega
          have hnil : t.data.toList = [] := List.eq_nil_of_length_eq_zero (by rw [← Lib.size_eq]; omega)
          rw [hnil, List.dropWhile_nil] at hp
          have HS := Lib.hid (hnil.trans hp)
          clear hp hnil
          go_wp2_with fail
          go_meet
          exact ⟨t, rfl, hts, HS.out, rfl⟩
    obtain ⟨t, rfl, hts, hD, hwx⟩ := hcut
    subst hwx
    rw [← hD] at HV
    have htm : t.size ≤ maxLen := by omega
    have HRun := Lib.hid (fun w => Run_any t w htm)
    clear hD hs8
    by_cases r3 : runL t.data.toList < 3
    · have HV2 : Hid (refV X = .tuple #[statV 0 0 0 ⟨#[]⟩, .int .i64 2]) := Lib.hid (by rw [HV.out]; unfold refS; rw [if_pos r3])
      have r3i : ((runL t.data.toList : Nat) : Int) < 3 := by omega
      generalize runL t.data.toList = rr at *
      go_wp2_with (first | (go_at_call 43; refine Calls.mono (HRun.out _) ?_; rintro e w' ⟨rfl, rfl⟩))
      refine bodyPost_ret (v := .tuple #[statV 0 0 0 ⟨#[]⟩, .int .i64 2]) ?_ rfl ⟨by rw [HV2.out], (((HB2.out.setCell (by simp) _).setCell (by simp) _).setCell (by simp) _).setCell (by simp) _⟩
      unfold statV
      simp [results, Try.results16, go_sem, z0, z1, z2, z3]
    have hrl := runL_leB t
    have k0 : 0 < t.size := by omega
    have k1 : 1 < t.size := by omega
    have k2 : 2 < t.size := by omega
    have q0 := digit_bounds (run_digit t 0 k0 (by omega))
    have q1 := digit_bounds (run_digit t 1 k1 (by omega))
    have q2 := digit_bounds (run_digit t 2 k2 (by omega))
    have r3i : ¬ (((runL t.data.toList : Nat) : Int) < 3) := by omega
    have j0 : (0 : Int) < (t.size : Int) := by omega
    have j1 : (1 : Int) < (t.size : Int) := by omega
    have j2 : (2 : Int) < (t.size : Int) := by omega
    have HL0 := Lib.hid (getD_byte t 0 k0)
    have HL1 := Lib.hid (getD_byte t 1 k1)
    have HL2 := Lib.hid (getD_byte t 2 k2)
    have HR3 := Lib.hid r3
    clear r3
    by_cases h48 : t[0] = 48
    · have HV2 : Hid (refV X = .tuple #[statV 0 0 0 ⟨#[]⟩, .int .i64 2]) := Lib.hid (by rw [HV.out]; unfold refS; rw [if_neg HR3.out, HL0.out, if_pos h48])
      have n48 : (t[0].toNat : Int) = 48 := by rw [h48]; rfl
      generalize runL t.data.toList = rr at *
      go_wp2_with (first | (go_at_call 43; refine Calls.mono (HRun.out _) ?_; rintro e w' ⟨rfl, rfl⟩))
      refine bodyPost_ret (v := .tuple #[statV 0 0 0 ⟨#[]⟩, .int .i64 2]) ?_ rfl ⟨by rw [HV2.out], (((HB2.out.setCell (by simp) _).setCell (by simp) _).setCell (by simp) _).setCell (by simp) _⟩
      unfold statV
      simp [results, Try.results16, go_sem, z0, z1, z2, z3]
    have n48 : ¬ ((t[0].toNat : Int) = 48) := fun e => h48 (by apply UInt8.toNat_inj.1; have h46 : (48 : UInt8).toNat = 48 := rfl; omega)
    have HV3 : Hid (refV X = match (if (t.data.toList.drop 3) ≠ [] ∧ (t.data.toList.drop 3).getD 0 0 ≠ 32 then none
  else if quoL ((t.data.toList.drop 3).dropWhile isTab) = false then none
  else some (m5, m7, (100 : Int) * ((t[0].toNat : Int) - 48) + (10 : Int) * ((t[1].toNat : Int) - 48) + ((t[2].toNat : Int) - 48), (t.data.toList.drop 3).dropWhile isTab) : Option (Int × Int × Int × List UInt8)) with
      | none => .tuple #[statV 0 0 0 ⟨#[]⟩, .int .i64 2]
      | some (a, b, c, r) => .tuple #[statV a b c ⟨r.toArray⟩, .int .i64 0]) := Lib.hid (by rw [HV.out]; unfold refS; rw [if_neg HR3.out, HL0.out, HL1.out, HL2.out, if_neg h48]; rfl)
    clear HV HL0 HL1 HL2 HR3 h48
    have e48 : ((t[0].toNat : Int) == 48) = false := beq_eq_false_iff_ne.2 n48
    have r3j : decide (((runL t.data.toList : Nat) : Int) < 3) = false := decide_eq_false r3i
    generalize runL t.data.toList = rr at *
    go_upto_region 11 with (first | (go_at_call 43; refine Calls.mono (HRun.out _) ?_; rintro e w' ⟨rfl, rfl⟩))
    have v0 : (48 : Int) ≤ (t[0].toNat : Int) := by omega
    have v0b : (t[0].toNat : Int) ≤ 57 := by omega
    have v1 : (48 : Int) ≤ (t[1].toNat : Int) := by omega
    have v1b : (t[1].toNat : Int) ≤ 57 := by omega
    have v2 : (48 : Int) ≤ (t[2].toNat : Int) := by omega
    have v2b : (t[2].toNat : Int) ≤ 57 := by omega
    refine wp_region_tail 17 (by kernel_rfl) (by kernel_rfl) ?_
    intro w2 hw2
    have E2 : ∀ i o, w2.cell? ⟨i, o, none⟩ = V.cell? ⟨i, o, none⟩ := fun i o => by rw [hw2]; rfl
    have F2 : ∀ i o, w2.frozen? ⟨i, o, none⟩ = V.frozen? ⟨i, o, none⟩ := fun i o => by rw [hw2]; rfl
    have HB3 : Hid (Below w.heap.size w w2) := Lib.hid (by rw [hw2]; exact HB2.out.drew)
    have hx2 : w2.heap[w.heap.size + 2]? = some (statO m5 m7 0 ⟨#[]⟩) := by rw [hw2]; exact HX2.out
    have hz2' : w2.heap[w.heap.size]? = some (statO 0 0 0 ⟨#[]⟩) := by rw [hw2]; exact HZ2.out
    have hy2' : w2.heap[w.heap.size + 1]? = some (statO 0 0 0 ⟨#[]⟩) := by rw [hw2]; exact HY2.out
    clear z0 z1 z2 z3 zf y0 y1 y2 y3 yf x0 x1 x2_ x3 xf hw2 E2 F2
    obtain ⟨x0, x1, x2_, x3, xf⟩ := stat_cells hx2
    simp only [List.take_succ_cons, List.take_zero, List.drop_succ_cons, List.drop_zero]
    repeat still_step
    refine wpStill_nil ?_
    go_upto_region 13 with fail
    obtain ⟨cd, hcd⟩ : ∃ c : Int, c = (100 : Int) * ((t[0].toNat : Int) - 48) + (10 : Int) * ((t[1].toNat : Int) - 48) + ((t[2].toNat : Int) - 48) := ⟨_, rfl⟩
    have hcd2 : (100 : Int) * ((t[0].toNat : Int) - (48 : Int)) + (10 : Int) * ((t[1].toNat : Int) - (48 : Int)) + ((t[2].toNat : Int) - (48 : Int)) = cd := by rw [hcd]; rfl
    rw [← hcd] at HV3
    rw [hcd2]
    clear hcd2
    have hx4 := (set_at hx2).2.2.1 cd
    have hz4 : (w2.setCell ⟨w.heap.size + 2, 2, none⟩ (.int .i64 cd)).heap[w.heap.size]? = some (statO 0 0 0 ⟨#[]⟩) := (Below.heap_setCell _ _ _ _ (by simp)).trans hz2'
    have hy4 : (w2.setCell ⟨w.heap.size + 2, 2, none⟩ (.int .i64 cd)).heap[w.heap.size + 1]? = some (statO 0 0 0 ⟨#[]⟩) := (Below.heap_setCell _ _ _ _ (by simp)).trans hy2'
    have hb4 : Below w.heap.size w (w2.setCell ⟨w.heap.size + 2, 2, none⟩ (.int .i64 cd)) := HB3.out.setCell (by simp) _
    generalize w2.setCell ⟨w.heap.size + 2, 2, none⟩ (.int .i64 cd) = U at *
    clear x0 x1 x2_ x3 xf hx2 hz2' hy2' HB3 HX2 HY2 HZ2 HB2
    have HB4 := Lib.hid hb4
    have HX4 := Lib.hid hx4
    have HZ4 := Lib.hid hz4
    obtain ⟨z0, z1, z2, z3, zf⟩ := stat_cells hz4
    obtain ⟨y0, y1, y2, y3, yf⟩ := stat_cells hy4
    obtain ⟨x0, x1, x2_, x3, xf⟩ := stat_cells hx4
    clear hb4 hx4 hz4 hy4 hcd v0 v0b v1 v1b v2 v2b
    have hD3 : (t.extract 3 t.size).data.toList = t.data.toList.drop 3 := rest_list t 3
    have hs3 : (t.extract 3 t.size).size ≤ X.size := by rw [extract_size]; omega
    clear HRun hrl
    generalize t.data.toList.drop 3 = D3 at *
    generalize t.extract 3 t.size = t3 at *
    subst hD3
    go_cut [95] (fun v wx => v = .bool (decide (t3.data.toList ≠ [] ∧ t3.data.toList.getD 0 0 ≠ 32)) ∧ U = wx)
    case first =>
      by_cases h0 : 0 < t3.size
      · have hne : t3.data.toList ≠ [] := fun e => by rw [Lib.size_eq, e] at h0; simp at h0
        have hne2 : t3.toList ≠ [] := by rw [Lib.toList_data]; exact hne
        have hi : (0 : Int) < (t3.size : Int) := by omega
        have HG := Lib.hid (getD_byte t3 0 h0)
        by_cases h32 : t3[0] = 32
        · have n0 : (t3[0].toNat : Int) = 32 := by rw [h32]; rfl
          go_wp2_with fail
          go_meet
          exact ⟨by rw [HG.out, decide_eq_false (by simp [h32])], rfl⟩
        · have n0 : ((t3[0].toNat : Int) == 32) = false := beq_eq_false_iff_ne.2 (fun e => h32 (by apply UInt8.toNat_inj.1; have h46 : (32 : UInt8).toNat = 32 := rfl; omega))
          go_wp2_with fail
          go_meet
          exact ⟨by rw [HG.out, decide_eq_true ⟨hne, h32⟩]; simp [bne, n0, hne2], rfl⟩
      · have hne : t3.data.toList = [] := List.eq_nil_of_length_eq_zero (by rw [← Lib.size_eq]; omega)
        have hne2 : t3.toList = [] := by rw [Lib.toList_data]; exact hne
        go_wp2_with fail
        go_meet
        exact ⟨by rw [decide_eq_false (by simp [hne])], rfl⟩
    obtain ⟨rfl, hwx⟩ := hcut
    subst hwx
    by_cases h32 : t3.data.toList ≠ [] ∧ t3.data.toList.getD 0 0 ≠ 32
    · rw [if_pos h32] at HV3
      rw [decide_eq_true h32]
      go_wp2_with fail
      refine bodyPost_ret (v := .tuple #[statV 0 0 0 ⟨#[]⟩, .int .i64 2]) ?_ rfl ⟨by rw [HV3.out], (((HB4.out.setCell (by simp) _).setCell (by simp) _).setCell (by simp) _).setCell (by simp) _⟩
      unfold statV
      simp [results, Try.results16, go_sem, z0, z1, z2, z3]
    rw [if_neg h32] at HV3
    rw [decide_eq_false h32]
    clear h32
    go_upto_block 2 with fail
    go_cut [0] (fun v wx => ∃ t : ByteArray, v = .string t ∧ t.size ≤ X.size ∧ t.data.toList = t3.data.toList.dropWhile isTab ∧ U = wx)
    case first =>
      go_wp2_with fail
      go_loop [0] (fun v => ∃ t : ByteArray, v = .string t ∧ t.size ≤ X.size ∧ t.data.toList.dropWhile isTab = t3.data.toList.dropWhile isTab) (fun v => strLen v)
      case atStart => exact ⟨t3, rfl, hs3, rfl⟩
      case round =>
        obtain ⟨t, rfl, hts, hp⟩ := hrel
        by_cases hlt : 0 < t.size
        · have hlti : (0 : Int) < (t.size : Int) := by omega
          have HTB := Lib.hid (fun w => rTab_any t[0] w)
          cases htb : isTab t[0]
          · rw [drop_stay t hlt isTab htb] at hp
            have HS := Lib.hid hp
            have HT0 := Lib.hid htb
            clear hp htb
            go_wp2_with (go_at_call 44; refine Calls.mono (HTB.out _) ?_; rintro e w' ⟨rfl, rfl⟩; rw [HT0.out])
            go_meet
            exact ⟨t, rfl, hts, HS.out, rfl⟩
          · have hnext := drop_head t hlt isTab htb
            have HN := Lib.hid (hnext.trans hp)
            have hsz := Lib.hid (extract_size t 1 t.size)
            have HT0 := Lib.hid htb
            clear hnext hp htb
            go_wp2_with (go_at_call 44; refine Calls.mono (HTB.out _) ?_; rintro e w' ⟨rfl, rfl⟩; rw [HT0.out])
            go_round
            case rel => exact ⟨_, rfl, by rw [hsz.out]; omega, HN.out⟩
            case measure => simp [strLen, hsz.out]; omega
        · have hlti : ¬ ((0 : Int) < (t.size : Int)) := by omega
          have hnil : t.data.toList = [] := List.eq_nil_of_length_eq_zero (by rw [← Lib.size_eq]; omega)
          rw [hnil, List.dropWhile_nil] at hp
          have HS := Lib.hid (hnil.trans hp)
          clear hp hnil
          go_wp2_with fail
          go_meet
          exact ⟨t, rfl, hts, HS.out, rfl⟩
    obtain ⟨r, rfl, hrs, hD, hwx⟩ := hcut
    subst hwx
    rw [← hD] at HV3
    clear hD hs3
    have hrm : r.size ≤ maxLen := by omega
    have HQ := Lib.hid (fun w => r10Quoted_any r w hrm)
    have hr2 : (⟨r.data.toList.toArray⟩ : ByteArray) = r := by apply bytes_ext; simp
    cases hq : quoL r.data.toList
    · rw [if_pos hq] at HV3
      have HQ2 := Lib.hid hq
      clear hq
      go_wp2_with (go_at_call 45; refine Calls.mono (HQ.out _) ?_; rintro e w' ⟨rfl, rfl⟩; rw [HQ2.out])
      refine bodyPost_ret (v := .tuple #[statV 0 0 0 ⟨#[]⟩, .int .i64 2]) ?_ rfl ⟨by rw [HV3.out], (((HB4.out.setCell (by simp) _).setCell (by simp) _).setCell (by simp) _).setCell (by simp) _⟩
      unfold statV
      simp [results, Try.results16, go_sem, z0, z1, z2, z3]
    · rw [if_neg (by rw [hq]; simp)] at HV3
      have HQ2 := Lib.hid hq
      clear hq
      have HV4 : Hid (refV X = .tuple #[statV m5 m7 cd r, .int .i64 0]) := Lib.hid (by
        rw [HV3.out])
      clear hr2 HV3
      go_upto_region 20 with (go_at_call 45; refine Calls.mono (HQ.out _) ?_; rintro e w' ⟨rfl, rfl⟩; rw [HQ2.out])
      have hx5 := (set_at HX4.out).2.2.2 r
      have hz5 : (U.setCell ⟨w.heap.size + 2, 3, none⟩ (.string r)).heap[w.heap.size]? = some (statO 0 0 0 ⟨#[]⟩) := (Below.heap_setCell _ _ _ _ (by simp)).trans HZ4.out
      have hb5 : Below w.heap.size w (U.setCell ⟨w.heap.size + 2, 3, none⟩ (.string r)) := HB4.out.setCell (by simp) _
      generalize U.setCell ⟨w.heap.size + 2, 3, none⟩ (.string r) = U2 at *
      clear z0 z1 z2 z3 zf y0 y1 y2 y3 yf x0 x1 x2_ x3 xf HX4 HB4 HZ4
      have HB5 := Lib.hid hb5
      obtain ⟨z0, z1, z2, z3, zf⟩ := stat_cells hz5
      obtain ⟨x0, x1, x2_, x3, xf⟩ := stat_cells hx5
      clear hb5 hx5 hz5
      go_wp2_with fail
      refine bodyPost_ret (v := .tuple #[statV m5 m7 cd r, .int .i64 0]) ?_ rfl ⟨by rw [HV4.out], (((HB5.out.setCell (by simp) _).setCell (by simp) _).setCell (by simp) _).setCell (by simp) _⟩
      unfold statV
      simp [results, Try.results16, go_sem, z0, z1, z2, z3]
      exact ⟨hm5.symm, hm7.symm⟩

end Go.Proofs.Ytjlemghmpnkncaa
