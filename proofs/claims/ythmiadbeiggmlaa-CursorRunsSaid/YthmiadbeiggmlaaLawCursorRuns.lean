/-
  The law CursorRuns: its walk.
-/
import Derived.Test.YthmiadbeiggmlaaCursorG
import Derived.Test.YthmiadbeiggmlaaDeeds
import Derived.Test.YthmiadbeiggmlaaBigAnd
import Derived.Deep.DeepCutAuto
import Derived.Deep.CutBlock
namespace Go.Proofs.Ythmiadbeiggmlaa
open Go.RowKit
set_option linter.unusedSimpArgs false
set_option linter.unusedVariables false

theorem extract_join (t : ByteArray) (k n : Nat) (h : k ≤ n) (hn : n ≤ t.size) : t.extract 0 k ++ t.extract k n = t.extract 0 n := by
  apply ByteArray.ext
  rw [ByteArray.data_append, ByteArray.data_extract, ByteArray.data_extract, ByteArray.data_extract]
  apply Array.ext'
  rw [Array.toList_append, Array.toList_extract, Array.toList_extract, Array.toList_extract]
  simp only [List.extract_eq_take_drop, List.drop_zero, Nat.sub_zero]
  rw [List.take_drop, ← List.take_append_drop k (List.take n t.data.toList), List.take_take]
  congr 1
  · rw [Nat.min_eq_left h]
  · rw [show k + (n - k) = n by omega]

theorem extract_self (t : ByteArray) (k : Nat) : t.extract k k = ⟨#[]⟩ := by
  apply ByteArray.ext
  rw [ByteArray.data_extract]
  simp
  omega

theorem hasB_goes (x : ByteArray) (b : UInt8) : hasB x b = !(goesOn x b) := by
  unfold hasB goesOn
  rw [Bool.not_not]

/-- What holds behind a run. -/
def AfterRun (w : World) (g : Nat) (t : ByteArray) (v7 v10 : Value) (wx : World) : Prop :=
  ∃ m : Nat, m ≤ t.size ∧ v7 = .string (t.extract 0 m) ∧ v10 = .int .i64 m ∧ Cur wx g t m ∧ Below g w wx

theorem after_run {w wr wx : World} {g : Nat} {t : ByteArray} {m : Nat} {a : ByteArray} (hm : m ≤ t.size) (ha : a = t.extract 0 m) (hb : Below g w wr) (hc : g < wr.heap.size) (hv : Moved g t m wr wx) : AfterRun w g t (.string a) (.int .i64 m) wx :=
  ⟨m, hm, by rw [ha], rfl, hv.1, hb.trans (hv.2.below (Nat.le_refl _) (by omega))⟩

set_option maxHeartbeats 4000000 in
set_option maxRecDepth 100000 in
theorem cursorRuns_walk (s : ByteArray) (A : Option Addr) (l : List Deed) (c : Nat) (w : World) (hs : s.size ≤ maxLen) (hl : l.length ≤ maxLen) (hS : ∀ i (h : i < l.length), l[i].s.size ≤ maxLen) (hA : DeedsAt w w.heap.size A l) :
    Calls Try.prog 8 #[.string s, .slice A l.length c] w fun e w' => e = .returned (.bool true) ∧ Below w.heap.size w w' := by
  have hm2 : l.length ≤ 9223372036854775807 := by unfold maxLen at hl; omega
  have ht := cutB_size s 200
  have HA := Lib.hid hA
  have HSZ := Lib.hid hS
  clear hA hS
  go_enter Try.func8, Try.ntmps8
  go_upto_region 3 with (first | (go_at_call 11; refine (Cut_any _ 200 _ hs (by decide)).mono ?_; rintro e w' ⟨rfl, rfl⟩) | (go_at_call 20; refine (New_any _ _).mono ?_; rintro e w' ⟨rfl, rfl⟩))
  generalize cutB s 200 = t at *
  have hm : t.size ≤ maxLen := by omega
  have ht2 : t.size ≤ 200 := by omega
  clear ht
  have h0 := Lib.hid (Cur.new w t)
  have hB0 := Lib.hid (below_box w (.cells #[.string t, .int .i64 0] 79))
  have hgs : w.heap.size < (w.alloc (.cells #[.string t, .int .i64 0] 79)).heap.size := by simp
  generalize w.alloc (.cells #[.string t, .int .i64 0] 79) = W at *
  obtain ⟨g, hg⟩ : ∃ g, w.heap.size = g := ⟨_, rfl⟩
  have HG := Lib.hid hg
  rw [hg] at h0 hgs ⊢
  clear hg
  go_wp2_with fail
  go_loopw [6, 7, 8] (fun a al i wr => ∃ k n : Nat, k ≤ t.size ∧ n ≤ l.length ∧ n ≤ 40 ∧ a = .int .i64 k ∧ al = .string (t.extract 0 k) ∧ i = .int .i64 n ∧ Cur wr g t k ∧ Below g w wr) (fun _ _ i _ => 40 - (intOf i).toNat)
  case atStart => exact ⟨0, 0, Nat.zero_le _, Nat.zero_le _, Nat.zero_le _, rfl, by rw [extract_self], rfl, h0.out, by rw [← HG.out]; exact hB0.out⟩
  case round =>
    obtain ⟨k, n, hk, hn, hn40, rfl, rfl, rfl, hcur, hb⟩ := hrel
    have HC := Lib.hid hcur
    have HB := Lib.hid hb
    clear hcur hb h0 hB0
    by_cases hlt : n < l.length ∧ n < 40
    · obtain ⟨hlt1, hlt2⟩ := hlt
      rcases (HA.out.below (by rw [HG.out]; exact HB.out)) with hnil | ⟨gl, o, rfl, hgl, hcs⟩
      · rw [hnil] at hlt1; simp at hlt1
      obtain ⟨c0, c1, c2⟩ := hcs n hlt1
      clear hcs c1
      obtain ⟨r, hr⟩ : ∃ r, bits .and .i64 l[n].kind 3 = r := ⟨_, rfl⟩
      have hr3 := and_three l[n].kind
      rw [hr] at hr3
      have HL1 := Lib.hid hlt1
      have hds := HSZ.out n hlt1
      generalize l[n] = d at *
      have hx := cutB_size d.s 10
      have CC : Hid (∀ w : World, Calls Try.prog 11 #[.string d.s, .int .i64 10] w fun e w' => e = .returned (.string (cutB d.s 10)) ∧ w = w') := Lib.hid (fun w => Cut_any d.s 10 w hds (by decide))
      generalize cutB d.s 10 = x at *
      have hxm : x.size ≤ maxLen := by unfold maxLen; omega
      have hx10 : x.size ≤ 10 := by omega
      clear hx
      have hz := restB_size t k hk
      have HJ := Lib.hid (fun (m : Nat) (h : k ≤ m) (h2 : m ≤ t.size) => extract_join t k m h h2)
      have hk0 : (t.extract 0 k).size ≤ 200 := by rw [extract_size]; omega
      go_upto_block 2 with (go_at_call 11; (with_reducible refine (CC.out _).mono ?_); rintro e w' ⟨rfl, rfl⟩)
      go_cut [7, 10] (fun s7 s10 wx => AfterRun w g t s7 s10 wx)
      case first =>
        rcases hr3 with rfl | rfl | rfl | rfl
        · cases hp : prefB (restB t k) x
          · have CS := Lib.hid (fun (w1 : World) (h1 : Cur w1 g t k) => Skip_no x g t k w1 h1 hk hm hp)
            have CP := Lib.hid (fun (w1 : World) => Prefix_any (restB t k) x w1 (by rw [hz]; omega) hxm)
            rw [hp] at CP
            clear hp
            go_wp2_with (go_at_call 40; (with_reducible refine (CP.out _).mono ?_); rintro e w' ⟨rfl, rfl⟩)
            refine (CS.out _ HC.out).mono ?_
            rintro e w1 ⟨rfl, hm1⟩
            have HM1 := Lib.hid hm1
            clear hm1
            go_wp2_with fail
            go_meet
            exact after_run hk (by first | rfl | exact HJ.out k (Nat.le_refl _) hk) HB.out HC.out.lt HM1.out
          · have hpz := prefB_size hp
            rw [hz] at hpz
            have CS := Lib.hid (fun (w1 : World) (h1 : Cur w1 g t k) => Skip_yes x g t k w1 h1 hk hm hp)
            have CP := Lib.hid (fun (w1 : World) => Prefix_any (restB t k) x w1 (by rw [hz]; omega) hxm)
            rw [hp] at CP
            clear hp
            have hks : k + x.size ≤ t.size := by omega
            go_wp2_with (go_at_call 40; (with_reducible refine (CP.out _).mono ?_); rintro e w' ⟨rfl, rfl⟩)
            refine (CS.out _ HC.out).mono ?_
            rintro e w1 ⟨rfl, hm1⟩
            have HM1 := Lib.hid hm1
            clear hm1
            go_wp2_with fail
            go_meet
            exact after_run hks (by first | rfl | exact HJ.out (k + x.size) (by omega) hks) HB.out HC.out.lt HM1.out
        · have CW := Lib.hid (fun (w1 : World) (h1 : Cur w1 g t k) => While_gives 42 lowerC fnLower g t k w1 h1 hk hm)
          obtain ⟨u, hu⟩ : ∃ u, restB t k = u := ⟨_, rfl⟩
          rw [hu] at CW hz
          have hat : ∀ j (h : j < u.size), ∃ h2 : k + j < t.size, u[j] = t[k + j] := by subst hu; exact fun j h => ⟨by omega, restB_at t k j h⟩
          have HAT := Lib.hid hat
          have HUZ := Lib.hid hz
          have hks : k + u.size = t.size := by omega
          have hsp : spanN (lowerC) u.data.toList ≤ u.size := by rw [Lib.size_eq]; exact spanN_le _ _
          have HSP := Lib.hid hsp
          clear hat hu hsp hz
          go_wp2_with fail
          go_loop [10] (fun i => ∃ m a : Nat, m ≤ u.size ∧ a = k + m ∧ i = .int .i64 a ∧ AllTo (lowerC) u m) (fun i => t.size - (intOf i).toNat)
          case atStart => exact ⟨0, k, Nat.zero_le _, rfl, rfl, fun j _ h => by omega⟩
          case round =>
            obtain ⟨m, a, hmu, ha, rfl, hp⟩ := hrel
            have HP := Lib.hid hp
            have HA2 := Lib.hid ha
            clear hp
            by_cases hlu : m < u.size
            · obtain ⟨_, hat⟩ := HAT.out m hlu
              have hlt3 : a < t.size := by omega
              have hidx := fun w => index_byte 9 Try.underlying9 t a hlt3 w
              have e : t[a] = u[m] := by rw [hat]; simp only [ha]
              rw [e] at hidx
              have HST := Lib.hid (fun (h : lowerC u[m] = true) => allTo_step HP.out hlu h)
              have HSN := Lib.hid (fun (h : lowerC u[m] = false) => spanN_of (lowerC) u m hmu HP.out (fun _ => h))
              clear e hat
              generalize u[m] = b at *
              clear ha
              cases hb : lowerC b
              · have HN := Lib.hid (HSN.out hb)
                have HF := Lib.hid hb
                clear hb HST HSN
                go_wp2_with (go_at_call 42; refine (fnLower.2 _ _).mono ?_; rintro e w' ⟨rfl, rfl⟩; rw [HF.out])
                refine (CW.out _ HC.out).mono ?_
                rintro e w1 ⟨rfl, hm1⟩
                rw [HN.out] at hm1 ⊢
                rw [← HA2.out] at hm1 ⊢
                have HM1 := Lib.hid hm1
                have hka : k ≤ a := by have := HA2.out; omega
                have hsz1 : (t.extract k a).size ≤ 200 := by rw [extract_size]; omega
                clear hm1
                go_wp2_with fail
                go_meet
                exact after_run (by omega) (by first | rfl | exact HJ.out a hka (by omega)) HB.out HC.out.lt HM1.out
              · have HF := Lib.hid hb
                have HT := Lib.hid (HST.out hb)
                clear hb HST HSN
                go_wp2_with (go_at_call 42; refine (fnLower.2 _ _).mono ?_; rintro e w' ⟨rfl, rfl⟩; rw [HF.out])
                go_round
                case rel => exact ⟨m + 1, a + 1, by omega, by have := HA2.out; omega, by go_num, HT.out⟩
                case measure => simp [intOf]; omega
            · obtain rfl : m = u.size := by omega
              have hN := spanN_of (lowerC) u u.size (Nat.le_refl _) HP.out (fun h => absurd h hlu)
              have HN := Lib.hid hN
              obtain rfl : a = t.size := by have := HA2.out; omega
              clear hN ha
              go_wp2_with fail
              refine (CW.out _ HC.out).mono ?_
              rintro e w1 ⟨rfl, hm1⟩
              rw [HN.out] at hm1 ⊢
              rw [← HA2.out] at hm1 ⊢
              have HM1 := Lib.hid hm1
              have hsz1 : (t.extract k t.size).size ≤ 200 := by rw [extract_size]; omega
              clear hm1
              go_wp2_with fail
              go_meet
              exact after_run (Nat.le_refl _) (by first | rfl | exact (extract_all t).symm | exact HJ.out t.size hk (Nat.le_refl _)) HB.out HC.out.lt HM1.out
        · have CW := Lib.hid (fun (w1 : World) (h1 : Cur w1 g t k) => Until_gives x g t k w1 h1 hk hm)
          obtain ⟨u, hu⟩ : ∃ u, restB t k = u := ⟨_, rfl⟩
          rw [hu] at CW hz
          have hat : ∀ j (h : j < u.size), ∃ h2 : k + j < t.size, u[j] = t[k + j] := by subst hu; exact fun j h => ⟨by omega, restB_at t k j h⟩
          have HAT := Lib.hid hat
          have HUZ := Lib.hid hz
          have hks : k + u.size = t.size := by omega
          have hsp : spanN (goesOn x) u.data.toList ≤ u.size := by rw [Lib.size_eq]; exact spanN_le _ _
          have HSP := Lib.hid hsp
          clear hat hu hsp hz
          go_wp2_with fail
          go_loop [10] (fun i => ∃ m a : Nat, m ≤ u.size ∧ a = k + m ∧ i = .int .i64 a ∧ AllTo (goesOn x) u m) (fun i => t.size - (intOf i).toNat)
          case atStart => exact ⟨0, k, Nat.zero_le _, rfl, rfl, fun j _ h => by omega⟩
          case round =>
            obtain ⟨m, a, hmu, ha, rfl, hp⟩ := hrel
            have HP := Lib.hid hp
            have HA2 := Lib.hid ha
            clear hp
            by_cases hlu : m < u.size
            · obtain ⟨_, hat⟩ := HAT.out m hlu
              have hlt3 : a < t.size := by omega
              have hidx := fun w => index_byte 9 Try.underlying9 t a hlt3 w
              have e : t[a] = u[m] := by rw [hat]; simp only [ha]
              rw [e] at hidx
              have HST := Lib.hid (fun (h : goesOn x u[m] = true) => allTo_step HP.out hlu h)
              have HSN := Lib.hid (fun (h : goesOn x u[m] = false) => spanN_of (goesOn x) u m hmu HP.out (fun _ => h))
              clear e hat
              generalize u[m] = b at *
              clear ha
              cases hb : goesOn x b
              · have HN := Lib.hid (HSN.out hb)
                have HF := Lib.hid hb
                clear hb HST HSN
                go_wp2_with (go_at_call 44; refine (Has_any x b _ hxm).mono ?_; rintro e w' ⟨rfl, rfl⟩; rw [hasB_goes x b, HF.out])
                refine (CW.out _ HC.out).mono ?_
                rintro e w1 ⟨rfl, hm1⟩
                rw [HN.out] at hm1 ⊢
                rw [← HA2.out] at hm1 ⊢
                have HM1 := Lib.hid hm1
                have hka : k ≤ a := by have := HA2.out; omega
                have hsz1 : (t.extract k a).size ≤ 200 := by rw [extract_size]; omega
                clear hm1
                go_wp2_with fail
                go_meet
                exact after_run (by omega) (by first | rfl | exact HJ.out a hka (by omega)) HB.out HC.out.lt HM1.out
              · have HF := Lib.hid hb
                have HT := Lib.hid (HST.out hb)
                clear hb HST HSN
                go_wp2_with (go_at_call 44; refine (Has_any x b _ hxm).mono ?_; rintro e w' ⟨rfl, rfl⟩; rw [hasB_goes x b, HF.out])
                go_round
                case rel => exact ⟨m + 1, a + 1, by omega, by have := HA2.out; omega, by go_num, HT.out⟩
                case measure => simp [intOf]; omega
            · obtain rfl : m = u.size := by omega
              have hN := spanN_of (goesOn x) u u.size (Nat.le_refl _) HP.out (fun h => absurd h hlu)
              have HN := Lib.hid hN
              obtain rfl : a = t.size := by have := HA2.out; omega
              clear hN ha
              go_wp2_with fail
              refine (CW.out _ HC.out).mono ?_
              rintro e w1 ⟨rfl, hm1⟩
              rw [HN.out] at hm1 ⊢
              rw [← HA2.out] at hm1 ⊢
              have HM1 := Lib.hid hm1
              have hsz1 : (t.extract k t.size).size ≤ 200 := by rw [extract_size]; omega
              clear hm1
              go_wp2_with fail
              go_meet
              exact after_run (Nat.le_refl _) (by first | rfl | exact (extract_all t).symm | exact HJ.out t.size hk (Nat.le_refl _)) HB.out HC.out.lt HM1.out
        · have CW := Lib.hid (fun (w1 : World) (h1 : Cur w1 g t k) => Until_gives x g t k w1 h1 hk hm)
          obtain ⟨u, hu⟩ : ∃ u, restB t k = u := ⟨_, rfl⟩
          rw [hu] at CW hz
          have hat : ∀ j (h : j < u.size), ∃ h2 : k + j < t.size, u[j] = t[k + j] := by subst hu; exact fun j h => ⟨by omega, restB_at t k j h⟩
          have HAT := Lib.hid hat
          have HUZ := Lib.hid hz
          have hks : k + u.size = t.size := by omega
          have hsp : spanN (goesOn x) u.data.toList ≤ u.size := by rw [Lib.size_eq]; exact spanN_le _ _
          have HSP := Lib.hid hsp
          clear hat hu hsp hz
          go_wp2_with fail
          go_loop [10] (fun i => ∃ m a : Nat, m ≤ u.size ∧ a = k + m ∧ i = .int .i64 a ∧ AllTo (goesOn x) u m) (fun i => t.size - (intOf i).toNat)
          case atStart => exact ⟨0, k, Nat.zero_le _, rfl, rfl, fun j _ h => by omega⟩
          case round =>
            obtain ⟨m, a, hmu, ha, rfl, hp⟩ := hrel
            have HP := Lib.hid hp
            have HA2 := Lib.hid ha
            clear hp
            by_cases hlu : m < u.size
            · obtain ⟨_, hat⟩ := HAT.out m hlu
              have hlt3 : a < t.size := by omega
              have hidx := fun w => index_byte 9 Try.underlying9 t a hlt3 w
              have e : t[a] = u[m] := by rw [hat]; simp only [ha]
              rw [e] at hidx
              have HST := Lib.hid (fun (h : goesOn x u[m] = true) => allTo_step HP.out hlu h)
              have HSN := Lib.hid (fun (h : goesOn x u[m] = false) => spanN_of (goesOn x) u m hmu HP.out (fun _ => h))
              clear e hat
              generalize u[m] = b at *
              clear ha
              cases hb : goesOn x b
              · have HN := Lib.hid (HSN.out hb)
                have HF := Lib.hid hb
                clear hb HST HSN
                go_wp2_with (go_at_call 44; refine (Has_any x b _ hxm).mono ?_; rintro e w' ⟨rfl, rfl⟩; rw [hasB_goes x b, HF.out])
                refine (CW.out _ HC.out).mono ?_
                rintro e w1 ⟨rfl, hm1⟩
                rw [HN.out] at hm1 ⊢
                rw [← HA2.out] at hm1 ⊢
                have HM1 := Lib.hid hm1
                have hka : k ≤ a := by have := HA2.out; omega
                have hsz1 : (t.extract k a).size ≤ 200 := by rw [extract_size]; omega
                clear hm1
                go_wp2_with fail
                go_meet
                exact after_run (by omega) (by first | rfl | exact HJ.out a hka (by omega)) HB.out HC.out.lt HM1.out
              · have HF := Lib.hid hb
                have HT := Lib.hid (HST.out hb)
                clear hb HST HSN
                go_wp2_with (go_at_call 44; refine (Has_any x b _ hxm).mono ?_; rintro e w' ⟨rfl, rfl⟩; rw [hasB_goes x b, HF.out])
                go_round
                case rel => exact ⟨m + 1, a + 1, by omega, by have := HA2.out; omega, by go_num, HT.out⟩
                case measure => simp [intOf]; omega
            · obtain rfl : m = u.size := by omega
              have hN := spanN_of (goesOn x) u u.size (Nat.le_refl _) HP.out (fun h => absurd h hlu)
              have HN := Lib.hid hN
              obtain rfl : a = t.size := by have := HA2.out; omega
              clear hN ha
              go_wp2_with fail
              refine (CW.out _ HC.out).mono ?_
              rintro e w1 ⟨rfl, hm1⟩
              rw [HN.out] at hm1 ⊢
              rw [← HA2.out] at hm1 ⊢
              have HM1 := Lib.hid hm1
              have hsz1 : (t.extract k t.size).size ≤ 200 := by rw [extract_size]; omega
              clear hm1
              go_wp2_with fail
              go_meet
              exact after_run (Nat.le_refl _) (by first | rfl | exact (extract_all t).symm | exact HJ.out t.size hk (Nat.le_refl _)) HB.out HC.out.lt HM1.out
      obtain ⟨m, hm1, rfl, rfl, hc2, hb2⟩ := hcut
      have HC2 := Lib.hid hc2
      have HB2 := Lib.hid hb2
      clear hc2 hb2 HC HB hz HJ hr3 c0 c2 hk0 hk CC
      go_wp2_with (go_at_call 26; refine (At_any g t m _ HC2.out).mono ?_; rintro e w' ⟨rfl, rfl⟩)
      go_roundw
      case rel => exact ⟨m, n + 1, hm1, HL1.out, hlt2, rfl, rfl, by go_num, HC2.out, HB2.out⟩
      case measure => simp [intOf]; omega
    · have hex : ¬ n < l.length ∨ ¬ n < 40 := by omega
      rcases hex with hex | hex
      · have hex1 : l.length ≤ n := by omega
        clear hlt
        have HR := Lib.hid (Rest_gives g t k wr HC.out hk hm)
        have HJ := Lib.hid (extract_join t k t.size hk (Nat.le_refl _))
        have hk0 : (t.extract 0 k).size ≤ 200 := by rw [extract_size]; omega
        have hk1 : (restB t k).size ≤ 200 := by rw [restB_size t k hk]; omega
        go_wp2_with fail
        refine HR.out.mono ?_
        rintro e w1 ⟨rfl, hm1⟩
        have HM1 := Lib.hid hm1
        have hall : t.extract 0 k ++ restB t k = t := by
          rw [show restB t k = t.extract k t.size from rfl, HJ.out]
          exact extract_all t
        generalize restB t k = u at *
        clear hm1
        go_wp2_with fail
        refine (While_nil g t w1 HM1.out.1 hm).mono ?_
        rintro e w2 ⟨rfl, hm2⟩
        have HM2 := Lib.hid hm2
        clear hm2
        go_wp2_with fail
        refine (lives02_any _).mono ?_
        rintro e w3 ⟨rfl, hb3⟩
        have HB3 := Lib.hid hb3
        clear hb3
        go_wp2_with fail
        go_ret
        exact ⟨rfl, by rw [HG.out]; exact HB.out.trans (((HM1.out.2.trans HM2.out.2).below (Nat.le_refl _) (by have := HC.out.lt; omega)).trans (HB3.out.mono (by have := HM2.out.1.lt; omega)))⟩
      · by_cases hex2 : n < l.length
        · have hex3 : 40 ≤ n := by omega
          clear hlt
          have HR := Lib.hid (Rest_gives g t k wr HC.out hk hm)
          have HJ := Lib.hid (extract_join t k t.size hk (Nat.le_refl _))
          have hk0 : (t.extract 0 k).size ≤ 200 := by rw [extract_size]; omega
          have hk1 : (restB t k).size ≤ 200 := by rw [restB_size t k hk]; omega
          go_wp2_with fail
          refine HR.out.mono ?_
          rintro e w1 ⟨rfl, hm1⟩
          have HM1 := Lib.hid hm1
          have hall : t.extract 0 k ++ restB t k = t := by
            rw [show restB t k = t.extract k t.size from rfl, HJ.out]
            exact extract_all t
          generalize restB t k = u at *
          clear hm1
          go_wp2_with fail
          refine (While_nil g t w1 HM1.out.1 hm).mono ?_
          rintro e w2 ⟨rfl, hm2⟩
          have HM2 := Lib.hid hm2
          clear hm2
          go_wp2_with fail
          refine (lives02_any _).mono ?_
          rintro e w3 ⟨rfl, hb3⟩
          have HB3 := Lib.hid hb3
          clear hb3
          go_wp2_with fail
          go_ret
          exact ⟨rfl, by rw [HG.out]; exact HB.out.trans (((HM1.out.2.trans HM2.out.2).below (Nat.le_refl _) (by have := HC.out.lt; omega)).trans (HB3.out.mono (by have := HM2.out.1.lt; omega)))⟩
        · have hex1 : l.length ≤ n := by omega
          clear hlt
          have HR := Lib.hid (Rest_gives g t k wr HC.out hk hm)
          have HJ := Lib.hid (extract_join t k t.size hk (Nat.le_refl _))
          have hk0 : (t.extract 0 k).size ≤ 200 := by rw [extract_size]; omega
          have hk1 : (restB t k).size ≤ 200 := by rw [restB_size t k hk]; omega
          go_wp2_with fail
          refine HR.out.mono ?_
          rintro e w1 ⟨rfl, hm1⟩
          have HM1 := Lib.hid hm1
          have hall : t.extract 0 k ++ restB t k = t := by
            rw [show restB t k = t.extract k t.size from rfl, HJ.out]
            exact extract_all t
          generalize restB t k = u at *
          clear hm1
          go_wp2_with fail
          refine (While_nil g t w1 HM1.out.1 hm).mono ?_
          rintro e w2 ⟨rfl, hm2⟩
          have HM2 := Lib.hid hm2
          clear hm2
          go_wp2_with fail
          refine (lives02_any _).mono ?_
          rintro e w3 ⟨rfl, hb3⟩
          have HB3 := Lib.hid hb3
          clear hb3
          go_wp2_with fail
          go_ret
          exact ⟨rfl, by rw [HG.out]; exact HB.out.trans (((HM1.out.2.trans HM2.out.2).below (Nat.le_refl _) (by have := HC.out.lt; omega)).trans (HB3.out.mono (by have := HM2.out.1.lt; omega)))⟩

end Go.Proofs.Ythmiadbeiggmlaa
