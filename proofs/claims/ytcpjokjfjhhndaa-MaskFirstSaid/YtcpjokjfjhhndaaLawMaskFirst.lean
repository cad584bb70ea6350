/-
  The law MaskFirst: its walk.
-/
import Derived.Test.YtcpjokjfjhhndaaMaskFirst
import Derived.Deep.DeepCutAuto
import Derived.Deep.RegionWith
import Derived.Test.YtcpjokjfjhhndaaQuietIn
namespace Go.Proofs.Ytcpjokjfjhhndaa
open Go.RowKit
set_option linter.unusedSimpArgs false
set_option linter.unusedVariables false

theorem own_below06 {w w' : World} {base : Nat} {e : TypeId} {size : Nat} {v : Value} {n : Nat} {xs : List Value} (h : w.ownsRow base e size v n xs) (hb : Below w.heap.size w w') : w'.ownsRow base e size v n xs := by
  obtain ⟨hl, h2⟩ := h
  refine ⟨hl, ?_⟩
  rcases h2 with h2 | ⟨g, cap, cur, hv, hg, hh, hc⟩
  · exact .inl h2
  · have hlt : g < w.heap.size := by
      rcases Nat.lt_or_ge g w.heap.size with h | h
      · exact h
      · rw [Array.getElem?_eq_none h] at hh; cases hh
    exact .inr ⟨g, cap, cur, hv, hg, (hb.block g hlt).trans hh, hc⟩

theorem PatsIn.below {w w' : World} {A : Option Addr} {ps : List Pat} (h : PatsIn w A ps) (hb : Below w.heap.size w w') : PatsIn w' A ps := by
  rcases h with h | ⟨b, off, hA, hg, hc⟩
  · exact .inl h
  · refine .inr ⟨b, off, hA, Nat.lt_of_lt_of_le hg hb.size, fun i hi => ?_⟩
    obtain ⟨h1, h2, h3, h4⟩ := hc i hi
    exact ⟨by rw [cell_below hb hg]; exact h1, by rw [cell_below hb hg]; exact h2, by rw [cell_below hb hg]; exact h3, by rw [cell_below hb hg]; exact h4⟩

set_option maxHeartbeats 1000000 in
set_option maxRecDepth 20000 in
theorem maskFirst_walk (s : ByteArray) (ps : List Pat) (A : Option Addr) (c : Nat) (w : World) (hs : s.size ≤ maxLen) (hps : ∀ i (h : i < ps.length), ps[i].held) (hn : ps.length ≤ maxLen) (hA : PatsIn w A ps) :
    Calls Try.prog 3 #[.string s, .slice A ps.length c] w fun e w' => e = .returned (.bool true) ∧ Below w.heap.size w w' := by
  obtain ⟨i0, hi, hz0, hz1, hz2⟩ := info_parts infoPat
  have HI := Lib.hid hi; have HZ0 := Lib.hid hz0; have HZ1 := Lib.hid hz1; have HZ2 := Lib.hid hz2
  have HP := Lib.hid hps
  have HA := Lib.hid hA
  clear hi hz0 hz1 hz2 hps hA
  have C100 : Hid (∀ (w : World), Calls Try.prog 16 #[.string s, .int .i64 100] w fun e w' => e = .returned (.string (cutB s 100)) ∧ w = w') := Lib.hid (fun w => Cut_any s 100 w hs (by decide))
  have hx := cutB_size s 100
  generalize cutB s 100 = x at *
  have hxm : x.size ≤ maxLen := by omega
  go_enter Try.func3, Try.ntmps3
  go_wp2_with (go_at_call 16; (with_reducible refine (C100.out _).mono ?_); rintro e w' ⟨rfl, rfl⟩)
  go_loopw [5, 6] (fun v i wr => ∃ k : Nat, k ≤ ps.length ∧ k ≤ 8 ∧ i = .int .i64 k ∧ (∃ A' c', v = .slice A' k c') ∧ wr.ownsRow w.heap.size 25 4 v k (rowP ((ps.take k).map fewP)) ∧ Below w.heap.size w wr) (fun _ i _ => 8 - (intOf i).toNat)
  case atStart => exact ⟨0, Nat.zero_le _, by omega, rfl, ⟨_, _, rfl⟩, by simpa [rowP] using World.ownsRow_lit (base := w.heap.size) (e := 25) (size := 4) w #[] 0 (Nat.le_refl _) (Nat.zero_le _) rfl, (Below.refl _ _).alloc (Nat.le_refl _) _⟩
  case round =>
    obtain ⟨k, hk, hk8, rfl, ⟨A', c', rfl⟩, hown, hb⟩ := hrel
    have HO := Lib.hid hown; have HB := Lib.hid hb
    have hz := hb.size
    clear hown hb
    by_cases hlt : k < ps.length ∧ k < 8
    · obtain ⟨h1, h2⟩ := hlt
      have hA2 := HA.out.below HB.out
      rcases hA2 with hnil | ⟨b, off, rfl, hg, hcs⟩
      · rw [hnil] at h1; simp at h1
      obtain ⟨c0, c1, c2, c3⟩ := hcs k h1
      have HD := Lib.hid (HP.out k h1)
      have HS : Hid (rowP ((ps.take (k + 1)).map fewP) = rowP ((ps.take k).map fewP) ++ patCells (fewP ps[k])) := Lib.hid (by rw [List.take_succ_eq_append_getElem h1, List.map_append, List.map_cons, List.map_nil, rowP_snoc])
      clear hcs
      generalize ps[k] = p at *
      go_wp2_with fail
      refine (Few_any p.b p.m p.k p.t _ HD.out.1 HD.out.2.1 HD.out.2.2.1 HD.out.2.2.2).mono ?_
      rintro e w1 ⟨rfl, hb1⟩
      have HO1 := Lib.hid ((own_below06 HO.out hb1).alloc (.cells #[.string (cutB p.b 70), .string (cutB p.m 70), .string (cutB p.k 20), .string (cutB p.t 40)] 25))
      have HB1 := Lib.hid (HB.out.trans (hb1.mono HB.out.size))
      have k1 := Lib.hid (cell_four_new w1 (.string (cutB p.b 70)) (.string (cutB p.m 70)) (.string (cutB p.k 20)) (.string (cutB p.t 40)) 25)
      have k2 := Lib.hid (show ∀ u ∈ ([.string (cutB p.b 70), .string (cutB p.m 70), .string (cutB p.k 20), .string (cutB p.t 40)] : List Value), u.oneCell' = true from by intro u hu; simp at hu; rcases hu with rfl | rfl | rfl | rfl <;> rfl)
      have k3 := Lib.hid (show k + 1 ≤ maxLen from by unfold maxLen; omega)
      have k4 := Lib.hid (show (k + 1) * 64 ≤ 140737488355328 from by omega)
      have k5 := Lib.hid (show w.heap.size ≤ (w1.alloc (.cells #[.string (cutB p.b 70), .string (cutB p.m 70), .string (cutB p.k 20), .string (cutB p.t 40)] 25)).heap.size from by have := HB1.out.size; simp; omega)
      have hL := HO.out.lt
      clear hb1
      go_wp2_with (at_builtin; refine wpList_append_lies _ rfl (.tmp 24) (.tmp 30) 22 rfl w.heap.size 25 i0 _ 4 64 Try.underlying22 HI.out HZ0.out HZ1.out HZ2.out rfl (by decide) _ _ _ rfl HO1.out ⟨w1.heap.size, 0, none⟩ 1 1 _ rfl rfl k1.out k2.out (by decide) k3.out k4.out k5.out _ rfl ?_; intro g3 c3 w2 hown2 hgrow2 hat2 hlt2; have HO2 := Lib.hid hown2; have HG := Lib.hid hgrow2; clear hown2 hgrow2 hat2 hlt2)
      go_roundw
      case rel =>
        refine ⟨k + 1, by omega, by omega, by go_num, ⟨_, _, rfl⟩, by rw [HS.out]; exact HO2.out, ?_⟩
        refine (HB1.out.alloc HB1.out.size _).grown HG.out (by have := HB1.out.size; simp; omega) fun j hj => ?_
        exact (hL j hj).1
      case measure => simp [intOf]; omega
    · have hlen : ((ps.take k).map fewP).length = k := by simp; omega
      have hpat := patsAt_own HO.out hlen.symm
      have hok : ∀ i (h : i < ((ps.take k).map fewP).length), ((ps.take k).map fewP)[i].ok := fun i hi => by rw [List.getElem_map]; exact fewP_ok _
      generalize (ps.take k).map fewP = os at *
      subst hlen
      have HOK := Lib.hid hok
      have HPA := Lib.hid hpat
      clear hok hpat HO
      clear HI HZ0 HZ1 HZ2 HP HA C100 hx
      by_cases hf : findN x os < os.length
      · have hfp : findP x os = (findN x os : Int) := if_pos hf
        have F1 : Hid (∀ w : World, PatsAt w w.heap.size A' os → Calls Try.prog 18 #[.string x, .slice A' os.length c'] w fun e w' => e = .returned (.tuple #[.int .i64 (findN x os : Int), .bool true]) ∧ Below w.heap.size w w') := Lib.hid (fun w h => by
          have := First_mask x os A' c' w hxm HOK.out (by omega) h
          rwa [hfp, decide_eq_true (by omega), show max (findN x os : Int) 0 = (findN x os : Int) by omega] at this)
        have F2 : Hid (∀ w : World, PatsAt w w.heap.size A' os → Calls Try.prog 19 #[.string x, .slice A' os.length c'] w fun e w' => e = .returned (.int .i64 (findN x os : Int)) ∧ Below w.heap.size w w') := Lib.hid (fun w h => by
          have := rFirst_any x os A' c' w hxm HOK.out (by omega) h
          rwa [hfp] at this)
        have F3 : Hid (∀ w : World, PatsAt w w.heap.size A' os → Calls Try.prog 20 #[.string x, .slice A' os.length c'] w fun e w' => e = .returned (.string os[findN x os].t) ∧ Below w.heap.size w w') := Lib.hid (fun w h => by
          have := Type_any x os A' c' w hxm HOK.out (by omega) h
          rwa [typeP_at hf] at this)
        clear hfp
        generalize findN x os = n at *
        go_upto_region 7 with fail
        all_goals
          go_upto_region 8 with (go_at_call 18; refine (F1.out _ HPA.out).mono ?_; rintro e w1 ⟨rfl, hb1⟩)
          have P1 := Lib.hid ((HPA.out.below hb1).more hb1.size)
          have B1 := Lib.hid (HB.out.trans (hb1.mono HB.out.size))
          clear hb1
          go_wp2_with fail
          refine (F2.out _ P1.out).mono ?_
          rintro e w2 ⟨rfl, hb2⟩
          have P2 := Lib.hid ((P1.out.below hb2).more hb2.size)
          have B2 := Lib.hid (B1.out.trans (hb2.mono B1.out.size))
          clear hb2
          go_wp2_with fail
          refine (F3.out _ P2.out).mono ?_
          rintro e w3 ⟨rfl, hb3⟩
          have P3 := Lib.hid ((P2.out.below hb3).more hb3.size)
          have B3 := Lib.hid (B2.out.trans (hb3.mono B2.out.size))
          clear hb3
          rcases P3.out with hnil | ⟨g, rfl, hg, hcs⟩
          · rw [hnil] at hf; simp at hf
          have c3 := (hcs n hf).2.2.2
          clear hcs
          generalize os[n] = p at *
          go_wp2_with (go_at_call 21; refine (lives06_any _).mono ?_; rintro e w4 ⟨rfl, hb4⟩)
          go_ret
          exact ⟨rfl, B3.out.trans (hb4.mono B3.out.size)⟩
      · have hfp : findP x os = -1 := if_neg hf
        have F1 : Hid (∀ w : World, PatsAt w w.heap.size A' os → Calls Try.prog 18 #[.string x, .slice A' os.length c'] w fun e w' => e = .returned (.tuple #[.int .i64 0, .bool false]) ∧ Below w.heap.size w w') := Lib.hid (fun w h => by
          have := First_mask x os A' c' w hxm HOK.out (by omega) h
          rwa [hfp] at this)
        have F2 : Hid (∀ w : World, PatsAt w w.heap.size A' os → Calls Try.prog 19 #[.string x, .slice A' os.length c'] w fun e w' => e = .returned (.int .i64 (-1)) ∧ Below w.heap.size w w') := Lib.hid (fun w h => by
          have := rFirst_any x os A' c' w hxm HOK.out (by omega) h
          rwa [hfp] at this)
        have F3 : Hid (∀ w : World, PatsAt w w.heap.size A' os → Calls Try.prog 20 #[.string x, .slice A' os.length c'] w fun e w' => e = .returned (.string ⟨#[]⟩) ∧ Below w.heap.size w w') := Lib.hid (fun w h => by
          have := Type_any x os A' c' w hxm HOK.out (by omega) h
          rwa [typeP_none hf] at this)
        clear hfp hf
        go_upto_region 7 with fail
        all_goals
          go_upto_region 8 with (go_at_call 18; refine (F1.out _ HPA.out).mono ?_; rintro e w1 ⟨rfl, hb1⟩)
          have P1 := Lib.hid ((HPA.out.below hb1).more hb1.size)
          have B1 := Lib.hid (HB.out.trans (hb1.mono HB.out.size))
          clear hb1
          go_wp2_with fail
          refine (F2.out _ P1.out).mono ?_
          rintro e w2 ⟨rfl, hb2⟩
          have P2 := Lib.hid ((P1.out.below hb2).more hb2.size)
          have B2 := Lib.hid (B1.out.trans (hb2.mono B1.out.size))
          clear hb2
          go_wp2_with fail
          refine (F3.out _ P2.out).mono ?_
          rintro e w3 ⟨rfl, hb3⟩
          have B3 := Lib.hid (B2.out.trans (hb3.mono B2.out.size))
          clear hb3
          go_wp2_with (go_at_call 21; refine (lives06_any _).mono ?_; rintro e w4 ⟨rfl, hb4⟩)
          go_ret
          exact ⟨rfl, B3.out.trans (hb4.mono B3.out.size)⟩

end Go.Proofs.Ytcpjokjfjhhndaa
