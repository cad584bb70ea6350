/-
  The law CursorTakes: its walk.
-/
import Derived.Test.YthmiadbeiggmlaaCursorF
import Derived.Test.YthmiadbeiggmlaaDeeds
import Derived.Test.YthmiadbeiggmlaaBigAnd
import Derived.Test.YthmiadbeiggmlaaQuietIn
import Derived.Deep.DeepCutAuto
import Derived.Deep.RegionWith
import Derived.Test.YthmiadbeiggmlaaTailIn
namespace Go.Proofs.Ythmiadbeiggmlaa
open Go.RowKit
set_option linter.unusedSimpArgs false
set_option linter.unusedVariables false

/-- What holds behind a deed. -/
def AfterDeed (w : World) (g D : Nat) (t : ByteArray) (N : Int) (v : Value) (wx : World) : Prop :=
  ∃ k : Nat, k ≤ t.size ∧ v = .int .i64 k ∧ Cur wx g t k ∧ Below g w wx ∧ wx.cell? ⟨D, 1, none⟩ = some (.int .i64 N)

theorem after_of {w V wx : World} {g D : Nat} {t : ByteArray} {N : Int} {k : Nat} (hk : k ≤ t.size) (hb : Below g w V) (hm : Moved g t k V wx) (hD : D < V.heap.size) (hg : g < D) (hc : V.cell? ⟨D, 1, none⟩ = some (.int .i64 N)) : AfterDeed w g D t N (.int .i64 k) wx :=
  ⟨k, hk, rfl, hm.1, hb.trans (hm.2.below (Nat.le_refl _) (by omega)), by rw [hm.2.cell hD (by omega)]; exact hc⟩

theorem AfterDeed.alloc {w wx : World} {g D : Nat} {t : ByteArray} {N : Int} {v : Value} (h : AfterDeed w g D t N v wx) (o : Obj) : AfterDeed w g D t N v (wx.alloc o) := by
  obtain ⟨k, h1, h2, h3, h4, h5⟩ := h
  have hD := lt_of_cell h5
  exact ⟨k, h1, h2, h3.alloc o, h4.alloc (Nat.le_of_lt h3.lt) o, by rw [← h5]; exact World.cell?_of_block (Below.heap_alloc wx o D hD)⟩

theorem Drew.cell {w w' : World} (h : Drew w w') (p : Addr) : w'.cell? p = w.cell? p := by
  obtain ⟨m, rfl⟩ := h
  rfl

theorem extract_none (t : ByteArray) (k : Nat) : t.extract k k = ⟨#[]⟩ := by
  apply ByteArray.ext
  rw [ByteArray.data_extract]
  simp
  omega

set_option maxHeartbeats 20000000 in
set_option maxRecDepth 100000 in
theorem cursorTakes_walk (s : ByteArray) (A : Option Addr) (l : List Deed) (c : Nat) (w : World) (hs : s.size ≤ maxLen) (hl : l.length ≤ maxLen) (hA : DeedsAt w w.heap.size A l) :
    Calls Try.prog 5 #[.string s, .slice A l.length c] w fun e w' => e = .returned (.bool true) ∧ Below w.heap.size w w' := by
  have hmf : ∀ (fn : Fn) (first cap : Array Value) (w : World), (Instr.makeFunc fn first cap).run Try.prog w = .ok (.func fn first cap) w := fun _ _ _ _ => rfl
  have hm2 : l.length ≤ 9223372036854775807 := by unfold maxLen at hl; omega
  have ht := cutB_size s 200
  have HA := Lib.hid hA
  clear hA
  go_enter Try.func5, Try.ntmps5
  go_upto_region 3 with (first | (go_at_call 11; refine (Cut_any _ 200 _ hs (by decide)).mono ?_; rintro e w' ⟨rfl, rfl⟩) | (go_at_call 20; refine (New_any _ _).mono ?_; rintro e w' ⟨rfl, rfl⟩))
  generalize cutB s 200 = t at *
  have hm : t.size ≤ maxLen := by omega
  have ht2 : t.size ≤ 200 := by omega
  clear ht
  have h0 := Lib.hid (Cur.new w t)
  have hB0 := Lib.hid (below_box w (.cells #[.string t, .int .i64 0] 79))
  have hgs : w.heap.size < (w.alloc (.cells #[.string t, .int .i64 0] 79)).heap.size := by simp
  generalize w.alloc (.cells #[.string t, .int .i64 0] 79) = W at *
  obtain ⟨g, hg⟩ : ∃ g, w.heap.size = g := ⟨_, rfl⟩
  have HG := Lib.hid hg
  rw [hg] at h0 hgs ⊢
  clear hg
  go_wp2_with fail
  go_loopw [6, 7] (fun a i wr => ∃ k n : Nat, k ≤ t.size ∧ n ≤ l.length ∧ n ≤ 60 ∧ a = .int .i64 k ∧ i = .int .i64 n ∧ Cur wr g t k ∧ Below g w wr) (fun _ i _ => 60 - (intOf i).toNat)
  case atStart => exact ⟨0, 0, Nat.zero_le _, Nat.zero_le _, Nat.zero_le _, rfl, rfl, h0.out, by rw [← HG.out]; exact hB0.out⟩
  case round =>
    obtain ⟨k, n, hk, hn, hn60, rfl, rfl, hcur, hb⟩ := hrel
    have HC := Lib.hid hcur
    have HB := Lib.hid hb
    clear hcur hb h0 hB0
    by_cases hlt : n < l.length ∧ n < 60
    · obtain ⟨hlt1, hlt2⟩ := hlt
      rcases (HA.out.below (by rw [HG.out]; exact HB.out)) with hnil | ⟨gl, o, rfl, hgl, hcs⟩
      · rw [hnil] at hlt1; simp at hlt1
      obtain ⟨c0, c1, c2⟩ := hcs n hlt1
      clear hcs
      obtain ⟨r, hr⟩ : ∃ r, bits .and .i64 l[n].kind 3 = r := ⟨_, rfl⟩
      have hr3 := and_three l[n].kind
      rw [hr] at hr3
      have HL1 := Lib.hid hlt1
      generalize l[n] = d at *
      go_upto_if 46 with fail
      obtain ⟨D, hD⟩ : ∃ D, wr.heap.size = D := ⟨_, rfl⟩
      generalize hV : (wr.alloc (.cells #[.int .i64 r, .int .i64 d.n, .string d.s] 38)).alloc (.cells #[.pointer (some ⟨g, 0, none⟩), .int .i64 d.n] 40) = V
      have q0 : V.cell? ⟨D, 0, none⟩ = some (.int .i64 r) := by rw [← hV, ← hD]; simp [go_sem]
      have q1 : V.cell? ⟨D, 1, none⟩ = some (.int .i64 d.n) := by rw [← hV, ← hD]; simp [go_sem]
      have q2 : V.cell? ⟨D, 2, none⟩ = some (.string d.s) := by rw [← hV, ← hD]; simp [go_sem]
      have p0 : V.cell? ⟨D + 1, 0, none⟩ = some (.pointer (some ⟨g, 0, none⟩)) := by rw [← hV, ← hD]; simp [go_sem]
      have p1 : V.cell? ⟨D + 1, 1, none⟩ = some (.int .i64 d.n) := by rw [← hV, ← hD]; simp [go_sem]
      have zD : D + 1 < V.heap.size := by rw [← hV, ← hD]; simp
      have hgD : g < D := by rw [← hD]; exact HC.out.lt
      have HCV : Hid (Cur V g t k) := Lib.hid (by rw [← hV]; exact (HC.out.alloc _).alloc _)
      have HBV : Hid (Below g w V) := Lib.hid (by rw [← hV]; exact (HB.out.alloc (by omega) _).alloc (by simp; omega) _)
      rw [hD]
      clear hV hr c0 c1 c2 HC HB
      obtain ⟨N, hN⟩ : ∃ N, d.n = N := ⟨_, rfl⟩
      rw [hN] at q1 p1 ⊢
      clear hN
      have HQ1 := Lib.hid q1
      go_cut [6] (fun s6 wx => AfterDeed w g D t N s6 wx)
      case first =>
        rcases hr3 with rfl | rfl | rfl | rfl
        · as_aux_lemma =>
          by_cases hlt : k < t.size
          · have HK1 : Hid (k + 1 ≤ t.size) := Lib.hid hlt
            have CW0 := fun (w : World) => Wants_gives 0 N d.s (t.size - k) w (by omega) (by simp [wantI]) (by simp [wantI]; omega)
            rw [show ((t.size - k : Nat) : Int) = (t.size : Int) - (k : Int) from by omega] at CW0
            have CW := Lib.hid CW0
            have CT := Lib.hid (fun (w1 : World) (h1 : Cur w1 g t k) => takes_next g N t k w1 h1 hlt hm)
            clear CW0
            have w1w : wantI 0 N = 1 := rfl
            rw [w1w] at CW
            clear w1w
            go_wp2_with fail
            refine (CW.out _).mono ?_
            rintro e w1 ⟨rfl, hb1⟩
            have z1 := hb1.size
            rw [← cell_below hb1 (by omega)] at q0 q1 p0 p1
            have HB1 := Lib.hid hb1
            clear hb1
            go_wp2_with fail
            refine wp_region_tail 12 (by kernel_rfl) (by kernel_rfl) ?_
            intro w2 hw2
            have HB2 : Hid (Below V.heap.size V w2) := Lib.hid (by rw [hw2]; exact HB1.out.drew)
            rw [← World.cell?_drew w1, ← hw2] at q0 q1 p0 p1
            clear hw2
            simp only [List.take_succ_cons, List.take_zero, List.drop_succ_cons, List.drop_zero]
            have s0 : IntKind.i64.wrap ((k : Int) + 1) = ((k : Int) + 1) := IntWalk.i64_in _ (by omega)
            have s1 : (0 : Int) ≤ ((k : Int) + 1) := by omega
            have s2 : ((k : Int) + 1) ≤ (t.size : Int) := by omega
            have s3 : (k : Int) ≤ ((k : Int) + 1) := by omega
            have s4 : ((k : Int) + 1).toNat = k + 1 := by omega
            repeat still_step
            refine wpStill_nil ?_
            clear q0 q1 p0 p1
            go_wp2_with fail
            refine (CT.out _ (HCV.out.below HB2.out (by omega))).mono ?_
            rintro e w3 ⟨rfl, hm1⟩
            have HM1 := Lib.hid hm1
            clear hm1
            go_wp2_with fail
            go_meet
            exact after_of HK1.out (HBV.out.trans (HB2.out.mono (by omega))) HM1.out (by have := HB2.out.size; omega) hgD (by rw [cell_below HB2.out (by omega)]; exact HQ1.out)
          · have hend : k = t.size := by omega
            have CW0 := fun (w : World) => Wants_end 0 N d.s (t.size - k) w (by omega) (by simp [wantI]) (by simp [wantI]; omega)
            rw [show ((t.size - k : Nat) : Int) = (t.size : Int) - (k : Int) from by omega] at CW0
            have CW := Lib.hid CW0
            have CT := Lib.hid (fun (w1 : World) (h1 : Cur w1 g t k) => takes_next_end g N t k w1 h1 hend hm)
            clear CW0
            have hx0 := extract_none t k
            clear hend
            go_wp2_with fail
            refine (CW.out _).mono ?_
            rintro e w1 ⟨rfl, hb1⟩
            have z1 := hb1.size
            rw [← cell_below hb1 (by omega)] at q0 q1 p0 p1
            have HB1 := Lib.hid hb1
            clear hb1
            go_wp2_with fail
            refine wp_region_tail 12 (by kernel_rfl) (by kernel_rfl) ?_
            intro w2 hw2
            have HB2 : Hid (Below V.heap.size V w2) := Lib.hid (by rw [hw2]; exact HB1.out.drew)
            rw [← World.cell?_drew w1, ← hw2] at q0 q1 p0 p1
            clear hw2
            simp only [List.take_succ_cons, List.take_zero, List.drop_succ_cons, List.drop_zero]
            have s0 : IntKind.i64.wrap (k : Int) = (k : Int) := IntWalk.i64_in _ (by omega)
            have s1 : (k : Int) ≤ (t.size : Int) := by omega
            repeat still_step
            refine wpStill_nil ?_
            clear q0 q1 p0 p1
            go_wp2_with fail
            refine (CT.out _ (HCV.out.below HB2.out (by omega))).mono ?_
            rintro e w3 ⟨rfl, hm1⟩
            have HM1 := Lib.hid hm1
            clear hm1
            go_wp2_with fail
            go_meet
            exact after_of hk (HBV.out.trans (HB2.out.mono (by omega))) HM1.out (by have := HB2.out.size; omega) hgD (by rw [cell_below HB2.out (by omega)]; exact HQ1.out)
        · as_aux_lemma =>
          by_cases hbad : N < 0
          · have CW0 := fun (w : World) => Wants_range 1 N d.s (t.size - k) w (by omega) (by simp [wantI]; omega)
            rw [show ((t.size - k : Nat) : Int) = (t.size : Int) - (k : Int) from by omega] at CW0
            have CW := Lib.hid CW0
            have CT := Lib.hid (fun (w1 : World) (h1 : Cur w1 g t k) => takes_take_range g N t k w1 h1 hk hbad hm)
            clear CW0
            have hx0 := extract_none t k
            go_wp2_with fail
            refine (CW.out _).mono ?_
            rintro e w1 ⟨rfl, hb1⟩
            have z1 := hb1.size
            rw [← cell_below hb1 (by omega)] at q0 q1 p0 p1
            have HB1 := Lib.hid hb1
            clear hb1
            go_wp2_with fail
            refine wp_region_tail 12 (by kernel_rfl) (by kernel_rfl) ?_
            intro w2 hw2
            have HB2 : Hid (Below V.heap.size V w2) := Lib.hid (by rw [hw2]; exact HB1.out.drew)
            rw [← World.cell?_drew w1, ← hw2] at q0 q1 p0 p1
            clear hw2
            simp only [List.take_succ_cons, List.take_zero, List.drop_succ_cons, List.drop_zero]
            have s0 : IntKind.i64.wrap (k : Int) = (k : Int) := IntWalk.i64_in _ (by omega)
            have s1 : (k : Int) ≤ (t.size : Int) := by omega
            repeat still_step
            refine wpStill_nil ?_
            clear q0 q1 p0 p1
            go_wp2_with fail
            refine (CT.out _ (HCV.out.below HB2.out (by omega))).mono ?_
            rintro e w3 ⟨rfl, hm1⟩
            have HM1 := Lib.hid hm1
            clear hm1
            go_wp2_with fail
            go_meet
            exact after_of hk (HBV.out.trans (HB2.out.mono (by omega))) HM1.out (by have := HB2.out.size; omega) hgD (by rw [cell_below HB2.out (by omega)]; exact HQ1.out)
          · by_cases hbad2 : (t.size : Int) - k < N
            · have CW0 := fun (w : World) => Wants_end 1 N d.s (t.size - k) w (by omega) (by simp [wantI]; omega) (by simp [wantI]; omega)
              rw [show ((t.size - k : Nat) : Int) = (t.size : Int) - (k : Int) from by omega] at CW0
              have CW := Lib.hid CW0
              have CT := Lib.hid (fun (w1 : World) (h1 : Cur w1 g t k) => takes_take_end g N t k w1 h1 hk hbad2 hm)
              clear CW0
              have hx0 := extract_none t k
              go_wp2_with fail
              refine (CW.out _).mono ?_
              rintro e w1 ⟨rfl, hb1⟩
              have z1 := hb1.size
              rw [← cell_below hb1 (by omega)] at q0 q1 p0 p1
              have HB1 := Lib.hid hb1
              clear hb1
              go_wp2_with fail
              refine wp_region_tail 12 (by kernel_rfl) (by kernel_rfl) ?_
              intro w2 hw2
              have HB2 : Hid (Below V.heap.size V w2) := Lib.hid (by rw [hw2]; exact HB1.out.drew)
              rw [← World.cell?_drew w1, ← hw2] at q0 q1 p0 p1
              clear hw2
              simp only [List.take_succ_cons, List.take_zero, List.drop_succ_cons, List.drop_zero]
              have s0 : IntKind.i64.wrap (k : Int) = (k : Int) := IntWalk.i64_in _ (by omega)
              have s1 : (k : Int) ≤ (t.size : Int) := by omega
              repeat still_step
              refine wpStill_nil ?_
              clear q0 q1 p0 p1
              go_wp2_with fail
              refine (CT.out _ (HCV.out.below HB2.out (by omega))).mono ?_
              rintro e w3 ⟨rfl, hm1⟩
              have HM1 := Lib.hid hm1
              clear hm1
              go_wp2_with fail
              go_meet
              exact after_of hk (HBV.out.trans (HB2.out.mono (by omega))) HM1.out (by have := HB2.out.size; omega) hgD (by rw [cell_below HB2.out (by omega)]; exact HQ1.out)
            · obtain ⟨M, rfl⟩ := Int.eq_ofNat_of_zero_le (a := N) (by omega)
              have hMk : k + M ≤ t.size := by omega
              clear hbad hbad2
              have CW0 := fun (w : World) => Wants_gives 1 (M : Int) d.s (t.size - k) w (by omega) (by simp [wantI]) (by simp [wantI]; omega)
              rw [show ((t.size - k : Nat) : Int) = (t.size : Int) - (k : Int) from by omega] at CW0
              have CW := Lib.hid CW0
              have CT := Lib.hid (fun (w1 : World) (h1 : Cur w1 g t k) => takes_take g M t k w1 h1 hMk hm)
              clear CW0
              have w1w : wantI 1 (M : Int) = (M : Int) := rfl
              rw [w1w] at CW
              clear w1w
              go_wp2_with fail
              refine (CW.out _).mono ?_
              rintro e w1 ⟨rfl, hb1⟩
              have z1 := hb1.size
              rw [← cell_below hb1 (by omega)] at q0 q1 p0 p1
              have HB1 := Lib.hid hb1
              clear hb1
              go_wp2_with fail
              refine wp_region_tail 12 (by kernel_rfl) (by kernel_rfl) ?_
              intro w2 hw2
              have HB2 : Hid (Below V.heap.size V w2) := Lib.hid (by rw [hw2]; exact HB1.out.drew)
              rw [← World.cell?_drew w1, ← hw2] at q0 q1 p0 p1
              clear hw2
              simp only [List.take_succ_cons, List.take_zero, List.drop_succ_cons, List.drop_zero]
              have s0 : IntKind.i64.wrap ((k : Int) + (M : Int)) = ((k : Int) + (M : Int)) := IntWalk.i64_in _ (by omega)
              have s1 : (0 : Int) ≤ ((k : Int) + (M : Int)) := by omega
              have s2 : ((k : Int) + (M : Int)) ≤ (t.size : Int) := by omega
              have s3 : (k : Int) ≤ ((k : Int) + (M : Int)) := by omega
              have s4 : ((k : Int) + (M : Int)).toNat = k + M := by omega
              repeat still_step
              refine wpStill_nil ?_
              clear q0 q1 p0 p1
              go_wp2_with fail
              refine (CT.out _ (HCV.out.below HB2.out (by omega))).mono ?_
              rintro e w3 ⟨rfl, hm1⟩
              have HM1 := Lib.hid hm1
              clear hm1
              go_wp2_with fail
              go_meet
              exact after_of (by omega) (HBV.out.trans (HB2.out.mono (by omega))) HM1.out (by have := HB2.out.size; omega) hgD (by rw [cell_below HB2.out (by omega)]; exact HQ1.out)
        · as_aux_lemma =>
          by_cases hlt : k + 4 ≤ t.size
          · have CW0 := fun (w : World) => Wants_gives 2 N d.s (t.size - k) w (by omega) (by simp [wantI]) (by simp [wantI]; omega)
            rw [show ((t.size - k : Nat) : Int) = (t.size : Int) - (k : Int) from by omega] at CW0
            have CW := Lib.hid CW0
            have CT := Lib.hid (fun (w1 : World) (h1 : Cur w1 g t k) => takes_u32 g N t k w1 h1 hlt hm)
            clear CW0
            have w1w : wantI 2 N = 4 := rfl
            rw [w1w] at CW
            clear w1w
            go_wp2_with fail
            refine (CW.out _).mono ?_
            rintro e w1 ⟨rfl, hb1⟩
            have z1 := hb1.size
            rw [← cell_below hb1 (by omega)] at q0 q1 p0 p1
            have HB1 := Lib.hid hb1
            clear hb1
            go_wp2_with fail
            refine wp_region_tail 12 (by kernel_rfl) (by kernel_rfl) ?_
            intro w2 hw2
            have HB2 : Hid (Below V.heap.size V w2) := Lib.hid (by rw [hw2]; exact HB1.out.drew)
            rw [← World.cell?_drew w1, ← hw2] at q0 q1 p0 p1
            clear hw2
            simp only [List.take_succ_cons, List.take_zero, List.drop_succ_cons, List.drop_zero]
            have s0 : IntKind.i64.wrap ((k : Int) + 4) = ((k : Int) + 4) := IntWalk.i64_in _ (by omega)
            have s1 : (0 : Int) ≤ ((k : Int) + 4) := by omega
            have s2 : ((k : Int) + 4) ≤ (t.size : Int) := by omega
            have s3 : (k : Int) ≤ ((k : Int) + 4) := by omega
            have s4 : ((k : Int) + 4).toNat = k + 4 := by omega
            repeat still_step
            refine wpStill_nil ?_
            clear q0 q1 p0 p1
            go_wp2_with fail
            refine (CT.out _ (HCV.out.below HB2.out (by omega))).mono ?_
            rintro e w3 ⟨rfl, hm1⟩
            have HM1 := Lib.hid hm1
            clear hm1
            go_wp2_with fail
            go_meet
            exact after_of (by omega) (HBV.out.trans (HB2.out.mono (by omega))) HM1.out (by have := HB2.out.size; omega) hgD (by rw [cell_below HB2.out (by omega)]; exact HQ1.out)
          · have hend : t.size < k + 4 := by omega
            have CW0 := fun (w : World) => Wants_end 2 N d.s (t.size - k) w (by omega) (by simp [wantI]) (by simp [wantI]; omega)
            rw [show ((t.size - k : Nat) : Int) = (t.size : Int) - (k : Int) from by omega] at CW0
            have CW := Lib.hid CW0
            have CT := Lib.hid (fun (w1 : World) (h1 : Cur w1 g t k) => takes_u32_end g N t k w1 h1 hk hend hm)
            clear CW0
            have hx0 := extract_none t k
            go_wp2_with fail
            refine (CW.out _).mono ?_
            rintro e w1 ⟨rfl, hb1⟩
            have z1 := hb1.size
            rw [← cell_below hb1 (by omega)] at q0 q1 p0 p1
            have HB1 := Lib.hid hb1
            clear hb1
            go_wp2_with fail
            refine wp_region_tail 12 (by kernel_rfl) (by kernel_rfl) ?_
            intro w2 hw2
            have HB2 : Hid (Below V.heap.size V w2) := Lib.hid (by rw [hw2]; exact HB1.out.drew)
            rw [← World.cell?_drew w1, ← hw2] at q0 q1 p0 p1
            clear hw2
            simp only [List.take_succ_cons, List.take_zero, List.drop_succ_cons, List.drop_zero]
            have s0 : IntKind.i64.wrap (k : Int) = (k : Int) := IntWalk.i64_in _ (by omega)
            have s1 : (k : Int) ≤ (t.size : Int) := by omega
            repeat still_step
            refine wpStill_nil ?_
            clear q0 q1 p0 p1
            go_wp2_with fail
            refine (CT.out _ (HCV.out.below HB2.out (by omega))).mono ?_
            rintro e w3 ⟨rfl, hm1⟩
            have HM1 := Lib.hid hm1
            clear hm1
            go_wp2_with fail
            go_meet
            exact after_of hk (HBV.out.trans (HB2.out.mono (by omega))) HM1.out (by have := HB2.out.size; omega) hgD (by rw [cell_below HB2.out (by omega)]; exact HQ1.out)
        · as_aux_lemma =>
          by_cases hbad : N < 0
          · have CC := Lib.hid (catchBack_bad g N t k V HCV.out (.inl hbad) hm)
            go_wp2_with fail
            refine CC.out.mono ?_
            rintro e w1 ⟨rfl, hm1⟩
            have r1 : w1.cell? ⟨D, 1, none⟩ = some (.int .i64 N) := by rw [hm1.2.cell (by omega) (by omega)]; exact HQ1.out
            have z1 := lt_of_cell r1
            have HM1 := Lib.hid hm1
            clear hm1
            go_wp2_with fail
            go_meet
            exact (after_of hk HBV.out HM1.out (by omega) hgD HQ1.out).alloc _
          · by_cases hbad2 : (k : Int) < N
            · have CC := Lib.hid (catchBack_bad g N t k V HCV.out (.inr hbad2) hm)
              go_wp2_with fail
              refine CC.out.mono ?_
              rintro e w1 ⟨rfl, hm1⟩
              have r1 : w1.cell? ⟨D, 1, none⟩ = some (.int .i64 N) := by rw [hm1.2.cell (by omega) (by omega)]; exact HQ1.out
              have z1 := lt_of_cell r1
              have HM1 := Lib.hid hm1
              clear hm1
              go_wp2_with fail
              go_meet
              exact (after_of hk HBV.out HM1.out (by omega) hgD HQ1.out).alloc _
            · obtain ⟨M, rfl⟩ := Int.eq_ofNat_of_zero_le (a := N) (by omega)
              have hMk : M ≤ k := by omega
              clear hbad hbad2
              have CC := Lib.hid (catchBack_ok g t k M V HCV.out hMk hm)
              go_wp2_with fail
              refine CC.out.mono ?_
              rintro e w1 ⟨rfl, hm1⟩
              have r1 : w1.cell? ⟨D, 1, none⟩ = some (.int .i64 M) := by rw [hm1.2.cell (by omega) (by omega)]; exact HQ1.out
              have z1 := lt_of_cell r1
              have HM1 := Lib.hid hm1
              clear hm1
              go_wp2_with fail
              go_meet
              exact (after_of (by omega) HBV.out HM1.out (by omega) hgD HQ1.out).alloc _
      obtain ⟨k2, hk2, rfl, hc2, hb2, hd2⟩ := hcut
      have HC2 := Lib.hid hc2
      have HB2 := Lib.hid hb2
      have HD2 := Lib.hid hd2
      have hd : Drew wc wc := Drew.refl wc
      clear HQ1 q0 q1 q2 p0 p1 HCV HBV hc2 hb2 hd2 hk hr3
      obtain ⟨k, rfl⟩ : ∃ k : Nat, k = k2 := ⟨_, rfl⟩
      have r1 := HD2.out
      have CA := Lib.hid (fun (w1 : World) (h1 : Drew wc w1) => At_any g t k w1 (h1.cur HC2.out))
      have CL : Hid (∀ (w1 : World), Drew wc w1 → Calls Try.prog 27 #[.pointer (some ⟨g, 0, none⟩)] w1 fun e w' => e = .returned (.int .i64 ((t.size : Int) - (k : Int))) ∧ Drew w1 w') := Lib.hid (fun w1 h1 => by
        have := Left_any g t k w1 (h1.cur HC2.out) hk2 hm
        rwa [show ((t.size - k : Nat) : Int) = (t.size : Int) - (k : Int) from by omega] at this)
      have CE0 := fun (w1 : World) (h1 : Drew wc w1) => End_any g t k w1 (h1.cur HC2.out) hk2 hm
      by_cases hE : k = t.size
      · as_aux_lemma =>
        have hE2 : ((k : Int) == (t.size : Int)) = true := by rw [beq_iff_eq]; omega
        have CE1 := fun (w1 : World) (h1 : Drew wc w1) => CE0 w1 h1
        rw [decide_eq_true hE] at CE1
        have CE := Lib.hid CE1
        clear CE0 CE1 hE
        by_cases hN : N < 0
        · have CP := Lib.hid (fun (w1 : World) (h1 : Drew wc w1) => Peek_no g t k N w1 (h1.cur HC2.out) hk2 (.inl hN) hm)
          have t1 : decide (0 ≤ N) = false := decide_eq_false (by omega)
          go_wp2_with (first | (go_at_call 25; (with_reducible refine (CP.out _ hd).mono ?_); rintro e w' ⟨rfl, hd2⟩; replace hd := hd.trans hd2; clear hd2; have r1 := (hd.cell ⟨D, 1, none⟩).trans HD2.out) | (go_at_call 26; (with_reducible refine (CA.out _ hd).mono ?_); rintro e w' ⟨rfl, rfl⟩) | (go_at_call 27; (with_reducible refine (CL.out _ hd).mono ?_); rintro e w' ⟨rfl, hd2⟩; replace hd := hd.trans hd2; clear hd2; have r1 := (hd.cell ⟨D, 1, none⟩).trans HD2.out) | (go_at_call 28; (with_reducible refine (CE.out _ hd).mono ?_); rintro e w' ⟨rfl, hd2⟩; replace hd := hd.trans hd2; clear hd2; have r1 := (hd.cell ⟨D, 1, none⟩).trans HD2.out))
          go_roundw
          case rel => exact ⟨k, n + 1, hk2, HL1.out, hlt2, rfl, by go_num, hd.cur HC2.out, HB2.out.trans (hd.below _)⟩
          case measure => simp [intOf]; omega
        · as_aux_lemma =>
          by_cases hN2 : (t.size : Int) - (k : Int) ≤ N
          · have CP := Lib.hid (fun (w1 : World) (h1 : Drew wc w1) => Peek_no g t k N w1 (h1.cur HC2.out) hk2 (.inr hN2) hm)
            have t1 : decide (N < (t.size : Int) - (k : Int)) = false := decide_eq_false (by omega)
            go_wp2_with (first | (go_at_call 25; (with_reducible refine (CP.out _ hd).mono ?_); rintro e w' ⟨rfl, hd2⟩; replace hd := hd.trans hd2; clear hd2; have r1 := (hd.cell ⟨D, 1, none⟩).trans HD2.out) | (go_at_call 26; (with_reducible refine (CA.out _ hd).mono ?_); rintro e w' ⟨rfl, rfl⟩) | (go_at_call 27; (with_reducible refine (CL.out _ hd).mono ?_); rintro e w' ⟨rfl, hd2⟩; replace hd := hd.trans hd2; clear hd2; have r1 := (hd.cell ⟨D, 1, none⟩).trans HD2.out) | (go_at_call 28; (with_reducible refine (CE.out _ hd).mono ?_); rintro e w' ⟨rfl, hd2⟩; replace hd := hd.trans hd2; clear hd2; have r1 := (hd.cell ⟨D, 1, none⟩).trans HD2.out))
            go_roundw
            case rel => exact ⟨k, n + 1, hk2, HL1.out, hlt2, rfl, by go_num, hd.cur HC2.out, HB2.out.trans (hd.below _)⟩
            case measure => simp [intOf]; omega
          · obtain ⟨M, rfl⟩ := Int.eq_ofNat_of_zero_le (a := N) (by omega)
            have hM : k + M < t.size := by omega
            have CP0 := fun (w1 : World) (h1 : Drew wc w1) => Peek_yes g t k M w1 (h1.cur HC2.out) hM hm
            have hidx : ∀ w : World, (Instr.index 9 (.string t) (.int .i64 ((k : Int) + (M : Int)))).run Try.prog w = .ok (.int .u8 (t[k + M].toNat : Int)) w := fun w => index_byte 9 Try.underlying9 t (k + M) hM w
            generalize t[k + M] = b at *
            have CP := Lib.hid CP0
            clear CP0
            have t1 : decide ((M : Int) < (t.size : Int) - (k : Int)) = true := decide_eq_true (by omega)
            go_wp2_with (first | (go_at_call 25; (with_reducible refine (CP.out _ hd).mono ?_); rintro e w' ⟨rfl, hd2⟩; replace hd := hd.trans hd2; clear hd2; have r1 := (hd.cell ⟨D, 1, none⟩).trans HD2.out) | (go_at_call 26; (with_reducible refine (CA.out _ hd).mono ?_); rintro e w' ⟨rfl, rfl⟩) | (go_at_call 27; (with_reducible refine (CL.out _ hd).mono ?_); rintro e w' ⟨rfl, hd2⟩; replace hd := hd.trans hd2; clear hd2; have r1 := (hd.cell ⟨D, 1, none⟩).trans HD2.out) | (go_at_call 28; (with_reducible refine (CE.out _ hd).mono ?_); rintro e w' ⟨rfl, hd2⟩; replace hd := hd.trans hd2; clear hd2; have r1 := (hd.cell ⟨D, 1, none⟩).trans HD2.out))
            go_roundw
            case rel => exact ⟨k, n + 1, hk2, HL1.out, hlt2, rfl, by go_num, hd.cur HC2.out, HB2.out.trans (hd.below _)⟩
            case measure => simp [intOf]; omega
      · as_aux_lemma =>
        have hE2 : ((k : Int) == (t.size : Int)) = false := by rw [beq_eq_false_iff_ne]; omega
        have CE1 := fun (w1 : World) (h1 : Drew wc w1) => CE0 w1 h1
        rw [decide_eq_false hE] at CE1
        have CE := Lib.hid CE1
        clear CE0 CE1 hE
        by_cases hN : N < 0
        · have CP := Lib.hid (fun (w1 : World) (h1 : Drew wc w1) => Peek_no g t k N w1 (h1.cur HC2.out) hk2 (.inl hN) hm)
          have t1 : decide (0 ≤ N) = false := decide_eq_false (by omega)
          go_wp2_with (first | (go_at_call 25; (with_reducible refine (CP.out _ hd).mono ?_); rintro e w' ⟨rfl, hd2⟩; replace hd := hd.trans hd2; clear hd2; have r1 := (hd.cell ⟨D, 1, none⟩).trans HD2.out) | (go_at_call 26; (with_reducible refine (CA.out _ hd).mono ?_); rintro e w' ⟨rfl, rfl⟩) | (go_at_call 27; (with_reducible refine (CL.out _ hd).mono ?_); rintro e w' ⟨rfl, hd2⟩; replace hd := hd.trans hd2; clear hd2; have r1 := (hd.cell ⟨D, 1, none⟩).trans HD2.out) | (go_at_call 28; (with_reducible refine (CE.out _ hd).mono ?_); rintro e w' ⟨rfl, hd2⟩; replace hd := hd.trans hd2; clear hd2; have r1 := (hd.cell ⟨D, 1, none⟩).trans HD2.out))
          go_roundw
          case rel => exact ⟨k, n + 1, hk2, HL1.out, hlt2, rfl, by go_num, hd.cur HC2.out, HB2.out.trans (hd.below _)⟩
          case measure => simp [intOf]; omega
        · as_aux_lemma =>
          by_cases hN2 : (t.size : Int) - (k : Int) ≤ N
          · have CP := Lib.hid (fun (w1 : World) (h1 : Drew wc w1) => Peek_no g t k N w1 (h1.cur HC2.out) hk2 (.inr hN2) hm)
            have t1 : decide (N < (t.size : Int) - (k : Int)) = false := decide_eq_false (by omega)
            go_wp2_with (first | (go_at_call 25; (with_reducible refine (CP.out _ hd).mono ?_); rintro e w' ⟨rfl, hd2⟩; replace hd := hd.trans hd2; clear hd2; have r1 := (hd.cell ⟨D, 1, none⟩).trans HD2.out) | (go_at_call 26; (with_reducible refine (CA.out _ hd).mono ?_); rintro e w' ⟨rfl, rfl⟩) | (go_at_call 27; (with_reducible refine (CL.out _ hd).mono ?_); rintro e w' ⟨rfl, hd2⟩; replace hd := hd.trans hd2; clear hd2; have r1 := (hd.cell ⟨D, 1, none⟩).trans HD2.out) | (go_at_call 28; (with_reducible refine (CE.out _ hd).mono ?_); rintro e w' ⟨rfl, hd2⟩; replace hd := hd.trans hd2; clear hd2; have r1 := (hd.cell ⟨D, 1, none⟩).trans HD2.out))
            go_roundw
            case rel => exact ⟨k, n + 1, hk2, HL1.out, hlt2, rfl, by go_num, hd.cur HC2.out, HB2.out.trans (hd.below _)⟩
            case measure => simp [intOf]; omega
          · obtain ⟨M, rfl⟩ := Int.eq_ofNat_of_zero_le (a := N) (by omega)
            have hM : k + M < t.size := by omega
            have CP0 := fun (w1 : World) (h1 : Drew wc w1) => Peek_yes g t k M w1 (h1.cur HC2.out) hM hm
            have hidx : ∀ w : World, (Instr.index 9 (.string t) (.int .i64 ((k : Int) + (M : Int)))).run Try.prog w = .ok (.int .u8 (t[k + M].toNat : Int)) w := fun w => index_byte 9 Try.underlying9 t (k + M) hM w
            generalize t[k + M] = b at *
            have CP := Lib.hid CP0
            clear CP0
            have t1 : decide ((M : Int) < (t.size : Int) - (k : Int)) = true := decide_eq_true (by omega)
            go_wp2_with (first | (go_at_call 25; (with_reducible refine (CP.out _ hd).mono ?_); rintro e w' ⟨rfl, hd2⟩; replace hd := hd.trans hd2; clear hd2; have r1 := (hd.cell ⟨D, 1, none⟩).trans HD2.out) | (go_at_call 26; (with_reducible refine (CA.out _ hd).mono ?_); rintro e w' ⟨rfl, rfl⟩) | (go_at_call 27; (with_reducible refine (CL.out _ hd).mono ?_); rintro e w' ⟨rfl, hd2⟩; replace hd := hd.trans hd2; clear hd2; have r1 := (hd.cell ⟨D, 1, none⟩).trans HD2.out) | (go_at_call 28; (with_reducible refine (CE.out _ hd).mono ?_); rintro e w' ⟨rfl, hd2⟩; replace hd := hd.trans hd2; clear hd2; have r1 := (hd.cell ⟨D, 1, none⟩).trans HD2.out))
            go_roundw
            case rel => exact ⟨k, n + 1, hk2, HL1.out, hlt2, rfl, by go_num, hd.cur HC2.out, HB2.out.trans (hd.below _)⟩
            case measure => simp [intOf]; omega
    · as_aux_lemma =>
      have hex : ¬ n < l.length ∨ ¬ n < 60 := by omega
      have HR := Lib.hid (fun (w1 : World) (h1 : Drew wr w1) => Rest_gives g t k w1 (h1.cur HC.out) hk hm)
      rcases hex with hex | hex
      · have hex1 : l.length ≤ n := by omega
        clear hlt
        go_wp2_with fail
        go_region_with (first | (go_at_call 29; refine (HR.out _ (Drew.refl _).drew).mono ?_; rintro e w1 ⟨rfl, hm1⟩; have HM1 := Lib.hid hm1; clear hm1) | (go_at_call 28; refine (End_any g t t.size _ HM1.out.1 (Nat.le_refl _) hm).mono ?_; rintro e w2 ⟨rfl, hd2⟩; have HD3 := Lib.hid hd2; clear hd2; rw [decide_eq_true rfl]) | (go_at_call 13; refine (lives02_any _).mono ?_; rintro e w3 ⟨rfl, hb3⟩))
        go_wp2_with fail
        go_ret
        exact ⟨rfl, by rw [HG.out]; exact (HB.out.trans (((Below.refl _ _).drew.trans (HM1.out.2.below (Nat.le_refl _) (by have := HC.out.lt; simp; omega))).trans ((HD3.out.below _).trans (hb3.mono (by have h1 := HM1.out.1.lt; have h2 := (HD3.out.below 0).size; omega)))))⟩
      · by_cases hex2 : n < l.length
        · have hex3 : 60 ≤ n := by omega
          clear hlt
          go_wp2_with fail
          go_region_with (first | (go_at_call 29; refine (HR.out _ (Drew.refl _).drew).mono ?_; rintro e w1 ⟨rfl, hm1⟩; have HM1 := Lib.hid hm1; clear hm1) | (go_at_call 28; refine (End_any g t t.size _ HM1.out.1 (Nat.le_refl _) hm).mono ?_; rintro e w2 ⟨rfl, hd2⟩; have HD3 := Lib.hid hd2; clear hd2; rw [decide_eq_true rfl]) | (go_at_call 13; refine (lives02_any _).mono ?_; rintro e w3 ⟨rfl, hb3⟩))
          go_wp2_with fail
          go_ret
          exact ⟨rfl, by rw [HG.out]; exact (HB.out.trans (((Below.refl _ _).drew.trans (HM1.out.2.below (Nat.le_refl _) (by have := HC.out.lt; simp; omega))).trans ((HD3.out.below _).trans (hb3.mono (by have h1 := HM1.out.1.lt; have h2 := (HD3.out.below 0).size; omega)))))⟩
        · have hex1 : l.length ≤ n := by omega
          clear hlt
          go_wp2_with fail
          go_region_with (first | (go_at_call 29; refine (HR.out _ (Drew.refl _).drew).mono ?_; rintro e w1 ⟨rfl, hm1⟩; have HM1 := Lib.hid hm1; clear hm1) | (go_at_call 28; refine (End_any g t t.size _ HM1.out.1 (Nat.le_refl _) hm).mono ?_; rintro e w2 ⟨rfl, hd2⟩; have HD3 := Lib.hid hd2; clear hd2; rw [decide_eq_true rfl]) | (go_at_call 13; refine (lives02_any _).mono ?_; rintro e w3 ⟨rfl, hb3⟩))
          go_wp2_with fail
          go_ret
          exact ⟨rfl, by rw [HG.out]; exact (HB.out.trans (((Below.refl _ _).drew.trans (HM1.out.2.below (Nat.le_refl _) (by have := HC.out.lt; simp; omega))).trans ((HD3.out.below _).trans (hb3.mono (by have h1 := HM1.out.1.lt; have h2 := (HD3.out.below 0).size; omega)))))⟩

end Go.Proofs.Ythmiadbeiggmlaa
