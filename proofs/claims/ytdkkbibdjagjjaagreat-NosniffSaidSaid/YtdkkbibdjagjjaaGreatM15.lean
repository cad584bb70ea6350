/-
  Lemmas of this claim, part 15: the texts LawNosniffSaid, one behind the other.
-/
import Derived.Test.YtdkkbibdjagjjaaGreatM14

namespace Go.Proofs.YtdkkbibdjagjjaaGreat
open Go.RowKit
set_option linter.unusedSimpArgs false
set_option linter.unusedVariables false

theorem fewP_big {l : Pars} (h : FewP l) : ∀ p ∈ l, (bt p.1).size ≤ maxLen ∧ (bt p.2).size ≤ maxLen := fun p hp => by
  have := h.p p hp
  rw [bt_size, bt_size]
  unfold maxLen
  omega

set_option maxHeartbeats 4000000 in
set_option maxRecDepth 20000 in
theorem nosniffSaid_walk (l : Pars) (A : Option Addr) (c : Nat) (w : World) (hlm : l.length ≤ maxLen) (hps : ∀ p ∈ l, (bt p.1).size ≤ maxLen ∧ (bt p.2).size ≤ maxLen) (hA : ParsIn w w.heap.size A l) :
    Calls Tryz.prog 5 #[.slice A l.length c] w fun e w' => e = .returned (.bool true) ∧ Below w.heap.size w w' := by
  have HFW := Lib.hid (Few22_any l 10 A c w (by decide) hlm hps hA)
  have hf := fewHs_few l
  have hid := fewHs_idem 10 l
  generalize fewHs 10 l = L at *
  have hfn := hf.n
  have HF2 : Hid (∀ (A1 : Option Addr) (c1 : Nat) (w1 : World) (h1 : ParsIn w1 w1.heap.size A1 L), Calls Tryz.prog 21 #[.slice A1 L.length c1, .int .i64 10] w1 fun e w' => ∃ A2 c2, e = .returned (.slice A2 L.length c2) ∧ ParsAt w' w'.heap.size A2 L ∧ Below w1.heap.size w1 w') := Lib.hid (fun A1 c1 w1 h1 => by
    have := Few22_any L 10 A1 c1 w1 (by decide) (by unfold maxLen; omega) (fewP_big hf) h1
    rwa [hid] at this)
  have HS1 := Lib.hid (fun (A1 : Option Addr) (c1 : Nat) (w1 : World) (h1 : ParsIn w1 w1.heap.size A1 L) => Said_any L A1 c1 w1 hf h1)
  have HS2 := Lib.hid (fun (A1 : Option Addr) (c1 : Nat) (w1 : World) (h1 : ParsIn w1 w1.heap.size A1 L) => rSaid_any L A1 c1 w1 hf h1)
  have HM1 := Lib.hid (fun (A1 : Option Addr) (c1 : Nat) (w1 : World) (h1 : ParsIn w1 w1.heap.size A1 L) => sMime_any L A1 c1 w1 hf h1)
  have HR1 := Lib.hid (fun (A1 : Option Addr) (c1 : Nat) (w1 : World) (h1 : ParsIn w1 w1.heap.size A1 L) => sRaw_any L A1 c1 w1 hf h1)
  have HR2 := Lib.hid (fun (A1 : Option Addr) (c1 : Nat) (w1 : World) (h1 : ParsIn w1 w1.heap.size A1 L) => rsRaw_any L A1 c1 w1 hf h1)
  have hsz := kindM_sizes hf
  unfold GivesSaid at HS1 HS2
  unfold GivesRaw at HR1 HR2
  unfold GivesKind at HM1
  generalize saidN L = bu at *
  generalize noSniff L = ns at *
  generalize lastB (kindL L) = S at *
  generalize anyB (kindL L) = an at *
  generalize kindM L = X at *
  obtain ⟨M, hs⟩ := X
  dsimp only at HS1 HS2 HM1 hsz
  have HSAME := Lib.hid (fun (A1 A2 : Option Addr) (c1 c2 : Nat) (w1 : World) (h1 : ParsAt w1 w1.heap.size A1 M.ps) (h2 : ParsAt w1 w1.heap.size A2 M.ps) => rSame_par M M A1 A2 c1 c2 w1 hsz hsz h1 h2)
  simp only [sameM_self] at HSAME
  unfold mimV at HSAME
  clear hlm hps hA hf hid hfn hsz
  go_enter Tryz.func5, Tryz.ntmps5
  go_wp2_with fail
  refine HFW.out.mono ?_
  rintro e w1 ⟨A1, c1, rfl, hA1, hb⟩
  have hA1 := hA1.isIn
  go_upto_region 2 with fail
  go_wp2_with fail
  refine (HF2.out A1 c1 w1 hA1).mono ?_
  rintro e w2 ⟨A2, c2, rfl, hA2, hbn⟩
  have hA2 := hA2.isIn
  have hA1 := hA1.on hbn
  have hb := hb.trans (hbn.mono hb.size)
  clear hbn
  go_wp2_with fail
  refine (HS1.out A2 c2 w2 hA2).mono ?_
  rintro e w3 ⟨A3, c3, rfl, hA3, hbn⟩
  have hA1 := hA1.on hbn
  have hb := hb.trans (hbn.mono hb.size)
  clear hbn hA2
  unfold saidV
  go_wp2_with fail
  refine (HS2.out A1 c1 w3 hA1).mono ?_
  rintro e w4 ⟨A4, c4, rfl, hA4, hbn⟩
  have hA1 := hA1.on hbn
  have hA3 := hA3.on hbn
  have hb := hb.trans (hbn.mono hb.size)
  clear hbn
  unfold saidV
  go_upto_region 3 with fail
  have hbn : Below w4.heap.size w4 ((w4.alloc (.cells #[.string (bt M.t), .string (bt M.s), .slice A3 M.ps.length c3, .bool hs, .bool ns, .bool bu] 51)).alloc (.cells #[.string (bt M.t), .string (bt M.s), .slice A4 M.ps.length c4, .bool hs, .bool ns, .bool bu] 51)) := (below_box _ _).alloc (by simp) _
  have hX : ((w4.alloc (.cells #[.string (bt M.t), .string (bt M.s), .slice A3 M.ps.length c3, .bool hs, .bool ns, .bool bu] 51)).alloc (.cells #[.string (bt M.t), .string (bt M.s), .slice A4 M.ps.length c4, .bool hs, .bool ns, .bool bu] 51)).heap[w4.heap.size]? = some (saidO M A3 c3 hs ns bu) := (Below.heap_alloc _ _ _ (by simp)).trans (heap_alloc_new w4 _)
  have hY : ((w4.alloc (.cells #[.string (bt M.t), .string (bt M.s), .slice A3 M.ps.length c3, .bool hs, .bool ns, .bool bu] 51)).alloc (.cells #[.string (bt M.t), .string (bt M.s), .slice A4 M.ps.length c4, .bool hs, .bool ns, .bool bu] 51)).heap[w4.heap.size + 1]? = some (saidO M A4 c4 hs ns bu) := by
    rw [show w4.heap.size + 1 = (w4.alloc (.cells #[.string (bt M.t), .string (bt M.s), .slice A3 M.ps.length c3, .bool hs, .bool ns, .bool bu] 51)).heap.size by simp]
    exact heap_alloc_new _ _
  replace hA1 := hA1.on hbn
  replace hA3 := hA3.on hbn
  replace hA4 := hA4.on hbn
  replace hb := hb.trans (hbn.mono hb.size)
  clear hbn HS1 HS2
  generalize (w4.alloc (.cells #[.string (bt M.t), .string (bt M.s), .slice A3 M.ps.length c3, .bool hs, .bool ns, .bool bu] 51)).alloc (.cells #[.string (bt M.t), .string (bt M.s), .slice A4 M.ps.length c4, .bool hs, .bool ns, .bool bu] 51) = W at *
  generalize w4.heap.size + 1 = gy at *
  generalize w4.heap.size = gx at *
  go_wp2_with fail
  refine (HF2.out A1 c1 W hA1).mono ?_
  rintro e w5 ⟨A5, c5, rfl, hA5, hbn⟩
  have hA5 := hA5.isIn
  replace hA1 := hA1.on hbn
  replace hA3 := hA3.on hbn
  replace hA4 := hA4.on hbn
  replace hX := (hbn.block _ (Array.getElem?_eq_some_iff.1 hX).1).trans hX
  replace hY := (hbn.block _ (Array.getElem?_eq_some_iff.1 hY).1).trans hY
  replace hb := hb.trans (hbn.mono hb.size)
  clear hbn
  go_wp2_with fail
  refine (HM1.out A5 c5 w5 hA5).mono ?_
  rintro e w6 ⟨A6, c6, rfl, hA6, hbn, -⟩
  (try unfold mimV)
  replace hA1 := hA1.on hbn
  replace hA3 := hA3.on hbn
  replace hA4 := hA4.on hbn
  replace hX := (hbn.block _ (Array.getElem?_eq_some_iff.1 hX).1).trans hX
  replace hY := (hbn.block _ (Array.getElem?_eq_some_iff.1 hY).1).trans hY
  replace hb := hb.trans (hbn.mono hb.size)
  clear hbn hA5
  have hbn := below_box w6 (.cells #[.string (bt M.t), .string (bt M.s), .slice A6 M.ps.length c6] 35)
  have hM : (w6.alloc (.cells #[.string (bt M.t), .string (bt M.s), .slice A6 M.ps.length c6] 35)).heap[w6.heap.size]? = some (mimO M A6 c6) := heap_alloc_new w6 _
  replace hA1 := hA1.on hbn
  replace hA3 := hA3.on hbn
  replace hA4 := hA4.on hbn
  replace hA6 := hA6.on hbn
  replace hX := (hbn.block _ (Array.getElem?_eq_some_iff.1 hX).1).trans hX
  replace hY := (hbn.block _ (Array.getElem?_eq_some_iff.1 hY).1).trans hY
  replace hb := hb.trans (hbn.mono hb.size)
  clear hbn HM1
  go_upto_region 4 with fail
  generalize w6.alloc (.cells #[.string (bt M.t), .string (bt M.s), .slice A6 M.ps.length c6] 35) = W6 at *
  generalize w6.heap.size = gm at *
  go_wp2_with fail
  refine (HF2.out A1 c1 W6 hA1).mono ?_
  rintro e w7 ⟨A7, c7, rfl, hA7, hbn⟩
  have hA7 := hA7.isIn
  replace hA1 := hA1.on hbn
  replace hA3 := hA3.on hbn
  replace hA4 := hA4.on hbn
  replace hA6 := hA6.on hbn
  replace hX := (hbn.block _ (Array.getElem?_eq_some_iff.1 hX).1).trans hX
  replace hY := (hbn.block _ (Array.getElem?_eq_some_iff.1 hY).1).trans hY
  replace hM := (hbn.block _ (Array.getElem?_eq_some_iff.1 hM).1).trans hM
  replace hb := hb.trans (hbn.mono hb.size)
  clear hbn
  go_wp2_with fail
  refine (HR1.out A7 c7 w7 hA7).mono ?_
  rintro e w8 ⟨rfl, hbn⟩
  replace hA1 := hA1.on hbn
  replace hA3 := hA3.on hbn
  replace hA4 := hA4.on hbn
  replace hA6 := hA6.on hbn
  replace hX := (hbn.block _ (Array.getElem?_eq_some_iff.1 hX).1).trans hX
  replace hY := (hbn.block _ (Array.getElem?_eq_some_iff.1 hY).1).trans hY
  replace hM := (hbn.block _ (Array.getElem?_eq_some_iff.1 hM).1).trans hM
  replace hb := hb.trans (hbn.mono hb.size)
  clear hbn hA7
  go_upto_region 5 with fail
  go_wp2_with fail
  refine (HR2.out A1 c1 w8 hA1).mono ?_
  rintro e w9 ⟨rfl, hbn⟩
  replace hA3 := hA3.on hbn
  replace hA4 := hA4.on hbn
  replace hA6 := hA6.on hbn
  replace hX := (hbn.block _ (Array.getElem?_eq_some_iff.1 hX).1).trans hX
  replace hY := (hbn.block _ (Array.getElem?_eq_some_iff.1 hY).1).trans hY
  replace hM := (hbn.block _ (Array.getElem?_eq_some_iff.1 hM).1).trans hM
  replace hb := hb.trans (hbn.mono hb.size)
  clear hbn hA1 HR1 HR2 HF2
  have HX := Lib.hid hX; have HY := Lib.hid hY; have HB := Lib.hid hb; have HA3 := Lib.hid hA3; have HA4 := Lib.hid hA4
  have HS6 := Lib.hid (HSAME.out A6 A4 c6 c4 w9 hA6 hA4)
  obtain ⟨x0, x1, x2, x3, x4, x5, -, xz⟩ := said_cells hX
  obtain ⟨y0, y1, y2, y3, y4, y5, -, yz⟩ := said_cells hY
  obtain ⟨m0, m1, m2, -, mz⟩ := mim_cells hM
  clear hX hY hM hb hA3 hA4 hA6
  go_upto_region 6 with fail
  go_wp2_with fail
  refine HS6.out.mono ?_
  rintro e w10 ⟨rfl, hbn⟩
  have hX := (hbn.block _ xz).trans HX.out
  have hY := (hbn.block _ yz).trans HY.out
  have HB2 := Lib.hid (HB.out.trans (hbn.mono HB.out.size))
  have HS7 := Lib.hid (HSAME.out A3 A4 c3 c4 w10 (HA3.out.on hbn) (HA4.out.on hbn))
  clear x0 x1 x2 x3 x4 x5 xz y0 y1 y2 y3 y4 y5 yz m0 m1 m2 mz hbn HX HY HB HA3 HA4 HS6 HSAME
  have HX := Lib.hid hX; have HY := Lib.hid hY
  obtain ⟨x0, x1, x2, x3, x4, x5, -, xz⟩ := said_cells hX
  obtain ⟨y0, y1, y2, y3, y4, y5, -, yz⟩ := said_cells hY
  clear hX hY
  go_wp2_with fail
  refine HS7.out.mono ?_
  rintro e w11 ⟨rfl, hbn⟩
  have HB3 := Lib.hid (HB2.out.trans (hbn.mono HB2.out.size))
  have hX := (hbn.block _ xz).trans HX.out
  have hY := (hbn.block _ yz).trans HY.out
  clear hbn x0 x1 x2 x3 x4 x5 xz y0 y1 y2 y3 y4 y5 yz
  obtain ⟨x0, x1, x2, x3, x4, x5, -, xz⟩ := said_cells hX
  obtain ⟨y0, y1, y2, y3, y4, y5, -, yz⟩ := said_cells hY
  clear hX hY
  go_wp2_with fail
  refine (lives23_any _).mono ?_
  rintro e w12 ⟨rfl, hbn⟩
  have HBZ := Lib.hid (HB3.out.trans (hbn.mono HB3.out.size))
  clear hbn
  go_wp2_with fail
  go_ret
  exact ⟨rfl, HBZ.out⟩

end Go.Proofs.YtdkkbibdjagjjaaGreat
