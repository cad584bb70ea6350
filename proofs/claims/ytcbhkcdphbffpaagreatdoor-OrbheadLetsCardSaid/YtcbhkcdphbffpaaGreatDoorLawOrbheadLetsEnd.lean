/-
  The card OrbheadLets: for every request and every response the law returns true. No condition beside the library's tables, which the card ties to the program's text.
-/
import Derived.Test.YtcbhkcdphbffpaaGreatDoorLawOrbheadLets
import Derived.Test.YtcbhkcdphbffpaaGreatDoorM22
import Derived.Test.YtcbhkcdphbffpaaGreatDoorCards
import Derived.Test.YtcbhkcdphbffpaaGreatDoorTie
import Derived.Lib.SmallJoins
namespace Go.Proofs.YtcbhkcdphbffpaaGreatDoor
open Go.RowKit
open Go.ChangeShapes Go.WideShapes Go.ChangeAt Go.Joins
open Go.ChangeMaps (open_string shut_string)
set_option linter.unusedSimpArgs false
set_option linter.unusedVariables false

theorem tab_of_laid {W : World} (h : laidMetH Tryz.prog Rows.orbheadLetsRow.laid W) : Tab W := by
  rw [MakeChecks.laidMetH_plain _ _ _ (by kernel_rfl)] at h
  exact tab_of_reads h (List.mem_cons_of_mem _ (List.mem_cons_self ..))

theorem orbheadLets_door (os : Os) (args : Array Value) : laidMetH Tryz.prog Rows.orbheadLetsRow.laid ((World.doorLaid Tryz.prog 400 os).forCall (fun _ _ => 0) ⟨#[], args, []⟩).memory :=
  laidMetH_of_parts3 (fuel := 8) (laidMet_of_run' 8 (by kernel_rfl) (by kernel_rfl)) (by kernel_rfl) (by kernel_rfl)

set_option maxRecDepth 100000 in
theorem orbheadLets_lifted (os : Os) (started : os.Started) (H : Type) (enc : TypeId × Value → H) :
    ReturnsInHanded {} Tryz.checked os 4 .any (fun w args => (Rows.orbheadLetsSpec.pre enc Tryz.prog Tryz.f4 [] false w args ∧ laidMetH Tryz.prog Rows.orbheadLetsRow.laid w) ∧ sizedMet enc Tryz.prog Tryz.f4 (OpenSpec.ofChange Rows.orbheadLetsSpec) false w args) (Rows.orbheadLetsSpec.post enc Tryz.prog Tryz.f4 false true false false) := by
  refine returnsInHanded_of_change_and (C := Tryz.checked) (X := fun w _ => laidMetH Tryz.prog Rows.orbheadLetsRow.laid w) (fun _ _ _ hh h => h.of_heap hh) own started (by kernel_rfl) Tryz.func4
    (ChangeSpec.witness_shaped (enc := enc) (C := Tryz.checked) (os := os) (X := fun w _ => laidMetH Tryz.prog Rows.orbheadLetsRow.laid w) false (World.doorLaid Tryz.prog 400 os) #[.agg #[.string ByteArray.empty, .bool false, .bool false, .int .i64 0], .agg #[.int .i64 0, .slice none 0 0]] 8 rfl (World.shaped_of_RefB (by kernel_rfl) (by kernel_rfl)) (by kernel_rfl) (by kernel_rfl) (by kernel_rfl) (orbheadLets_door os _)) ?_
  intro W base args ds gs before hval0 hW _ _ hL _
  have hval : ∀ (j : Nat) t v, Tryz.f4.params[j]? = some t → args[j]? = some v → Value.okWide Tryz.prog W .any base t v := hval0
  have hW' := hW
  have hlt : ∀ x ∈ before, x.block < W.heap.size := fun x hx => hW'.lt x hx
  obtain ⟨p, q, hA0, hV, rfl, hfz, hnd⟩ := hW
  have hA : DataW.TrodAll enc Tryz.prog W 0 (fun _ => true) true Tryz.f4.params.toList args.toList ds p := hA0
  obtain ⟨rfl, rfl⟩ := trodVars_none hV
  rw [Tryz.params4] at hA hval
  clear hA0 hval0
  obtain ⟨v0, v1, d0, d1, p0, p1, rfl, rfl, rfl, h0, h1⟩ := trodAll_two hA
  obtain ⟨a0, a1, a2, a3, x0, x1, x2, x3, m, rfl, ex, ep, hx0, hx1, hx2, hx3⟩ := open_agg4 Tryz.underlying23 (by kernel_rfl) cellsAsk (hval 0 23 v0 rfl rfl) h0
  obtain ⟨c0, c1, y0, y1, n, rfl, ey, eq, hy0, hy1⟩ := open_agg2 Tryz.underlying26 (by kernel_rfl) cellsReply (hval 1 26 v1 rfl rfl) h1
  obtain ⟨u, e0, _, hu⟩ := DataW.trod_string Tryz.underlying9 hx0
  obtain ⟨x, e1, _⟩ := DataW.trod_bool Tryz.underlying4 hx1
  obtain ⟨y, e2, _⟩ := DataW.trod_bool Tryz.underlying4 hx2
  obtain ⟨md, e3, _, _⟩ := DataW.trod_int Tryz.underlying3 hx3
  obtain ⟨st, e4, _, _⟩ := DataW.trod_int Tryz.underlying3 hy0
  simp at e0 e1 e2 e3 e4
  subst e0 e1 e2 e3 e4
  obtain ⟨A, c, ps, rfl, hin, hbig, hlen⟩ := open_parsV Tryz.underlying24 Tryz.underlying54 (by kernel_rfl) rfl rfl rfl rfl (by kernel_rfl) Tryz.underlying9 hy1
  refine (orbheadLets_walk u x y md st ps A c W (tab_of_laid hL) hu hlen hbig hin).mono fun e W' ⟨he, bel⟩ => ?_
  subst he
  exact ⟨_, rfl, law_post laidOut rfl rfl Tryz.underlying4 (of_decide_eq_true (by kernel_rfl)) hW' hlt rfl rfl rfl bel⟩

theorem orbheadLets_holds : Rows.OrbheadLetsSaid :=
  OpenClaim.holds_of_wide 4 Tryz.f4 rfl rfl rfl rfl rfl rfl rfl ⟨rfl, rfl, rfl, rfl, rfl⟩ rfl rfl rfl rfl rfl (by kernel_rfl) Tryz.func4 (by kernel_rfl)
    (of_decide_eq_true (by kernel_rfl)) (by unfold Func.isWrapper; first | (rw [if_pos (by decide +kernel)]; kernel_rfl) | (rw [if_neg (by decide +kernel)]; exact ⟨rfl, rfl⟩))
    (fun os started H enc _ => orbheadLets_lifted os started H enc)

theorem orbheadLets_card : Rows.OrbheadLetsCardSaid :=
  Claim7.holds_tied_plain_at .later [] [.listed, .data] true (true, "65c4956ee63c776b09518e4cde38003b212c38e08813a932d829d019c1932f7f") true
    orbheadLets_holds (fun _ h => by cases h) (by kernel_rfl) (fun _ h => by cases h) orbheadLets_row_tie rfl ⟨rfl, rfl⟩ (by kernel_rfl) rfl
    (fun f fn hf hfn => by
      obtain rfl : f = 4 := Option.some.inj ((show Tryz.prog.funcNamed "tidegate/tidegatelaw30.OrbheadLets" = some 4 by kernel_rfl).symm.trans hf) |>.symm
      obtain rfl : fn = Tryz.f4 := (Option.some.inj (Tryz.func4.symm.trans hfn)).symm
      exact ⟨by kernel_rfl, fun j t ht => by
        rw [Tryz.params4] at ht
        have hm : t ∈ [23, 26] := by simpa using Array.mem_of_getElem? ht
        have hall : ([23, 26].all fun u => !Tryz.prog.wantsStandIn u) = true := by kernel_rfl
        exact (show Tryz.prog.wantsStandIn t = false by simpa using List.all_eq_true.1 hall t hm)⟩)
    (by kernel_rfl)

end Go.Proofs.YtcbhkcdphbffpaaGreatDoor
