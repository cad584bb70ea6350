/-
  The card RangesWrites: for every range and every part the law returns true. No condition beside the library's tables, which the card ties to the program's text.
-/
import Derived.Test.YtjlemghmpnkncaaDoorLawRangesWrites
import Derived.Test.YtjlemghmpnkncaaDoorPowG
import Derived.Test.YtjlemghmpnkncaaDoorCards
import Derived.Test.YtjlemghmpnkncaaDoorTie
import Derived.Lib.SmallJoins
namespace Go.Proofs.YtjlemghmpnkncaaDoor
open Go.RowKit
open Go.ChangeShapes Go.WideShapes Go.ChangeAt Go.Joins
open Go.ChangeMaps (open_string shut_string)
set_option linter.unusedSimpArgs false
set_option linter.unusedVariables false

theorem pow_of_laid_rw {W : World} (h : laidMetH Tryd.prog Rows.rangesWritesRow.laid W) : Lib.TabIs Tryd.prog W "internal/strconv.uint64pow10" .u64 Lib.pow10Tab := by
  rw [MakeChecks.laidMetH_plain _ _ _ (by kernel_rfl)] at h
  exact pow_of_reads h (List.mem_cons_of_mem _ (List.mem_cons_of_mem _ (List.mem_cons_self ..)))

theorem cellsPart : Tryd.prog.cellsOf 37 = 3 := by kernel_rfl
theorem cellsRange : Tryd.prog.cellsOf 35 = 2 := by kernel_rfl

theorem rangesWrites_door (os : Os) (args : Array Value) : laidMetH Tryd.prog Rows.rangesWritesRow.laid ((World.doorLaid Tryd.prog 400 os).forCall (fun _ _ => 0) ⟨#[], args, []⟩).memory :=
  laidMetH_of_parts3 (fuel := 8) (laidMet_of_run' 8 (by kernel_rfl) (by kernel_rfl)) (by kernel_rfl) (by kernel_rfl)

set_option maxRecDepth 100000 in
theorem rangesWrites_lifted (os : Os) (started : os.Started) (H : Type) (enc : TypeId × Value → H) :
    ReturnsInHanded {} Tryd.checked os 5 .any (fun w args => (Rows.rangesWritesSpec.pre enc Tryd.prog Tryd.f5 [] false w args ∧ laidMetH Tryd.prog Rows.rangesWritesRow.laid w) ∧ sizedMet enc Tryd.prog Tryd.f5 (OpenSpec.ofChange Rows.rangesWritesSpec) false w args) (Rows.rangesWritesSpec.post enc Tryd.prog Tryd.f5 false true false false) := by
  refine returnsInHanded_of_change_and (C := Tryd.checked) (X := fun w _ => laidMetH Tryd.prog Rows.rangesWritesRow.laid w) (fun _ _ _ hh h => h.of_heap hh) own started (by kernel_rfl) Tryd.func5
    (ChangeSpec.witness_shaped (enc := enc) (C := Tryd.checked) (os := os) (X := fun w _ => laidMetH Tryd.prog Rows.rangesWritesRow.laid w) false (World.doorLaid Tryd.prog 400 os) #[.agg #[.int .i64 0, .int .i64 0], .agg #[.int .i64 0, .int .i64 0, .int .i64 0]] 8 rfl (World.shaped_of_RefB (by kernel_rfl) (by kernel_rfl)) (by kernel_rfl) (by kernel_rfl) (by kernel_rfl) (rangesWrites_door os _)) ?_
  intro W base args ds gs before hval0 hW _ _ hL _
  have hval : ∀ (j : Nat) t v, Tryd.f5.params[j]? = some t → args[j]? = some v → Value.okWide Tryd.prog W .any base t v := hval0
  have hW' := hW
  have hlt : ∀ x ∈ before, x.block < W.heap.size := fun x hx => hW'.lt x hx
  obtain ⟨p, q, hA0, hV, rfl, hfz, hnd⟩ := hW
  have hA : DataW.TrodAll enc Tryd.prog W 0 (fun _ => true) true Tryd.f5.params.toList args.toList ds p := hA0
  obtain ⟨rfl, rfl⟩ := trodVars_none hV
  rw [Tryd.params5] at hA hval
  clear hA0 hval0
  obtain ⟨v0, v1, d0, d1, p0, p1, rfl, rfl, rfl, h0, h1⟩ := trodAll_two hA
  obtain ⟨a0, a1, x0, x1, m, rfl, ex, ep, hx0, hx1⟩ := open_agg2 Tryd.underlying35 (by kernel_rfl) cellsRange (hval 0 35 v0 rfl rfl) h0
  obtain ⟨c0, c1, c2, y0, y1, y2, m2, rfl, ey, eq, hy0, hy1, hy2⟩ := open_agg3 Tryd.underlying37 (by kernel_rfl) cellsPart (hval 1 37 v1 rfl rfl) h1
  obtain ⟨rf, e0, _, _⟩ := DataW.trod_int Tryd.underlying3 hx0
  obtain ⟨rt, e1, _, _⟩ := DataW.trod_int Tryd.underlying3 hx1
  obtain ⟨f2, g0, _, _⟩ := DataW.trod_int Tryd.underlying3 hy0
  obtain ⟨t2, g1, _, _⟩ := DataW.trod_int Tryd.underlying3 hy1
  obtain ⟨s2, g2, _, _⟩ := DataW.trod_int Tryd.underlying3 hy2
  simp at e0 e1 g0 g1 g2
  subst e0 e1 g0 g1 g2
  refine (rangesWrites_walk rf rt f2 t2 s2 W (fun w' hb => pow_on (pow_of_laid_rw hL) hb)).mono fun e W' ⟨he, bel⟩ => ?_
  subst he
  exact ⟨_, rfl, law_post laidOut rfl rfl Tryd.underlying4 (of_decide_eq_true (by kernel_rfl)) hW' hlt rfl rfl rfl bel⟩

theorem rangesWrites_holds : Rows.RangesWritesSaid :=
  OpenClaim.holds_of_wide 5 Tryd.f5 rfl rfl rfl rfl rfl rfl rfl ⟨rfl, rfl, rfl, rfl, rfl⟩ rfl rfl rfl rfl rfl (by kernel_rfl) Tryd.func5 (by kernel_rfl)
    (of_decide_eq_true (by kernel_rfl)) (by unfold Func.isWrapper; first | (rw [if_pos (by decide +kernel)]; kernel_rfl) | (rw [if_neg (by decide +kernel)]; exact ⟨rfl, rfl⟩))
    (fun os started H enc _ => rangesWrites_lifted os started H enc)

theorem rangesWrites_card : Rows.RangesWritesCardSaid :=
  Claim7.holds_tied_plain_at .later [] [.data, .data, .data] true (true, "40e2d7a17c7bede6098c4b701d042cb61b673e21c7f7d143dbd7219aaea1a5b3") true
    rangesWrites_holds (fun _ h => by cases h) (by kernel_rfl) (fun _ h => by cases h) rangesWrites_row_tie rfl ⟨rfl, rfl⟩ (by kernel_rfl) rfl
    (fun f fn hf hfn => by
      obtain rfl : f = 5 := Option.some.inj ((show Tryd.prog.funcNamed "tidegate/tidegatelaw24.RangesWrites" = some 5 by kernel_rfl).symm.trans hf) |>.symm
      obtain rfl : fn = Tryd.f5 := (Option.some.inj (Tryd.func5.symm.trans hfn)).symm
      exact ⟨by kernel_rfl, fun j t ht => by
        rw [Tryd.params5] at ht
        have hm : t ∈ [35, 37] := by simpa using Array.mem_of_getElem? ht
        have hall : ([35, 37].all fun u => !Tryd.prog.wantsStandIn u) = true := by kernel_rfl
        exact (show Tryd.prog.wantsStandIn t = false by simpa using List.all_eq_true.1 hall t hm)⟩)
    (by kernel_rfl)

end Go.Proofs.YtjlemghmpnkncaaDoor
