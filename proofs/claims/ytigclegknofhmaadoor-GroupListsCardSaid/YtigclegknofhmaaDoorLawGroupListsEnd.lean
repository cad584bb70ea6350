/-
  The card GroupLists: for every type the law returns true. No condition beside the library's tables, which the card ties to the program's text.
-/
import Derived.Test.YtigclegknofhmaaDoorLawGroupLists
import Derived.Test.YtigclegknofhmaaDoorGroupOpen
import Derived.Test.YtigclegknofhmaaDoorCards
import Derived.Test.YtigclegknofhmaaDoorTie
import Derived.Lib.SmallJoins
namespace Go.Proofs.YtigclegknofhmaaDoor
open Go.RowKit
open Go.ChangeShapes Go.WideShapes Go.ChangeAt Go.Joins
open Go.ChangeMaps (open_string shut_string)
set_option linter.unusedSimpArgs false
set_option linter.unusedVariables false

theorem cellsMime : Tryd.prog.cellsOf 24 = 3 := by kernel_rfl
theorem cellsParam : Tryd.prog.cellsOf 38 = 2 := by kernel_rfl
theorem cellsStr : Tryd.prog.cellsOf 9 = 1 := by kernel_rfl

theorem groupLists_door (os : Os) (args : Array Value) : laidMetH Tryd.prog Rows.groupListsRow.laid ((World.doorLaid Tryd.prog 400 os).forCall (fun _ _ => 0) ⟨#[], args, []⟩).memory :=
  laidMetH_of_parts3 (fuel := 8) (laidMet_of_run' 8 (by kernel_rfl) (by kernel_rfl)) (by kernel_rfl) (by kernel_rfl)

set_option maxRecDepth 100000 in
theorem groupLists_lifted (os : Os) (started : os.Started) (H : Type) (enc : TypeId × Value → H) :
    ReturnsInHanded {} Tryd.checked os 6 .any (fun w args => (Rows.groupListsSpec.pre enc Tryd.prog Tryd.f6 [] false w args ∧ laidMetH Tryd.prog Rows.groupListsRow.laid w) ∧ sizedMet enc Tryd.prog Tryd.f6 (OpenSpec.ofChange Rows.groupListsSpec) false w args) (Rows.groupListsSpec.post enc Tryd.prog Tryd.f6 false true false false) := by
  refine returnsInHanded_of_change_and (C := Tryd.checked) (X := fun w _ => laidMetH Tryd.prog Rows.groupListsRow.laid w) (fun _ _ _ hh h => h.of_heap hh) own started (by kernel_rfl) Tryd.func6
    (ChangeSpec.witness_shaped (enc := enc) (C := Tryd.checked) (os := os) (X := fun w _ => laidMetH Tryd.prog Rows.groupListsRow.laid w) false (World.doorLaid Tryd.prog 400 os) #[.agg #[.string ByteArray.empty, .string ByteArray.empty, .slice none 0 0]] 8 rfl (World.shaped_of_RefB (by kernel_rfl) (by kernel_rfl)) (by kernel_rfl) (by kernel_rfl) (by kernel_rfl) (groupLists_door os _)) ?_
  intro W base args ds gs before hval0 hW _ _ hL _
  have hval : ∀ (j : Nat) t v, Tryd.f6.params[j]? = some t → args[j]? = some v → Value.okWide Tryd.prog W .any base t v := hval0
  have hW' := hW
  have hlt : ∀ x ∈ before, x.block < W.heap.size := fun x hx => hW'.lt x hx
  obtain ⟨p, q, hA0, hV, rfl, hfz, hnd⟩ := hW
  have hA : DataW.TrodAll enc Tryd.prog W 0 (fun _ => true) true Tryd.f6.params.toList args.toList ds p := hA0
  obtain ⟨rfl, rfl⟩ := trodVars_none hV
  rw [Tryd.params6] at hA hval
  clear hA0 hval0
  obtain ⟨v0, d0, rfl, rfl, h0⟩ := trodAll_one hA
  have ok0 := hval 0 24 v0 rfl rfl
  obtain ⟨a0, a1, a2, x0, x1, x2, mm, rfl, ex, ep, hx0, hx1, hx2⟩ := open_agg3 Tryd.underlying24 (by kernel_rfl) cellsMime ok0 h0
  obtain ⟨t, e0, _, ht⟩ := DataW.trod_string Tryd.underlying9 hx0
  obtain ⟨u, e1, _, hu⟩ := DataW.trod_string Tryd.underlying9 hx1
  simp at e0 e1
  subst e0 e1
  obtain ⟨A, c, ps, rfl, hin, hbig, hlen⟩ := open_parsV Tryd.underlying22 Tryd.underlying38 cellsParam rfl rfl rfl rfl cellsStr Tryd.underlying9 hx2
  refine (groupLists_walk ⟨t.data.toList, u.data.toList, ps⟩ A c W (tab_of_laid hL) ⟨ht, hu, hlen, hbig⟩ hin).mono fun e W' ⟨he, bel⟩ => ?_
  subst he
  exact ⟨_, rfl, law_post laidOut rfl rfl Tryd.underlying4 (of_decide_eq_true (by kernel_rfl)) hW' hlt rfl rfl rfl bel⟩

theorem groupLists_holds : Rows.GroupListsSaid :=
  OpenClaim.holds_of_wide 6 Tryd.f6 rfl rfl rfl rfl rfl rfl rfl ⟨rfl, rfl, rfl, rfl, rfl⟩ rfl rfl rfl rfl rfl (by kernel_rfl) Tryd.func6 (by kernel_rfl)
    (of_decide_eq_true (by kernel_rfl)) (by unfold Func.isWrapper; first | (rw [if_pos (by decide +kernel)]; kernel_rfl) | (rw [if_neg (by decide +kernel)]; exact ⟨rfl, rfl⟩))
    (fun os started H enc _ => groupLists_lifted os started H enc)

theorem groupLists_card : Rows.GroupListsCardSaid :=
  Claim7.holds_tied_plain_at .later [] [.listed, .data] true (true, "428a70f9129cf9e2672c5c28cba614219814fe7ea8495c1a5c27e5ec8911d98e") false
    groupLists_holds (fun _ h => by cases h) (by kernel_rfl) (fun _ h => by cases h) groupLists_row_tie rfl ⟨rfl, rfl⟩ (by kernel_rfl) rfl
    (fun f fn hf hfn => by
      obtain rfl : f = 6 := Option.some.inj ((show Tryd.prog.funcNamed "tidegate/tidegatelaw12.GroupLists" = some 6 by kernel_rfl).symm.trans hf) |>.symm
      obtain rfl : fn = Tryd.f6 := (Option.some.inj (Tryd.func6.symm.trans hfn)).symm
      exact ⟨by kernel_rfl, fun j t ht => by
        rw [Tryd.params6] at ht
        have hm : t ∈ [24] := by simpa using Array.mem_of_getElem? ht
        have hall : ([24].all fun u => !Tryd.prog.wantsStandIn u) = true := by kernel_rfl
        exact (show Tryd.prog.wantsStandIn t = false by simpa using List.all_eq_true.1 hall t hm)⟩)
    (by kernel_rfl)

end Go.Proofs.YtigclegknofhmaaDoor
