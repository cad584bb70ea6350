/-
  The statement RangesFits: for every range and every part the law returns true. No condition.
-/
import Derived.Test.YtjlemghmpnkncaaLawRangesFits
import Derived.Lib.SmallJoins
namespace Go.Proofs.Ytjlemghmpnkncaa
open Go.RowKit
open Go.ChangeShapes Go.WideShapes Go.ChangeAt Go.Joins
open Go.ChangeMaps (open_string shut_string)
set_option linter.unusedSimpArgs false
set_option linter.unusedVariables false

theorem cellsPart : Try.prog.cellsOf 45 = 3 := by kernel_rfl
theorem cellsRange : Try.prog.cellsOf 43 = 2 := by kernel_rfl

set_option maxRecDepth 100000 in
theorem rangesFits_lifted (os : Os) (started : os.Started) (H : Type) (enc : TypeId × Value → H) :
    ReturnsInHanded {} Try.checked os 5 .any (Rows.rangesFitsSpec.pre6 enc Try.prog Try.f5 Rows.rangesFitsRow.domain false) (Rows.rangesFitsSpec.post enc Try.prog Try.f5 false true false false) := by
  refine returnsInHanded_of_change (C := Try.checked) own started (by kernel_rfl) Try.func5
    (ChangeSpec.witness6 (enc := enc) (C := Try.checked) false ⟨#[], #[.agg #[.int .i64 0, .int .i64 0], .agg #[.int .i64 0, .int .i64 0, .int .i64 0]], []⟩ 8 (by kernel_rfl) (by kernel_rfl) (by kernel_rfl) (by kernel_rfl)) ?_
  intro W base args ds gs before hval0 hW hcnd _
  have hval : ∀ (j : Nat) t v, Try.f5.params[j]? = some t → args[j]? = some v → Value.okWide Try.prog W .any base t v := hval0
  have hW' := hW
  have hlt : ∀ x ∈ before, x.block < W.heap.size := fun x hx => hW'.lt x hx
  obtain ⟨p, q, hA0, hV, rfl, hfz, hnd⟩ := hW
  have hA : DataW.TrodAll enc Try.prog W 0 (fun _ => true) true Try.f5.params.toList args.toList ds p := hA0
  obtain ⟨rfl, rfl⟩ := trodVars_none hV
  rw [Try.params5] at hA hval
  clear hA0 hval0
  obtain ⟨v0, v1, d0, d1, p0, p1, rfl, rfl, rfl, h0, h1⟩ := trodAll_two hA
  obtain ⟨a0, a1, x0, x1, m, rfl, ex, ep, hx0, hx1⟩ := open_agg2 Try.underlying43 (by kernel_rfl) cellsRange (hval 0 43 v0 rfl rfl) h0
  obtain ⟨c0, c1, c2, y0, y1, y2, m2, rfl, ey, eq, hy0, hy1, hy2⟩ := open_agg3 Try.underlying45 (by kernel_rfl) cellsPart (hval 1 45 v1 rfl rfl) h1
  obtain ⟨rf, e0, _, _⟩ := DataW.trod_int Try.underlying3 hx0
  obtain ⟨rt, e1, _, _⟩ := DataW.trod_int Try.underlying3 hx1
  obtain ⟨f2, g0, _, _⟩ := DataW.trod_int Try.underlying3 hy0
  obtain ⟨t2, g1, _, _⟩ := DataW.trod_int Try.underlying3 hy1
  obtain ⟨s2, g2, _, _⟩ := DataW.trod_int Try.underlying3 hy2
  simp at e0 e1 g0 g1 g2
  subst e0 e1 g0 g1 g2
  refine (rangesFits_walk rf rt f2 t2 s2 W).mono fun e W' ⟨he, bel⟩ => ?_
  subst he
  exact ⟨_, rfl, law_post laidOut rfl rfl Try.underlying4 (of_decide_eq_true (by kernel_rfl)) hW' hlt rfl rfl rfl bel⟩

theorem rangesFits_holds : Rows.RangesFitsSaid :=
  OpenClaim.holds_of_wide 5 Try.f5 rfl rfl rfl rfl rfl rfl rfl ⟨rfl, rfl, rfl, rfl, rfl⟩ rfl rfl rfl rfl rfl (by kernel_rfl) Try.func5 (by kernel_rfl)
    (of_decide_eq_true (by kernel_rfl)) (by unfold Func.isWrapper; first | (rw [if_pos (by decide +kernel)]; kernel_rfl) | (rw [if_neg (by decide +kernel)]; exact ⟨rfl, rfl⟩))
    (fun os started H enc _ => rangesFits_lifted os started H enc)

end Go.Proofs.Ytjlemghmpnkncaa
