/-
  The statement PartialNext: for every two parts the law returns true. No condition.
-/
import Derived.Test.YtgdhemhapfpkiaaLawPartialNext
import Derived.Lib.SmallJoins
namespace Go.Proofs.Ytgdhemhapfpkiaa
open Go.RowKit
open Go.ChangeShapes Go.WideShapes Go.ChangeAt Go.Joins
set_option linter.unusedSimpArgs false
set_option linter.unusedVariables false

theorem partialNext_walk (f t s f2 t2 s2 : Int) (w : World) :
    Calls Try.prog 13 #[.agg #[.int .i64 f, .int .i64 t, .int .i64 s], .agg #[.int .i64 f2, .int .i64 t2, .int .i64 s2]] w fun e w' => e = .returned (.bool true) ∧ Below w.heap.size w w' := by
  cases h : saysP f t s
  · exact partialNext_no f t s f2 t2 s2 w h
  · exact partialNext_yes f t s f2 t2 s2 w h

theorem cellsPart : Try.prog.cellsOf 60 = 3 := by kernel_rfl

set_option maxRecDepth 100000 in
theorem partialNext_lifted (os : Os) (started : os.Started) (H : Type) (enc : TypeId × Value → H) :
    ReturnsInHanded {} Try.checked os 13 .any (Rows.partialNextSpec.pre6 enc Try.prog Try.f13 Rows.partialNextRow.domain false) (Rows.partialNextSpec.post enc Try.prog Try.f13 false true false false) := by
  refine returnsInHanded_of_change (C := Try.checked) own started (by kernel_rfl) Try.func13
    (ChangeSpec.witness6 (enc := enc) (C := Try.checked) false ⟨#[], #[.agg #[.int .i64 0, .int .i64 0, .int .i64 0], .agg #[.int .i64 0, .int .i64 0, .int .i64 0]], []⟩ 8 (by kernel_rfl) (by kernel_rfl) (by kernel_rfl) (by kernel_rfl)) ?_
  intro W base args ds gs before hval0 hW hcnd _
  have hval : ∀ (j : Nat) t v, Try.f13.params[j]? = some t → args[j]? = some v → Value.okWide Try.prog W .any base t v := hval0
  have hW' := hW
  have hlt : ∀ x ∈ before, x.block < W.heap.size := fun x hx => hW'.lt x hx
  obtain ⟨p, q, hA0, hV, rfl, hfz, hnd⟩ := hW
  have hA : DataW.TrodAll enc Try.prog W 0 (fun _ => true) true Try.f13.params.toList args.toList ds p := hA0
  obtain ⟨rfl, rfl⟩ := trodVars_none hV
  rw [Try.params13] at hA hval
  clear hA0 hval0
  obtain ⟨v0, v1, d0, d1, p0, p1, rfl, rfl, rfl, h0, h1⟩ := trodAll_two hA
  obtain ⟨a0, a1, a2, x0, x1, x2, m, rfl, ex, ep, hx0, hx1, hx2⟩ := open_agg3 Try.underlying60 (by kernel_rfl) cellsPart (hval 0 60 v0 rfl rfl) h0
  obtain ⟨c0, c1, c2, y0, y1, y2, m2, rfl, ey, eq, hy0, hy1, hy2⟩ := open_agg3 Try.underlying60 (by kernel_rfl) cellsPart (hval 1 60 v1 rfl rfl) h1
  obtain ⟨f, e0, _, _⟩ := DataW.trod_int Try.underlying3 hx0
  obtain ⟨t, e1, _, _⟩ := DataW.trod_int Try.underlying3 hx1
  obtain ⟨s, e2, _, _⟩ := DataW.trod_int Try.underlying3 hx2
  obtain ⟨f2, g0, _, _⟩ := DataW.trod_int Try.underlying3 hy0
  obtain ⟨t2, g1, _, _⟩ := DataW.trod_int Try.underlying3 hy1
  obtain ⟨s2, g2, _, _⟩ := DataW.trod_int Try.underlying3 hy2
  simp at e0 e1 e2 g0 g1 g2
  subst e0 e1 e2 g0 g1 g2
  refine (partialNext_walk f t s f2 t2 s2 W).mono fun e W' ⟨he, bel⟩ => ?_
  subst he
  exact ⟨_, rfl, law_post laidOut rfl rfl Try.underlying4 (of_decide_eq_true (by kernel_rfl)) hW' hlt rfl rfl rfl bel⟩

theorem partialNext_holds : Rows.PartialNextSaid :=
  OpenClaim.holds_of_wide 13 Try.f13 rfl rfl rfl rfl rfl rfl rfl ⟨rfl, rfl, rfl, rfl, rfl⟩ rfl rfl rfl rfl rfl (by kernel_rfl) Try.func13 (by kernel_rfl)
    (of_decide_eq_true (by kernel_rfl)) (by unfold Func.isWrapper; first | (rw [if_pos (by decide +kernel)]; kernel_rfl) | (rw [if_neg (by decide +kernel)]; exact ⟨rfl, rfl⟩))
    (fun os started H enc _ => partialNext_lifted os started H enc)

end Go.Proofs.Ytgdhemhapfpkiaa
