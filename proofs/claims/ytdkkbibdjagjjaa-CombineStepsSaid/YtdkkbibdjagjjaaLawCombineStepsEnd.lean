/-
  The statement CombineSteps: for all two types and every text the law returns true. No condition.
-/
import Derived.Test.YtdkkbibdjagjjaaM12
import Derived.Lib.SmallJoins
namespace Go.Proofs.Ytdkkbibdjagjjaa
open Go.RowKit
open Go.ChangeShapes Go.WideShapes Go.ChangeAt Go.Joins
open Go.ChangeMaps (open_string shut_string)
set_option linter.unusedSimpArgs false
set_option linter.unusedVariables false

theorem cellsMime : Try.prog.cellsOf 33 = 3 := by kernel_rfl
theorem cellsParam : Try.prog.cellsOf 52 = 2 := by kernel_rfl
theorem cellsStr : Try.prog.cellsOf 9 = 1 := by kernel_rfl

set_option maxRecDepth 100000 in
theorem combineSteps_lifted (os : Os) (started : os.Started) (H : Type) (enc : TypeId × Value → H) :
    ReturnsInHanded {} Try.checked os 4 .any (Rows.combineStepsSpec.pre6 enc Try.prog Try.f4 Rows.combineStepsRow.domain false) (Rows.combineStepsSpec.post enc Try.prog Try.f4 false true false false) := by
  refine returnsInHanded_of_change (C := Try.checked) own started (by kernel_rfl) Try.func4
    (ChangeSpec.witness6 (enc := enc) (C := Try.checked) false ⟨#[], #[.agg #[.string ByteArray.empty, .string ByteArray.empty, .slice none 0 0], .agg #[.string ByteArray.empty, .string ByteArray.empty, .slice none 0 0], .string ByteArray.empty], []⟩ 8 (by kernel_rfl) (by kernel_rfl) (by kernel_rfl) (by kernel_rfl)) ?_
  intro W base args ds gs before hval0 hW hcnd _
  have hval : ∀ (j : Nat) t v, Try.f4.params[j]? = some t → args[j]? = some v → Value.okWide Try.prog W .any base t v := hval0
  have hW' := hW
  have hlt : ∀ x ∈ before, x.block < W.heap.size := fun x hx => hW'.lt x hx
  obtain ⟨p, q, hA0, hV, rfl, hfz, hnd⟩ := hW
  have hA : DataW.TrodAll enc Try.prog W 0 (fun _ => true) true Try.f4.params.toList args.toList ds p := hA0
  obtain ⟨rfl, rfl⟩ := trodVars_none hV
  rw [Try.params4] at hA hval
  clear hA0 hval0
  obtain ⟨v0, v1, v2, d0, d1, d2, p0, p1, p2, rfl, rfl, rfl, h0, h1, h2⟩ := trodAll_three hA
  have ok0 := hval 0 33 v0 rfl rfl
  have ok1 := hval 1 33 v1 rfl rfl
  obtain ⟨st, rfl, rfl, rfl, hst⟩ := open_string Try.underlying9 (hval 2 9 v2 rfl rfl) h2
  obtain ⟨a0, a1, a2, x0, x1, x2, mm, rfl, ex, ep, hx0, hx1, hx2⟩ := open_agg3 Try.underlying33 (by kernel_rfl) cellsMime ok0 h0
  obtain ⟨b0, b1, b2, y0, y1, y2, nn, rfl, ey, eq, hy0, hy1, hy2⟩ := open_agg3 Try.underlying33 (by kernel_rfl) cellsMime ok1 h1
  obtain ⟨t, e0, _, ht⟩ := DataW.trod_string Try.underlying9 hx0
  obtain ⟨u, e1, _, hu⟩ := DataW.trod_string Try.underlying9 hx1
  obtain ⟨t2, e2, _, ht2⟩ := DataW.trod_string Try.underlying9 hy0
  obtain ⟨u2, e3, _, hu2⟩ := DataW.trod_string Try.underlying9 hy1
  simp at e0 e1 e2 e3
  subst e0 e1 e2 e3
  obtain ⟨A, c, ps, rfl, hin, hbig, hlen⟩ := open_parsV Try.underlying31 Try.underlying52 cellsParam rfl rfl rfl rfl cellsStr Try.underlying9 hx2
  obtain ⟨A2, c2, ps2, rfl, hin2, hbig2, hlen2⟩ := open_parsV Try.underlying31 Try.underlying52 cellsParam rfl rfl rfl rfl cellsStr Try.underlying9 hy2
  refine (combineSteps_walk ⟨t.data.toList, u.data.toList, ps⟩ ⟨t2.data.toList, u2.data.toList, ps2⟩ A A2 c c2 st.data.toList W ⟨ht, hu, hlen, hbig⟩ ⟨ht2, hu2, hlen2, hbig2⟩ hst hin hin2).mono fun e W' ⟨he, bel⟩ => ?_
  subst he
  exact ⟨_, rfl, law_post laidOut rfl rfl Try.underlying4 (of_decide_eq_true (by kernel_rfl)) hW' hlt rfl rfl rfl bel⟩

theorem combineSteps_holds : Rows.CombineStepsSaid :=
  OpenClaim.holds_of_wide 4 Try.f4 rfl rfl rfl rfl rfl rfl rfl ⟨rfl, rfl, rfl, rfl, rfl⟩ rfl rfl rfl rfl rfl (by kernel_rfl) Try.func4 (by kernel_rfl)
    (of_decide_eq_true (by kernel_rfl)) (by unfold Func.isWrapper; first | (rw [if_pos (by decide +kernel)]; kernel_rfl) | (rw [if_neg (by decide +kernel)]; exact ⟨rfl, rfl⟩))
    (fun os started H enc _ => combineSteps_lifted os started H enc)

end Go.Proofs.Ytdkkbibdjagjjaa
