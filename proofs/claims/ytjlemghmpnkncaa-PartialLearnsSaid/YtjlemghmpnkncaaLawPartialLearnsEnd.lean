/-
  The statement PartialLearns: for every request, every judgement and every number the law returns true. No condition.
-/
import Derived.Test.YtjlemghmpnkncaaLawPartialLearns
import Derived.Lib.SmallJoins
namespace Go.Proofs.Ytjlemghmpnkncaa
open Go.RowKit
open Go.ChangeShapes Go.WideShapes Go.ChangeAt Go.Joins
open Go.ChangeMaps (open_string shut_string)
set_option linter.unusedSimpArgs false
set_option linter.unusedVariables false

theorem cellsAsk : Try.prog.cellsOf 23 = 4 := by kernel_rfl
theorem cellsJudged : Try.prog.cellsOf 25 = 4 := by kernel_rfl

set_option maxRecDepth 100000 in
theorem partialLearns_lifted (os : Os) (started : os.Started) (H : Type) (enc : TypeId × Value → H) :
    ReturnsInHanded {} Try.checked os 3 .any (Rows.partialLearnsSpec.pre6 enc Try.prog Try.f3 Rows.partialLearnsRow.domain false) (Rows.partialLearnsSpec.post enc Try.prog Try.f3 false true false false) := by
  refine returnsInHanded_of_change (C := Try.checked) own started (by kernel_rfl) Try.func3
    (ChangeSpec.witness6 (enc := enc) (C := Try.checked) false ⟨#[], #[.agg #[.string ByteArray.empty, .bool false, .bool false, .int .i64 0], .agg #[.int .i64 0, .string ByteArray.empty, .int .i64 0, .bool false], .int .u8 0], []⟩ 8 (by kernel_rfl) (by kernel_rfl) (by kernel_rfl) (by kernel_rfl)) ?_
  intro W base args ds gs before hval0 hW hcnd _
  have hval : ∀ (j : Nat) t v, Try.f3.params[j]? = some t → args[j]? = some v → Value.okWide Try.prog W .any base t v := hval0
  have hW' := hW
  have hlt : ∀ x ∈ before, x.block < W.heap.size := fun x hx => hW'.lt x hx
  obtain ⟨p, q, hA0, hV, rfl, hfz, hnd⟩ := hW
  have hA : DataW.TrodAll enc Try.prog W 0 (fun _ => true) true Try.f3.params.toList args.toList ds p := hA0
  obtain ⟨rfl, rfl⟩ := trodVars_none hV
  rw [Try.params3] at hA hval
  clear hA0 hval0
  obtain ⟨v0, v1, v2, d0, d1, d2, p0, p1, p2, rfl, rfl, rfl, h0, h1, h2⟩ := trodAll_three hA
  obtain ⟨b2, rfl, rfl, rfl, wb2⟩ := open_int Try.underlying5 (hval 2 5 v2 rfl rfl) h2
  obtain ⟨most, rfl⟩ := byte_of_wf wb2
  have ok0 := hval 0 23 v0 rfl rfl
  have ok1 := hval 1 25 v1 rfl rfl
  obtain ⟨a0, a1, a2, a3, x0, x1, x2, x3, m, rfl, ex, ep, hx0, hx1, hx2, hx3⟩ := open_agg4 Try.underlying23 (by kernel_rfl) cellsAsk ok0 h0
  obtain ⟨c0, c1, c2, c3, y0, y1, y2, y3, n, rfl, ey, eq, hy0, hy1, hy2, hy3⟩ := open_agg4 Try.underlying25 (by kernel_rfl) cellsJudged ok1 h1
  obtain ⟨u, e0, _, hu⟩ := DataW.trod_string Try.underlying9 hx0
  obtain ⟨x, e1, _⟩ := DataW.trod_bool Try.underlying4 hx1
  obtain ⟨y, e2, _⟩ := DataW.trod_bool Try.underlying4 hx2
  obtain ⟨md, e3, _, _⟩ := DataW.trod_int Try.underlying3 hx3
  obtain ⟨vd, e4, _, _⟩ := DataW.trod_int Try.underlying3 hy0
  obtain ⟨rs, e5, _, _⟩ := DataW.trod_string Try.underlying9 hy1
  obtain ⟨at_, e6, _, _⟩ := DataW.trod_int Try.underlying3 hy2
  obtain ⟨media, e7, _⟩ := DataW.trod_bool Try.underlying4 hy3
  simp at e0 e1 e2 e3 e4 e5 e6 e7
  subst e0 e1 e2 e3 e4 e5 e6 e7
  refine (partialLearns_walk u x y md vd rs at_ media most W hu).mono fun e W' ⟨he, bel⟩ => ?_
  subst he
  exact ⟨_, rfl, law_post laidOut rfl rfl Try.underlying4 (of_decide_eq_true (by kernel_rfl)) hW' hlt rfl rfl rfl bel⟩

theorem partialLearns_holds : Rows.PartialLearnsSaid :=
  OpenClaim.holds_of_wide 3 Try.f3 rfl rfl rfl rfl rfl rfl rfl ⟨rfl, rfl, rfl, rfl, rfl⟩ rfl rfl rfl rfl rfl (by kernel_rfl) Try.func3 (by kernel_rfl)
    (of_decide_eq_true (by kernel_rfl)) (by unfold Func.isWrapper; first | (rw [if_pos (by decide +kernel)]; kernel_rfl) | (rw [if_neg (by decide +kernel)]; exact ⟨rfl, rfl⟩))
    (fun os started H enc _ => partialLearns_lifted os started H enc)

end Go.Proofs.Ytjlemghmpnkncaa
