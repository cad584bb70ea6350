/-
  The statement MimeParams: for every type and all two texts the law returns true. No condition.
-/
import Derived.Test.YtigclegknofhmaaLawMimeParams
import Derived.Test.YtigclegknofhmaaMimeOpen
import Derived.Lib.SmallJoins
namespace Go.Proofs.Ytigclegknofhmaa
open Go.RowKit
open Go.ChangeShapes Go.WideShapes Go.ChangeAt Go.Joins
open Go.ChangeMaps (open_string shut_string)
set_option linter.unusedSimpArgs false
set_option linter.unusedVariables false

theorem cellsMime : Try.prog.cellsOf 48 = 3 := by kernel_rfl
theorem cellsParam : Try.prog.cellsOf 54 = 2 := by kernel_rfl
theorem cellsStr : Try.prog.cellsOf 9 = 1 := by kernel_rfl

set_option maxRecDepth 100000 in
theorem mimeParams_lifted (os : Os) (started : os.Started) (H : Type) (enc : TypeId × Value → H) :
    ReturnsInHanded {} Try.checked os 5 .any (Rows.mimeParamsSpec.pre6 enc Try.prog Try.f5 Rows.mimeParamsRow.domain false) (Rows.mimeParamsSpec.post enc Try.prog Try.f5 false true false false) := by
  refine returnsInHanded_of_change (C := Try.checked) own started (by kernel_rfl) Try.func5
    (ChangeSpec.witness6 (enc := enc) (C := Try.checked) false ⟨#[], #[.agg #[.string ByteArray.empty, .string ByteArray.empty, .slice none 0 0], .string ByteArray.empty, .string ByteArray.empty], []⟩ 8 (by kernel_rfl) (by kernel_rfl) (by kernel_rfl) (by kernel_rfl)) ?_
  intro W base args ds gs before hval0 hW hcnd _
  have hval : ∀ (j : Nat) t v, Try.f5.params[j]? = some t → args[j]? = some v → Value.okWide Try.prog W .any base t v := hval0
  have hW' := hW
  have hlt : ∀ x ∈ before, x.block < W.heap.size := fun x hx => hW'.lt x hx
  obtain ⟨p, q, hA0, hV, rfl, hfz, hnd⟩ := hW
  have hA : DataW.TrodAll enc Try.prog W 0 (fun _ => true) true Try.f5.params.toList args.toList ds p := hA0
  obtain ⟨rfl, rfl⟩ := trodVars_none hV
  rw [Try.params5] at hA hval
  clear hA0 hval0
  obtain ⟨v0, v1, v2, d0, d1, d2, p0, p1, p2, rfl, rfl, rfl, h0, h1, h2⟩ := trodAll_three hA
  have ok0 := hval 0 48 v0 rfl rfl
  obtain ⟨nm, rfl, rfl, rfl, hn⟩ := open_string Try.underlying9 (hval 1 9 v1 rfl rfl) h1
  obtain ⟨vl, rfl, rfl, rfl, hv⟩ := open_string Try.underlying9 (hval 2 9 v2 rfl rfl) h2
  obtain ⟨a0, a1, a2, x0, x1, x2, mm, rfl, ex, ep, hx0, hx1, hx2⟩ := open_agg3 Try.underlying48 (by kernel_rfl) cellsMime ok0 h0
  obtain ⟨t, e0, _, ht⟩ := DataW.trod_string Try.underlying9 hx0
  obtain ⟨u, e1, _, hu⟩ := DataW.trod_string Try.underlying9 hx1
  simp at e0 e1
  subst e0 e1
  obtain ⟨A, c, ps, rfl, hin, hbig, hlen⟩ := open_parsV Try.underlying46 Try.underlying54 cellsParam rfl rfl rfl rfl cellsStr Try.underlying9 hx2
  refine (mimeParams_walk ⟨t.data.toList, u.data.toList, ps⟩ A c nm vl W ⟨ht, hu, hlen, hbig⟩ hn hv hin).mono fun e W' ⟨he, bel⟩ => ?_
  subst he
  exact ⟨_, rfl, law_post laidOut rfl rfl Try.underlying4 (of_decide_eq_true (by kernel_rfl)) hW' hlt rfl rfl rfl bel⟩

theorem mimeParams_holds : Rows.MimeParamsSaid :=
  OpenClaim.holds_of_wide 5 Try.f5 rfl rfl rfl rfl rfl rfl rfl ⟨rfl, rfl, rfl, rfl, rfl⟩ rfl rfl rfl rfl rfl (by kernel_rfl) Try.func5 (by kernel_rfl)
    (of_decide_eq_true (by kernel_rfl)) (by unfold Func.isWrapper; first | (rw [if_pos (by decide +kernel)]; kernel_rfl) | (rw [if_neg (by decide +kernel)]; exact ⟨rfl, rfl⟩))
    (fun os started H enc _ => mimeParams_lifted os started H enc)

end Go.Proofs.Ytigclegknofhmaa
