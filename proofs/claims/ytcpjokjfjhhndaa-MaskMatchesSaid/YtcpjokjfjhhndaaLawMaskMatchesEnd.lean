/-
  The statement MaskMatches: for every text, every pattern and every text behind the law returns true. No condition.
-/
import Derived.Test.YtcpjokjfjhhndaaLawMaskMatches
import Derived.Lib.SmallJoins
namespace Go.Proofs.Ytcpjokjfjhhndaa
open Go.RowKit
open Go.ChangeShapes Go.WideShapes Go.ChangeAt Go.Joins
open Go.ChangeMaps (open_string shut_string)
set_option linter.unusedSimpArgs false
set_option linter.unusedVariables false

theorem cellsPat : Try.prog.cellsOf 25 = 4 := by kernel_rfl

set_option maxRecDepth 100000 in
theorem maskMatches_lifted (os : Os) (started : os.Started) (H : Type) (enc : TypeId × Value → H) :
    ReturnsInHanded {} Try.checked os 4 .any (Rows.maskMatchesSpec.pre6 enc Try.prog Try.f4 Rows.maskMatchesRow.domain false) (Rows.maskMatchesSpec.post enc Try.prog Try.f4 false true false false) := by
  refine returnsInHanded_of_change (C := Try.checked) own started (by kernel_rfl) Try.func4
    (ChangeSpec.witness6 (enc := enc) (C := Try.checked) false ⟨#[], #[.string ByteArray.empty, .agg #[.string ByteArray.empty, .string ByteArray.empty, .string ByteArray.empty, .string ByteArray.empty], .string ByteArray.empty], []⟩ 8 (by kernel_rfl) (by kernel_rfl) (by kernel_rfl) (by kernel_rfl)) ?_
  intro W base args ds gs before hval0 hW hcnd _
  have hval : ∀ (j : Nat) t v, Try.f4.params[j]? = some t → args[j]? = some v → Value.okWide Try.prog W .any base t v := hval0
  have hW' := hW
  have hlt : ∀ x ∈ before, x.block < W.heap.size := fun x hx => hW'.lt x hx
  obtain ⟨p, q, hA0, hV, rfl, hfz, hnd⟩ := hW
  have hA : DataW.TrodAll enc Try.prog W 0 (fun _ => true) true Try.f4.params.toList args.toList ds p := hA0
  obtain ⟨rfl, rfl⟩ := trodVars_none hV
  rw [Try.params4] at hA hval
  clear hA0 hval0
  obtain ⟨v0, v1, v2, d0, d1, d2, p0, p1, p2, rfl, rfl, rfl, h0, h1, h2⟩ := trodAll_three hA
  obtain ⟨s, rfl, rfl, rfl, hs⟩ := open_string Try.underlying9 (hval 0 9 v0 rfl rfl) h0
  obtain ⟨more, rfl, rfl, rfl, hmo⟩ := open_string Try.underlying9 (hval 2 9 v2 rfl rfl) h2
  have hok := hval 1 25 v1 rfl rfl
  obtain ⟨a0, a1, a2, a3, x0, x1, x2, x3, mm, rfl, ex, ep, hx0, hx1, hx2, hx3⟩ := open_agg4 Try.underlying25 (by kernel_rfl) cellsPat hok h1
  obtain ⟨b, e0, _, hb⟩ := DataW.trod_string Try.underlying9 hx0
  obtain ⟨m, e1, _, hm⟩ := DataW.trod_string Try.underlying9 hx1
  obtain ⟨k, e2, _, hk⟩ := DataW.trod_string Try.underlying9 hx2
  obtain ⟨t, e3, _, ht⟩ := DataW.trod_string Try.underlying9 hx3
  simp at e0 e1 e2 e3
  subst e0 e1 e2 e3
  refine (maskMatches_walk s b m k t more W hs hb hm hk ht hmo).mono fun e W' ⟨he, bel⟩ => ?_
  subst he
  exact ⟨_, rfl, law_post laidOut rfl rfl Try.underlying4 (of_decide_eq_true (by kernel_rfl)) hW' hlt rfl rfl rfl bel⟩

theorem maskMatches_holds : Rows.MaskMatchesSaid :=
  OpenClaim.holds_of_wide 4 Try.f4 rfl rfl rfl rfl rfl rfl rfl ⟨rfl, rfl, rfl, rfl, rfl⟩ rfl rfl rfl rfl rfl (by kernel_rfl) Try.func4 (by kernel_rfl)
    (of_decide_eq_true (by kernel_rfl)) (by unfold Func.isWrapper; first | (rw [if_pos (by decide +kernel)]; kernel_rfl) | (rw [if_neg (by decide +kernel)]; exact ⟨rfl, rfl⟩))
    (fun os started H enc _ => maskMatches_lifted os started H enc)

end Go.Proofs.Ytcpjokjfjhhndaa
