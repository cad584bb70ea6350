/-
  The statement TrapAll: for every three deeds the law returns true. No condition.
-/
import Derived.Test.YtgdhemhapfpkiaaLawTrapAll
import Derived.Lib.SmallJoins
namespace Go.Proofs.Ytgdhemhapfpkiaa
open Go.RowKit
open Go.ChangeShapes Go.WideShapes Go.ChangeAt Go.Joins
set_option linter.unusedSimpArgs false
set_option linter.unusedVariables false

theorem cellsDeed : Try.prog.cellsOf 24 = 4 := by kernel_rfl

set_option maxRecDepth 100000 in
theorem trapAll_lifted (os : Os) (started : os.Started) (H : Type) (enc : TypeId × Value → H) :
    ReturnsInHanded {} Try.checked os 4 .any (Rows.trapAllSpec.pre6 enc Try.prog Try.f4 Rows.trapAllRow.domain false) (Rows.trapAllSpec.post enc Try.prog Try.f4 false true false false) := by
  refine returnsInHanded_of_change (C := Try.checked) own started (by kernel_rfl) Try.func4
    (ChangeSpec.witness6 (enc := enc) (C := Try.checked) false ⟨#[], #[.agg #[.int .i64 0, .int .i64 0, .bool false, .int .i64 0], .agg #[.int .i64 0, .int .i64 0, .bool false, .int .i64 0], .agg #[.int .i64 0, .int .i64 0, .bool false, .int .i64 0]], []⟩ 8 (by kernel_rfl) (by kernel_rfl) (by kernel_rfl) (by kernel_rfl)) ?_
  intro W base args ds gs before hval0 hW hcnd _
  have hval : ∀ (j : Nat) t v, Try.f4.params[j]? = some t → args[j]? = some v → Value.okWide Try.prog W .any base t v := hval0
  have hW' := hW
  have hlt : ∀ x ∈ before, x.block < W.heap.size := fun x hx => hW'.lt x hx
  obtain ⟨p, q, hA0, hV, rfl, hfz, hnd⟩ := hW
  have hA : DataW.TrodAll enc Try.prog W 0 (fun _ => true) true Try.f4.params.toList args.toList ds p := hA0
  obtain ⟨rfl, rfl⟩ := trodVars_none hV
  rw [Try.params4] at hA hval
  clear hA0 hval0
  obtain ⟨v0, v1, v2, d0, d1, d2, p0, p1, p2, rfl, rfl, rfl, h0, h1, h2⟩ := trodAll_three hA
  obtain ⟨a00, a01, a02, a03, x00, x01, x02, x03, m0, rfl, ex0, ep0, hx00, hx01, hx02, hx03⟩ := open_agg4 Try.underlying24 (by kernel_rfl) cellsDeed (hval 0 24 v0 rfl rfl) h0
  obtain ⟨a0, e00, _, _⟩ := DataW.trod_int Try.underlying3 hx00
  obtain ⟨c0, e01, _, _⟩ := DataW.trod_int Try.underlying22 hx01
  obtain ⟨f0, e02, _⟩ := DataW.trod_bool Try.underlying4 hx02
  obtain ⟨n0, e03, _, _⟩ := DataW.trod_int Try.underlying3 hx03
  simp at e00 e01 e02 e03
  subst e00 e01 e02 e03
  obtain ⟨a10, a11, a12, a13, x10, x11, x12, x13, m1, rfl, ex1, ep1, hx10, hx11, hx12, hx13⟩ := open_agg4 Try.underlying24 (by kernel_rfl) cellsDeed (hval 1 24 v1 rfl rfl) h1
  obtain ⟨a1, e10, _, _⟩ := DataW.trod_int Try.underlying3 hx10
  obtain ⟨c1, e11, _, _⟩ := DataW.trod_int Try.underlying22 hx11
  obtain ⟨f1, e12, _⟩ := DataW.trod_bool Try.underlying4 hx12
  obtain ⟨n1, e13, _, _⟩ := DataW.trod_int Try.underlying3 hx13
  simp at e10 e11 e12 e13
  subst e10 e11 e12 e13
  obtain ⟨a20, a21, a22, a23, x20, x21, x22, x23, m2, rfl, ex2, ep2, hx20, hx21, hx22, hx23⟩ := open_agg4 Try.underlying24 (by kernel_rfl) cellsDeed (hval 2 24 v2 rfl rfl) h2
  obtain ⟨a2, e20, _, _⟩ := DataW.trod_int Try.underlying3 hx20
  obtain ⟨c2, e21, _, _⟩ := DataW.trod_int Try.underlying22 hx21
  obtain ⟨f2, e22, _⟩ := DataW.trod_bool Try.underlying4 hx22
  obtain ⟨n2, e23, _, _⟩ := DataW.trod_int Try.underlying3 hx23
  simp at e20 e21 e22 e23
  subst e20 e21 e22 e23
  refine (trapAll_walk (fun | 0 => a0 | 1 => a1 | _ => a2) (fun | 0 => c0 | 1 => c1 | _ => c2) (fun | 0 => n0 | 1 => n1 | _ => n2) (fun | 0 => f0 | 1 => f1 | _ => f2) W).mono fun e W' ⟨he, bel⟩ => ?_
  subst he
  exact ⟨_, rfl, law_post laidOut rfl rfl Try.underlying4 (of_decide_eq_true (by kernel_rfl)) hW' hlt rfl rfl rfl bel⟩

theorem trapAll_holds : Rows.TrapAllSaid :=
  OpenClaim.holds_of_wide 4 Try.f4 rfl rfl rfl rfl rfl rfl rfl ⟨rfl, rfl, rfl, rfl, rfl⟩ rfl rfl rfl rfl rfl (by kernel_rfl) Try.func4 (by kernel_rfl)
    (of_decide_eq_true (by kernel_rfl)) (by unfold Func.isWrapper; first | (rw [if_pos (by decide +kernel)]; kernel_rfl) | (rw [if_neg (by decide +kernel)]; exact ⟨rfl, rfl⟩))
    (fun os started H enc _ => trapAll_lifted os started H enc)

end Go.Proofs.Ytgdhemhapfpkiaa
