/-
  The statement TrapFirst: for every four deeds and every number the law returns true. No condition.
-/
import Derived.Test.YtgdhemhapfpkiaaTrapE
import Derived.Lib.SmallJoins
namespace Go.Proofs.Ytgdhemhapfpkiaa
open Go.RowKit
open Go.ChangeShapes Go.WideShapes Go.ChangeAt Go.Joins
set_option linter.unusedSimpArgs false
set_option linter.unusedVariables false

theorem cellsDeed4 : Try.prog.cellsOf 24 = 4 := by kernel_rfl

theorem cellsDeeds : Try.prog.cellsOf 49 = 16 := by kernel_rfl

theorem cellsInt4 : Try.prog.cellsOf 3 = 1 := by kernel_rfl
theorem cellsErrno4 : Try.prog.cellsOf 22 = 1 := by kernel_rfl
theorem cellsBool4 : Try.prog.cellsOf 4 = 1 := by kernel_rfl

theorem deed_cells {H : Type} {enc : TypeId × Value → H} {w : World} {base : Nat} {spare : Nat → Bool} {held : Bool} {fuel : Nat} {cs : List Value} {x : DataW H × List MemPlace}
    (h : DataW.trod enc Try.prog w base spare held fuel 24 cs = some x) : ∃ (a c : Int) (f : Bool) (n : Int), cs = [.int .i64 a, .int .i64 c, .bool f, .int .i64 n] := by
  obtain ⟨xs, m, _, _, hl, hlen, hg⟩ := DataW.trod_struct Try.underlying24 h
  rw [cellsDeed4] at hl
  match cs, hl with
  | [v0, v1, v2, v3], _ =>
    have hx : xs.length = 4 := hlen
    match xs, hx with
    | [y0, y1, y2, y3], _ =>
      have e0 := hg 0 _ rfl
      have e1 := hg 1 _ rfl
      have e2 := hg 2 _ rfl
      have e3 := hg 3 _ rfl
      obtain ⟨a, h0, _, _⟩ := DataW.trod_int Try.underlying3 e0
      obtain ⟨c, h1, _, _⟩ := DataW.trod_int Try.underlying22 e1
      obtain ⟨f, h2, _⟩ := DataW.trod_bool Try.underlying4 e2
      obtain ⟨n, h3, _, _⟩ := DataW.trod_int Try.underlying3 e3
      simp [cellsInt4, cellsErrno4, cellsBool4] at h0 h1 h2 h3
      exact ⟨a, c, f, n, by rw [h0, h1, h2, h3]⟩

theorem open_deeds {H : Type} {enc : TypeId × Value → H} {w W : World} {base b0 : Nat} {spare : Nat → Bool} {held : Bool} {r : Reach} {v : Value} {d : DataW H} {p : List MemPlace}
    (hv : Value.okWide Try.prog W r b0 49 v) (h : DataW.Trod enc Try.prog w base spare held 49 v d p) :
    ∃ (a c n : Nat → Int) (f : Nat → Bool), v = .agg #[.int .i64 (a 0), .int .i64 (c 0), .bool (f 0), .int .i64 (n 0), .int .i64 (a 1), .int .i64 (c 1), .bool (f 1), .int .i64 (n 1), .int .i64 (a 2), .int .i64 (c 2), .bool (f 2), .int .i64 (n 2), .int .i64 (a 3), .int .i64 (c 3), .bool (f 3), .int .i64 (n 3)] := by
  have hv2 := hv
  simp only [Value.okWide, Try.underlying49] at hv2
  obtain ⟨cs, rfl, hsz, _⟩ := hv2
  rw [cellsDeeds] at hsz
  obtain ⟨fuel, hf⟩ := h
  obtain ⟨xs, m, _, _, _, hlen, hg⟩ := DataW.trod_array Try.underlying49 hf
  obtain ⟨l⟩ := cs
  have hl : l.length = 16 := hsz
  have hx : ∀ i, i < 4 → ∃ y, xs[i]? = some y := fun i hi => ⟨_, List.getElem?_eq_getElem (by omega)⟩
  rw [cellsDeed4] at hg
  obtain ⟨y0, g0⟩ := hx 0 (by omega)
  obtain ⟨y1, g1⟩ := hx 1 (by omega)
  obtain ⟨y2, g2⟩ := hx 2 (by omega)
  obtain ⟨y3, g3⟩ := hx 3 (by omega)
  obtain ⟨a0, c0, f0, n0, q0⟩ := deed_cells ((hg 0 (by omega)).trans g0)
  obtain ⟨a1, c1, f1, n1, q1⟩ := deed_cells ((hg 1 (by omega)).trans g1)
  obtain ⟨a2, c2, f2, n2, q2⟩ := deed_cells ((hg 2 (by omega)).trans g2)
  obtain ⟨a3, c3, f3, n3, q3⟩ := deed_cells ((hg 3 (by omega)).trans g3)
  match l, hl with
  | [x0, x1, x2, x3, x4, x5, x6, x7, x8, x9, x10, x11, x12, x13, x14, x15], _ =>
    simp [Value.cells] at q0 q1 q2 q3
    refine ⟨fun i => [a0, a1, a2, a3].getD i 0, fun i => [c0, c1, c2, c3].getD i 0, fun i => [n0, n1, n2, n3].getD i 0, fun i => [f0, f1, f2, f3].getD i false, ?_⟩
    simp [q0, q1, q2, q3]

set_option maxRecDepth 100000 in
theorem trapFirst_lifted (os : Os) (started : os.Started) (H : Type) (enc : TypeId × Value → H) :
    ReturnsInHanded {} Try.checked os 9 .any (Rows.trapFirstSpec.pre6 enc Try.prog Try.f9 Rows.trapFirstRow.domain false) (Rows.trapFirstSpec.post enc Try.prog Try.f9 false true false false) := by
  refine returnsInHanded_of_change (C := Try.checked) own started (by kernel_rfl) Try.func9
    (ChangeSpec.witness6 (enc := enc) (C := Try.checked) false ⟨#[], #[.agg #[.int .i64 0, .int .i64 0, .bool false, .int .i64 0, .int .i64 0, .int .i64 0, .bool false, .int .i64 0, .int .i64 0, .int .i64 0, .bool false, .int .i64 0, .int .i64 0, .int .i64 0, .bool false, .int .i64 0], .int .u8 0], []⟩ 8 (by kernel_rfl) (by kernel_rfl) (by kernel_rfl) (by kernel_rfl)) ?_
  intro W base args ds gs before hval0 hW hcnd _
  have hval : ∀ (j : Nat) t v, Try.f9.params[j]? = some t → args[j]? = some v → Value.okWide Try.prog W .any base t v := hval0
  have hW' := hW
  have hlt : ∀ x ∈ before, x.block < W.heap.size := fun x hx => hW'.lt x hx
  obtain ⟨p, q, hA0, hV, rfl, hfz, hnd⟩ := hW
  have hA : DataW.TrodAll enc Try.prog W 0 (fun _ => true) true Try.f9.params.toList args.toList ds p := hA0
  obtain ⟨rfl, rfl⟩ := trodVars_none hV
  rw [Try.params9] at hA hval
  clear hA0 hval0
  obtain ⟨v0, v1, d0, d1, p0, p1, rfl, rfl, rfl, h0, h1⟩ := trodAll_two hA
  obtain ⟨a, c, n, f, rfl⟩ := open_deeds (hval 0 49 v0 rfl rfl) h0
  obtain ⟨x, rfl, rfl, rfl, wx⟩ := open_int Try.underlying5 (hval 1 5 v1 rfl rfl) h1
  obtain ⟨b, rfl⟩ := byte_of_wf wx
  refine (trapFirst_walk a c n f b W).mono fun e W' ⟨he, bel⟩ => ?_
  subst he
  exact ⟨_, rfl, law_post laidOut rfl rfl Try.underlying4 (of_decide_eq_true (by kernel_rfl)) hW' hlt rfl rfl rfl bel⟩

theorem trapFirst_holds : Rows.TrapFirstSaid :=
  OpenClaim.holds_of_wide 9 Try.f9 rfl rfl rfl rfl rfl rfl rfl ⟨rfl, rfl, rfl, rfl, rfl⟩ rfl rfl rfl rfl rfl (by kernel_rfl) Try.func9 (by kernel_rfl)
    (of_decide_eq_true (by kernel_rfl)) (by unfold Func.isWrapper; first | (rw [if_pos (by decide +kernel)]; kernel_rfl) | (rw [if_neg (by decide +kernel)]; exact ⟨rfl, rfl⟩))
    (fun os started H enc _ => trapFirst_lifted os started H enc)

end Go.Proofs.Ytgdhemhapfpkiaa
