/-
  Walks of package trap: All.
-/
import Derived.Test.YtgdhemhapfpkiaaTrapC
import Derived.Laws.AppendOwn
import Derived.Laws.OwnMore
import Derived.OwnWalk
namespace Go.Proofs.Ytgdhemhapfpkiaa
open Go.RowKit
set_option linter.unusedSimpArgs false
set_option linter.unusedVariables false

theorem infoFault : (Try.prog.info? 26).map (fun i => (i.zero, i.size, i.bytes)) = some (some (.agg #[.int .i64 0, .int .i64 0]), 2, 16) := by kernel_rfl

/-- A function whose call is caught: what is told of it. -/
def Caughts (fv : Value) (a c : Int) (is : Bool) : Prop :=
  ∀ w, Calls Try.prog 71 #[fv] w fun e w' => e = .returned (.tuple #[.agg #[.int .i64 a, .int .i64 c], .bool is]) ∧ Below w.heap.size w w'

/-- The cells of a list of faults. -/
def faultCells (fs : List (Int × Int)) : List Value := fs.flatMap fun f => [.int .i64 f.1, .int .i64 f.2]

theorem faultCells_length (fs : List (Int × Int)) : (faultCells fs).length = fs.length * 2 := by
  induction fs with
  | nil => rfl
  | cons f r ih => simp [faultCells] at ih ⊢; omega

theorem faultCells_snoc (fs : List (Int × Int)) (k : Nat) (hk : k < fs.length) : faultCells (fs.take (k + 1)) = faultCells (fs.take k) ++ [.int .i64 fs[k].1, .int .i64 fs[k].2] := by
  rw [List.take_succ_eq_append_getElem hk]
  unfold faultCells
  rw [List.flatMap_append]
  rfl

theorem own_below {w w' : World} {base : Nat} {e : TypeId} {size : Nat} {v : Value} {n : Nat} {xs : List Value} (h : w.ownsRow base e size v n xs) (hb : Below w.heap.size w w') : w'.ownsRow base e size v n xs :=
  h.kept (row := none) ⟨hb.os, hb.tape, hb.output, hb.size, fun k hk _ => hb.block k hk⟩ (by cases v.ownBlock <;> simp)

theorem cell_two_at (w : World) (a c : Value) (e : TypeId) : ∀ j u, [a, c][j]? = some u → (w.alloc (.cells #[a, c] e)).cell? ((⟨w.heap.size, 0, none⟩ : Addr).add j) = some u := by
  intro j u h
  rw [Addr.add_lit, Nat.zero_add]
  match j, h with
  | 0, h => simp at h; subst h; simp [go_sem]
  | 1, h => simp at h; subst h; simp [go_sem]
  | j + 2, h => simp at h

set_option maxHeartbeats 1000000 in
set_option maxRecDepth 20000 in
theorem All_any (fs : List (Int × Int)) (g cap : Nat) (w : World) (hg : g < w.heap.size) (hn : fs.length ≤ 1000)
    (hcells : ∀ i (h : i < fs.length), ∃ fv is, w.cell? ⟨g, i, none⟩ = some fv ∧ Caughts fv fs[i].1 fs[i].2 is) :
    Calls Try.prog 18 #[.slice (some ⟨g, 0, none⟩) fs.length cap] w fun e w' => ∃ v, e = .returned v ∧ w'.ownsRow w.heap.size 26 2 v fs.length (faultCells fs) ∧ Below w.heap.size w w' := by
  obtain ⟨i0, hi, hz0, hz1, hz2⟩ := info_parts infoFault
  have HC := Lib.hid hcells; clear hcells
  go_enter Try.func18, Try.ntmps18
  go_wp2_with fail
  go_loopw [3, 10] (fun v i wr => ∃ k : Nat, k ≤ fs.length ∧ i = .int .i64 k ∧ wr.ownsRow w.heap.size 26 2 v k (faultCells (fs.take k)) ∧ Below w.heap.size w wr) (fun _ i _ => fs.length - (intOf i).toNat)
  case atStart => exact ⟨0, Nat.zero_le _, rfl, World.ownsRow_nil _ _ _ _, Below.refl _ _⟩
  case round =>
    obtain ⟨k, hk, rfl, hown, hb⟩ := hrel
    by_cases hlt : k < fs.length
    · obtain ⟨fv, is, hc, ht⟩ := HC.out k hlt
      have HT := Lib.hid ht; clear ht
      have hc2 : wr.cell? ⟨g, k, none⟩ = some fv := by rw [cell_below hb hg]; exact hc
      clear hc
      have HS := Lib.hid (faultCells_snoc fs k hlt)
      have HB := Lib.hid hb; clear hb
      have HO := Lib.hid hown; clear hown
      generalize fs[k] = f at *
      go_wp2_with fail
      refine (HT.out _).mono ?_
      rintro e w1 ⟨rfl, hb1⟩
      have HO1 := Lib.hid (((own_below HO.out hb1).alloc (.cells #[.int .i64 f.1, .int .i64 f.2] 26)).alloc (.cells #[.int .i64 f.1, .int .i64 f.2] 26))
      have HC1 := Lib.hid (cell_two_at (w1.alloc (.cells #[.int .i64 f.1, .int .i64 f.2] 26)) (.int .i64 f.1) (.int .i64 f.2) 26)
      have HB1 := Lib.hid (HB.out.trans (hb1.mono HB.out.size))
      have hL := HO.out.lt
      have k1 := Lib.hid (show ∀ j u, ([.int .i64 f.1, .int .i64 f.2] : List Value)[j]? = some u → ((w1.alloc (.cells #[.int .i64 f.1, .int .i64 f.2] 26)).alloc (.cells #[.int .i64 f.1, .int .i64 f.2] 26)).cell? ((⟨w1.heap.size + 1, 0, none⟩ : Addr).add j) = some u from by have := HC1.out; simpa using this)
      have k2 := Lib.hid (show ∀ u ∈ ([.int .i64 f.1, .int .i64 f.2] : List Value), u.oneCell' = true from by intro u hu; simp at hu; rcases hu with rfl | rfl <;> rfl)
      have k3 := Lib.hid (show k + 1 ≤ maxLen from by unfold maxLen; omega)
      have k4 := Lib.hid (show (k + 1) * 16 ≤ 140737488355328 from by omega)
      have k5 := Lib.hid (show w.heap.size ≤ ((w1.alloc (.cells #[.int .i64 f.1, .int .i64 f.2] 26)).alloc (.cells #[.int .i64 f.1, .int .i64 f.2] 26)).heap.size from by have := HB1.out.size; simp; omega)
      clear hb1
      go_wp2_with (at_builtin; go_must (refine wpList_append_own _ rfl (.tmp 19) (.tmp 21) _ rfl w.heap.size 26 i0 _ 2 16 Try.underlying31 hi hz0 hz1 hz2 rfl (by decide) _ _ _ rfl HO1.out ⟨w1.heap.size + 1, 0, none⟩ 1 1 [.int .i64 f.1, .int .i64 f.2] rfl rfl k1.out k2.out k3.out k4.out k5.out ?_); intro v' w2 hown' hgrow _; have HO2 := Lib.hid hown'; have HG := Lib.hid hgrow; clear hown' hgrow)
      go_roundw
      case rel =>
        refine ⟨k + 1, by omega, by go_num, by rw [HS.out]; exact HO2.out, ?_⟩
        refine ((HB1.out.alloc HB1.out.size _).alloc (by have := HB1.out.size; simp; omega) _).grown HG.out (by have := HB1.out.size; simp; omega) fun j hj => ?_
        exact (hL j hj).1
      case measure => simp [intOf]; omega
    · obtain rfl : k = fs.length := by omega
      rw [List.take_length] at hown
      have HB := Lib.hid hb; clear hb
      have HO := Lib.hid hown; clear hown
      go_wp2_with fail
      go_ret
      exact ⟨_, rfl, HO.out, HB.out⟩

end Go.Proofs.Ytgdhemhapfpkiaa
