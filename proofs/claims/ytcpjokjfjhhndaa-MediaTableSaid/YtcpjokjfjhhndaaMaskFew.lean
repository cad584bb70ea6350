/-
  Walks of the statements on patterns: a pattern, somewhat cut.
-/
import Derived.Test.YtcpjokjfjhhndaaMaskFind
import Derived.Deep.RegionHeld3
import Derived.StillTailTactics
namespace Go.Proofs.Ytcpjokjfjhhndaa
open Go.RowKit
set_option linter.unusedSimpArgs false
set_option linter.unusedVariables false

set_option maxHeartbeats 400000 in
set_option maxRecDepth 20000 in
theorem Few_any (b m k t : ByteArray) (w : World) (hb : b.size ≤ maxLen) (hm : m.size ≤ maxLen) (hk : k.size ≤ maxLen) (ht : t.size ≤ maxLen) :
    Calls Try.prog 17 #[patV b m k t] w fun e w' => e = .returned (patV (cutB b 70) (cutB m 70) (cutB k 20) (cutB t 40)) ∧ Below w.heap.size w w' := by
  go_enter Try.func17, Try.ntmps17
  go_wp2_with fail
  generalize hW : (w.alloc (.cells #[.string b, .string m, .string k, .string t] 25)).alloc (.cells #[.string ⟨#[]⟩, .string ⟨#[]⟩, .string ⟨#[]⟩, .string ⟨#[]⟩] 25) = W
  have q0 : W.cell? ⟨w.heap.size, 0, none⟩ = some (.string b) := by rw [← hW]; simp [go_sem]
  have q1 : W.cell? ⟨w.heap.size, 1, none⟩ = some (.string m) := by rw [← hW]; simp [go_sem]
  have q2 : W.cell? ⟨w.heap.size, 2, none⟩ = some (.string k) := by rw [← hW]; simp [go_sem]
  have q3 : W.cell? ⟨w.heap.size, 3, none⟩ = some (.string t) := by rw [← hW]; simp [go_sem]
  have r0 : W.cell? ⟨w.heap.size + 1, 0, none⟩ = some (.string ⟨#[]⟩) := by rw [← hW]; simp [go_sem]
  have r1 : W.cell? ⟨w.heap.size + 1, 1, none⟩ = some (.string ⟨#[]⟩) := by rw [← hW]; simp [go_sem]
  have r2 : W.cell? ⟨w.heap.size + 1, 2, none⟩ = some (.string ⟨#[]⟩) := by rw [← hW]; simp [go_sem]
  have r3 : W.cell? ⟨w.heap.size + 1, 3, none⟩ = some (.string ⟨#[]⟩) := by rw [← hW]; simp [go_sem]
  have fz : ∀ o, W.frozen? ⟨w.heap.size + 1, o, none⟩ = false := by rw [← hW]; intro o; simp [go_sem]
  have HB := Lib.hid (show Below w.heap.size w W from by rw [← hW]; exact (below_box _ _).alloc (by simp) _)
  clear hW
  have c70 : ∀ (x : ByteArray) (w : World), x.size ≤ maxLen → Calls Try.prog 16 #[.string x, .int .i64 70] w fun e w' => e = .returned (.string (cutB x 70)) ∧ w = w' := fun x w hx => Cut_any x 70 w hx (by decide)
  have c20 : ∀ (x : ByteArray) (w : World), x.size ≤ maxLen → Calls Try.prog 16 #[.string x, .int .i64 20] w fun e w' => e = .returned (.string (cutB x 20)) ∧ w = w' := fun x w hx => Cut_any x 20 w hx (by decide)
  have c40 : ∀ (x : ByteArray) (w : World), x.size ≤ maxLen → Calls Try.prog 16 #[.string x, .int .i64 40] w fun e w' => e = .returned (.string (cutB x 40)) ∧ w = w' := fun x w hx => Cut_any x 40 w hx (by decide)
  have C70 := Lib.hid c70
  have C20 := Lib.hid c20
  have C40 := Lib.hid c40
  clear c70 c20 c40
  go_region_held3 (fun w' => w'.cell? ⟨w.heap.size, 0, none⟩ = some (.string b) ∧ w'.cell? ⟨w.heap.size, 1, none⟩ = some (.string m) ∧ w'.cell? ⟨w.heap.size, 2, none⟩ = some (.string k) ∧ w'.cell? ⟨w.heap.size, 3, none⟩ = some (.string t))
    (first | go_keep) (first | (go_at_call 16; (with_reducible refine (C70.out _ _ ?_).mono ?_); assumption; rintro e w' ⟨rfl, rfl⟩) | (go_at_call 16; (with_reducible refine (C20.out _ _ ?_).mono ?_); assumption; rintro e w' ⟨rfl, rfl⟩) | (go_at_call 16; (with_reducible refine (C40.out _ _ ?_).mono ?_); assumption; rintro e w' ⟨rfl, rfl⟩))
  have z1 : w.heap.size + 1 < W.heap.size := lt_of_cell r0
  go_wp2_with fail
  refine bodyPost_ret (v := patV (cutB b 70) (cutB m 70) (cutB k 20) (cutB t 40)) ?_ rfl ⟨rfl, ?_⟩
  · simp [results, Try.results17, go_sem, r0, r1, r2, r3]
  · exact ((((HB.out.setCell (by simp) _).setCell (by simp) _).setCell (by simp) _).setCell (by simp) _).drew

/-- What one block of four texts holds. -/
def Texts4 (g : Nat) (b m k t : ByteArray) (w : World) : Prop :=
  g < w.heap.size ∧ w.cell? ⟨g, 0, none⟩ = some (.string b) ∧ w.cell? ⟨g, 1, none⟩ = some (.string m) ∧ w.cell? ⟨g, 2, none⟩ = some (.string k) ∧ w.cell? ⟨g, 3, none⟩ = some (.string t)

end Go.Proofs.Ytcpjokjfjhhndaa
