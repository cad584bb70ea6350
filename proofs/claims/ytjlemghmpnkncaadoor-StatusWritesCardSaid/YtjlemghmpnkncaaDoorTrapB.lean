/-
  Walks of package trap: Catch; words for what is caught.
-/
import Derived.Test.YtjlemghmpnkncaaDoorTrapA
namespace Go.Proofs.YtjlemghmpnkncaaDoor
open Go.RowKit
set_option linter.unusedSimpArgs false
set_option linter.unusedVariables false

set_option maxRecDepth 20000 in
theorem Catch_throws (K : FuncId) (first cap : Array Value) (a c : Int) (B : Nat) (Post : World → Prop) (w : World) (hcf : Enters K) (hB : B ≤ w.heap.size) (hst : Stays w.heap.size Post)
    (hK : ∀ w1, Below w.heap.size w w1 → Throws K (first ++ cap) a c B Post w1) :
    Calls Tryd.prog 101 #[.func (.func K) first cap] w fun e w' => e = .returned (.tuple #[.agg #[.int .i64 a, .int .i64 c], .bool true]) ∧ Keeps B w w' ∧ Post w' := by
  have HK := Lib.hid hK; clear hK
  have HS := Lib.hid hst; clear hst
  have HE := Lib.hid hcf; clear hcf
  go_enter Tryd.func101, Tryd.ntmps101
  go_wp2_with fail
  refine (catch_throws K first cap a c B Post _ HE.out (by simp; omega) (HS.out.mono (by simp)) fun w1 h1 => HK.out w1 ((below_box _ _).trans (h1.mono (by simp)))).mono ?_
  rintro e w2 ⟨rfl, hk, hp⟩
  have hz := hk.size
  simp at hz
  have hz2 : w.heap.size < w2.heap.size := by omega
  have c0 : w2.cell? ⟨w.heap.size, 0, none⟩ = some (.int .i64 0) := by rw [hk.cell hB (by simp)]; simp [go_sem]
  have c1 : w2.cell? ⟨w.heap.size, 1, none⟩ = some (.int .i64 0) := by rw [hk.cell hB (by simp)]; simp [go_sem]
  have f0 : w2.frozen? ⟨w.heap.size, 0, none⟩ = false := by rw [hk.frozen hB (by simp)]; simp [go_sem]
  have f1 : w2.frozen? ⟨w.heap.size, 1, none⟩ = false := by rw [hk.frozen hB (by simp)]; simp [go_sem]
  have HP := Lib.hid (HS.out _ _ (((Below.refl w.heap.size w2).setCell (Nat.le_refl _) (.int .i64 a) (p := ⟨w.heap.size, 0, none⟩)).setCell (Nat.le_refl _) (.int .i64 c) (p := ⟨w.heap.size, 1, none⟩)) hp)
  have HK2 := Lib.hid (((((Keeps.refl B w).alloc (.cells #[.int .i64 0, .int .i64 0] 59)).trans hk).setCell (Nat.le_refl _) (.int .i64 a) (p := ⟨w.heap.size, 0, none⟩)).setCell (Nat.le_refl _) (.int .i64 c) (p := ⟨w.heap.size, 1, none⟩))
  clear hp hk hz
  go_wp2_with fail
  refine bodyPost_ret (v := .tuple #[.agg #[.int .i64 a, .int .i64 c], .bool true]) ?_ rfl ⟨rfl, HK2.out, HP.out⟩
  simp [results, Tryd.results101, go_sem, c0, c1, hz2]

set_option maxRecDepth 20000 in
theorem Catch_gives (K : FuncId) (first cap : Array Value) (B : Nat) (Post : World → Prop) (w : World) (hcf : Enters K) (hB : B ≤ w.heap.size) (hst : Stays w.heap.size Post)
    (hK : ∀ w1, Below w.heap.size w w1 → Gives K (first ++ cap) (.tuple #[]) B Post w1) :
    Calls Tryd.prog 101 #[.func (.func K) first cap] w fun e w' => e = .returned (.tuple #[.agg #[.int .i64 0, .int .i64 0], .bool false]) ∧ Keeps B w w' ∧ Post w' := by
  have HK := Lib.hid hK; clear hK
  have HS := Lib.hid hst; clear hst
  have HE := Lib.hid hcf; clear hcf
  go_enter Tryd.func101, Tryd.ntmps101
  go_wp2_with fail
  refine (catch_gives K first cap B Post _ HE.out (by simp; omega) (HS.out.mono (by simp)) fun w1 h1 => HK.out w1 ((below_box _ _).trans (h1.mono (by simp)))).mono ?_
  rintro e w2 ⟨rfl, hk, hp⟩
  have hz := hk.size
  simp at hz
  have hz2 : w.heap.size < w2.heap.size := by omega
  have c0 : w2.cell? ⟨w.heap.size, 0, none⟩ = some (.int .i64 0) := by rw [hk.cell hB (by simp)]; simp [go_sem]
  have c1 : w2.cell? ⟨w.heap.size, 1, none⟩ = some (.int .i64 0) := by rw [hk.cell hB (by simp)]; simp [go_sem]
  have f0 : w2.frozen? ⟨w.heap.size, 0, none⟩ = false := by rw [hk.frozen hB (by simp)]; simp [go_sem]
  have f1 : w2.frozen? ⟨w.heap.size, 1, none⟩ = false := by rw [hk.frozen hB (by simp)]; simp [go_sem]
  have HP := Lib.hid (HS.out _ _ (((Below.refl w.heap.size w2).setCell (Nat.le_refl _) (.int .i64 0) (p := ⟨w.heap.size, 0, none⟩)).setCell (Nat.le_refl _) (.int .i64 0) (p := ⟨w.heap.size, 1, none⟩)) hp)
  have HK2 := Lib.hid (((((Keeps.refl B w).alloc (.cells #[.int .i64 0, .int .i64 0] 59)).trans hk).setCell (Nat.le_refl _) (.int .i64 0) (p := ⟨w.heap.size, 0, none⟩)).setCell (Nat.le_refl _) (.int .i64 0) (p := ⟨w.heap.size, 1, none⟩))
  clear hp hk hz
  go_wp2_with fail
  refine bodyPost_ret (v := .tuple #[.agg #[.int .i64 0, .int .i64 0], .bool false]) ?_ rfl ⟨rfl, HK2.out, HP.out⟩
  simp [results, Tryd.results101, go_sem, c0, c1, hz2]

/-- What holds behind the catching: the blocks from B up to T are as they were in w3. -/
def Upto (B T : Nat) (w3 w' : World) : Prop := w3.heap.size ≤ w'.heap.size ∧ ∀ b, B ≤ b → b < T → w'.heap[b]? = w3.heap[b]?

theorem Upto.cell {B T : Nat} {w3 w' : World} (h : Upto B T w3 w') {b o : Nat} (h1 : B ≤ b) (h2 : b < T) : w'.cell? ⟨b, o, none⟩ = w3.cell? ⟨b, o, none⟩ :=
  World.cell?_of_block (w := w3) (h.2 b h1 h2)

theorem Upto.frozen {B T : Nat} {w3 w' : World} (h : Upto B T w3 w') {b o : Nat} (h1 : B ≤ b) (h2 : b < T) : w'.frozen? ⟨b, o, none⟩ = w3.frozen? ⟨b, o, none⟩ :=
  World.frozen?_of_block (w := w3) (h.2 b h1 h2)

theorem Upto.keeps {B T : Nat} {w w3 w' : World} (h : Upto B T w3 w') (hW : Below w.heap.size w w3) (hT : w.heap.size ≤ T) : Keeps B w w' :=
  ⟨Nat.le_trans hW.size h.1, fun b h1 h2 => (h.2 b h1 (by omega)).trans (hW.block b h2)⟩

theorem Upto.stays {B T : Nat} {w3 : World} (S : Nat) (h : T ≤ S) : Stays S (Upto B T w3) :=
  fun w1 w2 hb hp => ⟨Nat.le_trans hp.1 hb.size, fun b h1 h2 => (hb.block b (by omega)).trans (hp.2 b h1 h2)⟩

theorem Stays.and {B : Nat} {P Q : World → Prop} (h : Stays B P) (k : Stays B Q) : Stays B (fun w => P w ∧ Q w) := fun w1 w2 hb hp => ⟨h w1 w2 hb hp.1, k w1 w2 hb hp.2⟩

/-- Cell 0 of block g holds v, and may be written. -/
def Holds1 (g : Nat) (v : Value) (w : World) : Prop := w.cell? ⟨g, 0, none⟩ = some v ∧ w.frozen? ⟨g, 0, none⟩ = false

theorem Holds1.stays {g S : Nat} {v : Value} (h : g < S) : Stays S (Holds1 g v) :=
  fun w1 w2 hb hp => ⟨by rw [hb.cell (p := ⟨g, 0, none⟩) h]; exact hp.1, by rw [hb.frozen (p := ⟨g, 0, none⟩) h]; exact hp.2⟩

theorem heap3 (w : World) (o0 o1 o2 : Obj) : (((w.alloc o0).alloc o1).alloc o2).heap.size = w.heap.size + 3 := by simp

end Go.Proofs.YtjlemghmpnkncaaDoor
