/-
  Walks of package trap: Catch; words for what is caught.
-/
import Derived.Test.YtigclegknofhmaaTrapA
namespace Go.Proofs.Ytigclegknofhmaa
open Go.RowKit
set_option linter.unusedSimpArgs false
set_option linter.unusedVariables false

/-- What holds behind the catching: the blocks from B up to T are as they were in w3. -/
def Upto (B T : Nat) (w3 w' : World) : Prop := w3.heap.size ≤ w'.heap.size ∧ ∀ b, B ≤ b → b < T → w'.heap[b]? = w3.heap[b]?

theorem Upto.cell {B T : Nat} {w3 w' : World} (h : Upto B T w3 w') {b o : Nat} (h1 : B ≤ b) (h2 : b < T) : w'.cell? ⟨b, o, none⟩ = w3.cell? ⟨b, o, none⟩ :=
  World.cell?_of_block (w := w3) (h.2 b h1 h2)

theorem Upto.frozen {B T : Nat} {w3 w' : World} (h : Upto B T w3 w') {b o : Nat} (h1 : B ≤ b) (h2 : b < T) : w'.frozen? ⟨b, o, none⟩ = w3.frozen? ⟨b, o, none⟩ :=
  World.frozen?_of_block (w := w3) (h.2 b h1 h2)

theorem Upto.keeps {B T : Nat} {w w3 w' : World} (h : Upto B T w3 w') (hW : Below w.heap.size w w3) (hT : w.heap.size ≤ T) : Keeps B w w' :=
  ⟨Nat.le_trans hW.size h.1, fun b h1 h2 => (h.2 b h1 (by omega)).trans (hW.block b h2)⟩

theorem Upto.stays {B T : Nat} {w3 : World} (S : Nat) (h : T ≤ S) : Stays S (Upto B T w3) :=
  fun w1 w2 hb hp => ⟨Nat.le_trans hp.1 hb.size, fun b h1 h2 => (hb.block b (by omega)).trans (hp.2 b h1 h2)⟩

theorem Stays.and {B : Nat} {P Q : World → Prop} (h : Stays B P) (k : Stays B Q) : Stays B (fun w => P w ∧ Q w) := fun w1 w2 hb hp => ⟨h w1 w2 hb hp.1, k w1 w2 hb hp.2⟩

/-- Cell 0 of block g holds v, and may be written. -/
def Holds1 (g : Nat) (v : Value) (w : World) : Prop := w.cell? ⟨g, 0, none⟩ = some v ∧ w.frozen? ⟨g, 0, none⟩ = false

theorem Holds1.stays {g S : Nat} {v : Value} (h : g < S) : Stays S (Holds1 g v) :=
  fun w1 w2 hb hp => ⟨by rw [hb.cell (p := ⟨g, 0, none⟩) h]; exact hp.1, by rw [hb.frozen (p := ⟨g, 0, none⟩) h]; exact hp.2⟩

theorem heap3 (w : World) (o0 o1 o2 : Obj) : (((w.alloc o0).alloc o1).alloc o2).heap.size = w.heap.size + 3 := by simp

end Go.Proofs.Ytigclegknofhmaa
