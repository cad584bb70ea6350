/-
  A region that draws its order, whose operations only read what was there when it began, and whose callees may make memory: one walk of the text's order serves every order.
  (The kit's theorem on regions, at the class of worlds 'nothing that was there has turned'.)
-/
import Derived.Test.YtjlemghmpnkncaaDoorBase
namespace Go.Proofs.YtjlemghmpnkncaaDoor
open Go.RowKit

/-- A world in which nothing that W held has turned. -/
def InB (W : World) : Type := { w' : World // Below W.heap.size W w' }

instance (W : World) : Nonempty (InB W) := ⟨⟨W, Below.refl _ _⟩⟩

theorem InB.cells {W : World} (x : InB W) : ∀ b o, b < W.heap.size → x.val.cell? ⟨b, o, none⟩ = W.cell? ⟨b, o, none⟩ := fun b o h => x.property.cell (p := ⟨b, o, none⟩) h

theorem wp_region_inb {P : Program} {id : Nat} {Q : Exit → Act → World → Prop} {a : Act} {w : World} {l : List Oper} (hm : P.follows .mixedOrders = true) (hB : Region.lexB .any l.toArray = true)
    (h : wpQuiet P l.toArray (fun w' => ∃ x : InB w, w' = x.val) (fun a' => ∀ w', (∃ x : InB w, w' = x.val) → Q .normal a' w') l a) : (Code.region id l.toArray true).wp P Q a w :=
  wp_region_quiet (C := fun w' => ∃ x : InB w, w' = x.val) hm hB ⟨⟨w.drew, (Below.refl _ _).drew⟩, rfl⟩ (by simpa using h)

theorem inb_call {P : Program} {f : FuncId} {args : Array Value} {W : World} {v : Value} (x : InB W)
    (h : Calls P f args x.val fun e w' => e = .returned v ∧ Below x.val.heap.size x.val w') : Calls P f args x.val fun e w'' => e = .returned v ∧ ∃ y : InB W, w'' = y.val :=
  h.mono fun _ w' ⟨he, hb⟩ => ⟨he, ⟨w', below_trans x.property hb⟩, rfl⟩

theorem inb_same {P : Program} {f : FuncId} {args : Array Value} {W : World} {v : Value} (x : InB W)
    (h : Calls P f args x.val fun e w' => e = .returned v ∧ x.val = w') : Calls P f args x.val fun e w'' => e = .returned v ∧ ∃ y : InB W, w'' = y.val :=
  h.mono fun _ _ ⟨he, hb⟩ => ⟨he, x, hb.symm⟩

theorem inb_drew {P : Program} {f : FuncId} {args : Array Value} {W : World} {v : Value} (x : InB W)
    (h : Calls P f args x.val fun e w' => e = .returned v ∧ Drew x.val w') : Calls P f args x.val fun e w'' => e = .returned v ∧ ∃ y : InB W, w'' = y.val :=
  h.mono fun _ w' ⟨he, hb⟩ => ⟨he, ⟨w', x.property.trans (hb.below _)⟩, rfl⟩

end Go.Proofs.YtjlemghmpnkncaaDoor
