/-
  Walks of package valid: a set of at most one key.
-/
import Derived.Test.YtjlemghmpnkncaaPartC
import Derived.WideMake
import Derived.Test.YtjlemghmpnkncaaLastIn2
import Derived.Deep.DeepCutAuto
namespace Go.Proofs.Ytjlemghmpnkncaa
open Go.RowKit
set_option linter.unusedSimpArgs false
set_option linter.unusedVariables false

/-- The entries of no key, or of one. -/
def entV (k : Option ByteArray) : Array MapEntry := match k with | none => #[] | some s => #[{ key := .string s, val := .int .i64 0, born := 0 }]

def isKey (k : Option ByteArray) (s : ByteArray) : Bool := match k with | none => false | some q => s == q

structure SetAt (w : World) (g r : Nat) (k : Option ByteArray) (clk : Nat) (nx mo go : Int) : Prop where
  cells : w.heap[g]? = some (.cells #[.map (some r), .int .i64 nx, .int .i64 mo, .int .i64 go] 61 (0, 0))
  map : w.heap[r]? = some (.map (entV k) clk)

theorem run_lookup_one {w : World} {r clk : Nat} (k : Option ByteArray) (s : ByteArray) (h : w.heap[r]? = some (.map (entV k) clk)) :
    (Instr.lookup 59 (.map (some r)) (.string s) true).run Try.prog w = .ok (.tuple #[.int .i64 0, .bool (isKey k s)]) w := by
  have hm := Try.underlying59
  have hk := Try.underlying9
  have hz : (zeroValue 3).run Try.prog w = .ok (.int .i64 0) w := by kernel_rfl
  have hc : ∀ e, (Instr.checkKey e 10000 9 (.string s)).run Try.prog w = .ok () w := fun e => MapKept.run_checkKey (k := .string s) hk (by simp [MapKept.IsKey]) e 9999
  have hf : ∃ a, Instr.findNow .string (.string s) (entV k).toList 0 = some a ∧ a = (if isKey k s then some (0, .int .i64 0) else none) := by
    cases k with
    | none => exact ⟨none, rfl, rfl⟩
    | some q =>
      cases hq : (s == q)
      · exact ⟨none, by simp [entV, Instr.findNow, Instr.sameNow, hq], by simp [isKey, hq]⟩
      · exact ⟨some (0, .int .i64 0), by simp [entV, Instr.findNow, Instr.sameNow, hq], by simp [isKey, hq]⟩
  obtain ⟨a, ha, he⟩ := hf
  have hff := MapKept.run_findKey (w := w) hk ha
  cases hi : isKey k s
  · rw [hi] at he
    simp at he
    subst he
    simp [Instr.lookup, run_underlying hm, MapKept.run_getObj_map h, hc, hff, hz, Result.andThen]
  · rw [hi] at he
    simp at he
    subst he
    simp [Instr.lookup, run_underlying hm, MapKept.run_getObj_map h, hc, hff, Result.andThen]

theorem ne_nil_set (g : Nat) (w : World) : (binOp .eql 27 (.pointer (some ⟨g, 0, none⟩)) (.pointer none)).run Try.prog w = .ok (.bool false) w := by kernel_rfl

set_option maxRecDepth 20000 in
theorem has_set (g r : Nat) (k : Option ByteArray) (clk : Nat) (nx mo go : Int) (s : ByteArray) (w : World) (h : SetAt w g r k clk nx mo go) :
    Calls Try.prog 32 #[.pointer (some ⟨g, 0, none⟩), .string s] w fun e w' => e = .returned (.bool (isKey k s)) ∧ w = w' := by
  have hnn := fun w => ne_nil_set g w
  have c0 : w.cell? ⟨g, 0, none⟩ = some (.map (some r)) := by rw [Lib.cell_of_heap h.cells]; rfl
  have hl := run_lookup_one k s h.map
  generalize isKey k s = b at *
  go_enter Try.func32, Try.ntmps32
  go_wp2_with fail
  go_ret
  exact ⟨rfl, rfl⟩

set_option maxRecDepth 20000 in
theorem Has_set (g r : Nat) (k : Option ByteArray) (clk : Nat) (nx mo go : Int) (s : ByteArray) (w : World) (h : SetAt w g r k clk nx mo go) :
    Calls Try.prog 12 #[.pointer (some ⟨g, 0, none⟩), .string s] w fun e w' => e = .returned (.bool (isKey k s)) ∧ w = w' := by
  have HH := Lib.hid (has_set g r k clk nx mo go s w h)
  generalize isKey k s = b at *
  go_enter Try.func12, Try.ntmps12
  go_wp2_with (go_at_call 32; (with_reducible refine HH.out.mono ?_); rintro e w' ⟨rfl, rfl⟩)
  go_ret
  exact ⟨rfl, rfl⟩

set_option maxRecDepth 20000 in
theorem Has_nil (s : ByteArray) (w : World) : Calls Try.prog 12 #[.pointer none, .string s] w fun e w' => e = .returned (.bool false) ∧ w = w' := by
  have HH : Hid (∀ w, Calls Try.prog 32 #[.pointer none, .string s] w fun e w' => e = .returned (.bool false) ∧ w = w') := Lib.hid (fun w => by
    have hnn : ∀ w, (binOp .eql 27 (.pointer none) (.pointer none)).run Try.prog w = .ok (.bool true) w := fun w => by kernel_rfl
    go_enter Try.func32, Try.ntmps32
    go_wp2_with fail
    go_ret
    exact ⟨rfl, rfl⟩)
  go_enter Try.func12, Try.ntmps12
  go_wp2_with (go_at_call 32; (with_reducible refine (HH.out _).mono ?_); rintro e w' ⟨rfl, rfl⟩)
  go_ret
  exact ⟨rfl, rfl⟩

set_option maxRecDepth 20000 in
theorem New_set (m : Nat) (w : World) (hm : m ≤ 3) :
    Calls Try.prog 9 #[.int .i64 m] w fun e w' => ∃ g r, e = .returned (.tuple #[.pointer (some ⟨g, 0, none⟩), .int .i64 0]) ∧ w.heap.size ≤ g ∧ w.heap.size ≤ r ∧ g ≠ r ∧ SetAt w' g r none 0 0 m 0 ∧ Below w.heap.size w w' := by
  have hmm := @run_makeMap Try.prog
  go_enter Try.func9, Try.ntmps9
  go_wp2_with fail
  go_ret2
  have h1 : (w.alloc (.map #[] 0)).heap[w.heap.size]? = some (.map #[] 0) := heap_alloc_new w _
  have hb1 : Below w.heap.size w (w.alloc (.map #[] 0)) := below_box w _
  refine ⟨w.heap.size + 1, w.heap.size, rfl, by omega, by omega, by omega, ⟨?_, ?_⟩, hb1.alloc (by simp) _⟩
  · have := heap_alloc_new (w.alloc (.map #[] 0)) (.cells #[.map (some w.heap.size), .int .i64 0, .int .i64 m, .int .i64 0] 61)
    simpa using this
  · exact (Below.heap_alloc _ _ _ (by simp)).trans h1

/-- The world with another object in a block. -/
def putObj (w : World) (r : Nat) (o : Obj) : World := { w with heap := w.heap.setIfInBounds r o }

theorem putObj_at {w : World} {r : Nat} {o o2 : Obj} (h : w.heap[r]? = some o2) : (putObj w r o).heap[r]? = some o := (MapKept.heap_set h).1

theorem putObj_far {w : World} {r q : Nat} {o o2 : Obj} (h : w.heap[r]? = some o2) (hn : q ≠ r) : (putObj w r o).heap[q]? = w.heap[q]? := (MapKept.heap_set h).2 q hn

theorem putObj_size (w : World) (r : Nat) (o : Obj) : (putObj w r o).heap.size = w.heap.size := by simp [putObj]

theorem run_len_set {w : World} {r clk : Nat} {es : Array MapEntry} (h : w.heap[r]? = some (.map es clk)) (t : TypeId) :
    (Builtin.len_ #[59] t #[.map (some r)]).run Try.prog w = .ok (.int .i64 es.size) w := by
  have hm := Try.underlying59
  simp [Builtin.len_, run_underlying hm, MapKept.run_getObj_map h, Result.andThen, goInt]

theorem bb_self (s : ByteArray) : (s == s) = true := by
  first | simp | (show (s.data == s.data) = true; simp)

theorem run_delete_set {w : World} {r clk : Nat} (s : ByteArray) (h : w.heap[r]? = some (.map (entV (some s)) clk)) (t : TypeId) :
    (Builtin.delete_ #[59, 9] t #[.map (some r), .string s]).run Try.prog w = .ok (.tuple #[]) (putObj w r (.map #[] clk)) := by
  have hm := Try.underlying59
  have hk := Try.underlying9
  have hc : ∀ e, (Instr.checkKey e 10000 9 (.string s)).run Try.prog w = .ok () w := fun e => MapKept.run_checkKey (k := .string s) hk (by simp [MapKept.IsKey]) e 9999
  have hf : Instr.findNow .string (.string s) (entV (some s)).toList 0 = some (some (0, .int .i64 0)) := by simp [entV, Instr.findNow, Instr.sameNow, bb_self]
  have hff := MapKept.run_findKey (w := w) hk hf
  simp only [entV, Array.toList] at hff
  simp [Builtin.delete_, run_underlying hm, MapKept.run_getObj_map h, hc, hff, MapKept.run_setObj_map _ h, Result.andThen, putObj, entV]

/-- Nothing has turned but two blocks. -/
structure OnlyGR (g r : Nat) (w w' : World) : Prop where
  os : w'.os = w.os
  tape : w'.tape = w.tape
  output : w'.output = w.output
  size : w.heap.size ≤ w'.heap.size
  block : ∀ q, q < w.heap.size → q ≠ g → q ≠ r → w'.heap[q]? = w.heap[q]?

theorem OnlyGR.refl (g r : Nat) (w : World) : OnlyGR g r w w := ⟨rfl, rfl, rfl, Nat.le_refl _, fun _ _ _ _ => rfl⟩

theorem OnlyGR.drew {g r : Nat} {w w' : World} (h : OnlyGR g r w w') : OnlyGR g r w w'.drew := ⟨h.os, h.tape, h.output, h.size, h.block⟩

theorem OnlyGR.put {g r : Nat} {w w' : World} (h : OnlyGR g r w w') {o o2 : Obj} (hr : w'.heap[r]? = some o2) : OnlyGR g r w (putObj w' r o) :=
  ⟨h.os, h.tape, h.output, by rw [putObj_size]; exact h.size, fun q hq h1 h2 => (putObj_far hr h2).trans (h.block q hq h1 h2)⟩

theorem OnlyGR.set {g r : Nat} {w w' : World} (h : OnlyGR g r w w') (i : Nat) (u : Value) : OnlyGR g r w (w'.setCell ⟨g, i, none⟩ u) := by
  refine ⟨h.os, h.tape, h.output, by simpa using h.size, fun q hq h1 h2 => ?_⟩
  have := h.block q hq h1 h2
  simp [World.setCell, Array.getElem?_modify, Ne.symm h1, this]

theorem OnlyGR.alloc {g r : Nat} {w w' : World} (h : OnlyGR g r w w') (o : Obj) : OnlyGR g r w (w'.alloc o) :=
  ⟨h.os, h.tape, h.output, by simp; have := h.size; omega, fun q hq h1 h2 => (Below.heap_alloc _ _ _ (Nat.lt_of_lt_of_le hq h.size)).trans (h.block q hq h1 h2)⟩

end Go.Proofs.Ytjlemghmpnkncaa
