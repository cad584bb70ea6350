/-
  Walks of package trap: what is thrown.
-/
import Derived.Test.YtjlemghmpnkncaaDoorBase
import Derived.Defers
import Derived.Recover
namespace Go.Proofs.YtjlemghmpnkncaaDoor
open Go.RowKit
set_option linter.unusedSimpArgs false
set_option linter.unusedVariables false

/-- What throwing with a code comes to. -/
def thrownCode (c : Int) : Int := if c = 0 then 1 else c

/-- The fault that is thrown, as the value that panics. -/
def faultV (a c : Int) : Value := .iface 59 (.agg #[.int .i64 a, .int .i64 c])

theorem throw_any (a c : Int) (w : World) :
    Calls Tryd.prog 100 #[.int .i64 a, .int .i64 c] w fun e w' => e = .panicked [{ v := faultV a (thrownCode c), recovered := false }] ∧ w = w' := by
  by_cases h : c = 0
  · subst h
    go_enter Tryd.func100, Tryd.ntmps100
    go_wp2
    exact ⟨rfl, rfl, rfl⟩
  · have H : Hid (thrownCode c = c) := Lib.hid (by simp [thrownCode, h])
    have e : (c == 0) = false := by simpa using h
    clear h
    go_enter Tryd.func100, Tryd.ntmps100
    go_wp2
    exact ⟨rfl, by rw [H.out]; rfl, rfl⟩

theorem Check_no (a c : Int) (w : World) :
    Calls Tryd.prog 73 #[.bool false, .int .i64 a, .int .i64 c] w fun e w' => e = .panicked [{ v := faultV a (thrownCode c), recovered := false }] ∧ w = w' := by
  go_enter Tryd.func73, Tryd.ntmps73
  go_wp2_with (go_at_call 100; refine (throw_any _ _ _).mono ?_; rintro e w' ⟨rfl, rfl⟩)
  exact ⟨rfl, rfl, rfl⟩

theorem Check_yes (a c : Int) (w : World) :
    Calls Tryd.prog 73 #[.bool true, .int .i64 a, .int .i64 c] w fun e w' => e = .returned (.tuple #[]) ∧ w = w' := by
  go_enter Tryd.func73, Tryd.ntmps73
  go_wp2_with fail
  go_end0
  exact ⟨rfl, rfl⟩

set_option maxRecDepth 20000 in
theorem told_any (a c : Int) (w : World) :
    Calls Tryd.prog 92 #[.iface 59 (.agg #[.int .i64 a, .int .i64 c])] w fun e w' => e = .returned (.agg #[.int .i64 a, .int .i64 c]) ∧ Below w.heap.size w w' := by
  have hta : ∀ w : World, (Instr.typeAssert (.iface 59 (.agg #[.int .i64 a, .int .i64 c])) 20 59 true).run Tryd.prog w = .ok (.tuple #[.agg #[.int .i64 a, .int .i64 c], .bool true]) w := fun _ => by kernel_rfl
  go_enter Tryd.func92, Tryd.ntmps92
  go_wp2
  refine bodyPost_ret (v := .agg #[.int .i64 a, .int .i64 c]) ?_ rfl ⟨rfl, ?_⟩
  · simp [results, Tryd.results92, go_sem]
  · exact (below_box _ _).alloc (by simp) _

/-- What the deferred call leaves in the two results' cells. -/
def Caught (g : Nat) (a c : Int) (w w' : World) : Prop :=
  w'.cell? ⟨g, 0, none⟩ = some (.int .i64 a) ∧ w'.cell? ⟨g, 1, none⟩ = some (.int .i64 c) ∧ w'.cell? ⟨g + 1, 0, none⟩ = some (.bool true) ∧ Below g w w'

set_option maxRecDepth 20000 in
theorem catch1_panics (g : Nat) (a c x y : Int) (b : Bool) (older : List PanicEntry) (w : World) (hg : g + 1 < w.heap.size)
    (h0 : w.cell? ⟨g, 0, none⟩ = some (.int .i64 x)) (h1 : w.cell? ⟨g, 1, none⟩ = some (.int .i64 y)) (h2 : w.cell? ⟨g + 1, 0, none⟩ = some (.bool b))
    (f0 : w.frozen? ⟨g, 0, none⟩ = false) (f1 : w.frozen? ⟨g, 1, none⟩ = false) (f2 : w.frozen? ⟨g + 1, 0, none⟩ = false) :
    CallsD Tryd.prog 91 #[.pointer (some ⟨g, 0, none⟩), .pointer (some ⟨g + 1, 0, none⟩)] (.panicking ({ v := faultV a c, recovered := false } :: older)) w fun e u' w' =>
      e = .returned (.tuple #[]) ∧ u' = .panicking ({ v := faultV a c, recovered := true } :: older) ∧ Caught g a c w w' := by
  have hne : ∀ w : World, (binOp .neq 20 (faultV a c) .nilIface).run Tryd.prog w = .ok (.bool true) w := fun _ => by kernel_rfl
  have heg : ∀ w : World, (eqGuard .neq 20 (.tmp 4) (.const .nilIface) (faultV a c) .nilIface).run Tryd.prog w = .ok () w := fun _ => by kernel_rfl
  refine callsD_of_wpS Tryd.func91 rfl fun c₀ cs hu => ?_
  apply wpS_seq
  apply wpS_region
  simp [wpOpsS, go_sem, recoverD, hu, Tryd.ntmps91, Exit.thenS]
  refine wpS_of_wp ?_
  simp only [Array.replicate_succ, Array.replicate_zero, List.push_toArray, List.append_toArray, List.nil_append, List.cons_append, List.setIfInBounds_toArray, List.set_cons_succ, List.set_cons_zero]
  clear hu
  have hg0 : g < w.heap.size := by omega
  go_wp2_with (go_at_call 92; refine (told_any _ _ _).mono ?_; rintro e w1 ⟨rfl, hb⟩; obtain ⟨hc, hf⟩ := bcell hb)
  refine ⟨rfl, _, rfl, _, results_none rfl _ _ _, rfl, rfl, ?_⟩
  refine ⟨?_, ?_, ?_, ?_⟩
  · simp [go_sem, hc, hg0, hg, h0, h1, h2]
  · simp [go_sem, hc, hg0, hg, h0, h1, h2]
  · simp [go_sem, hc, hg0, hg, h0, h1, h2]
  · exact (((hb.mono (by omega)).setCell (by simp) _).setCell (by simp) _).setCell (by simp) _

theorem catch1_idle (g : Nat) (w : World) :
    CallsD Tryd.prog 91 #[.pointer (some ⟨g, 0, none⟩), .pointer (some ⟨g + 1, 0, none⟩)] .returning w fun e u' w' => e = .returned (.tuple #[]) ∧ u' = .returning ∧ w' = w := by
  have hne : ∀ w : World, (binOp .neq 20 .nilIface .nilIface).run Tryd.prog w = .ok (.bool false) w := fun _ => by kernel_rfl
  have heg : ∀ w : World, (eqGuard .neq 20 (.tmp 4) (.const .nilIface) .nilIface .nilIface).run Tryd.prog w = .ok () w := fun _ => by kernel_rfl
  refine callsD_of_wpS Tryd.func91 rfl fun c₀ cs hu => ?_
  apply wpS_seq
  apply wpS_region
  simp [wpOpsS, go_sem, recoverD, hu, Tryd.ntmps91, Exit.thenS]
  refine wpS_of_wp ?_
  simp only [Array.replicate_succ, Array.replicate_zero, List.push_toArray, List.append_toArray, List.nil_append, List.cons_append, List.setIfInBounds_toArray, List.set_cons_succ, List.set_cons_zero]
  go_wp2_with fail
  refine ⟨rfl, _, ?_, _, results_none rfl _ _ _, rfl, rfl, rfl⟩
  cases c₀
  simp_all

/-- From block B on what was there is as it was. -/
structure Keeps (B : Nat) (w w' : World) : Prop where
  size : w.heap.size ≤ w'.heap.size
  block : ∀ b, B ≤ b → b < w.heap.size → w'.heap[b]? = w.heap[b]?

theorem Keeps.cell {B : Nat} {w w' : World} (h : Keeps B w w') {b o : Nat} (hB : B ≤ b) (hb : b < w.heap.size) : w'.cell? ⟨b, o, none⟩ = w.cell? ⟨b, o, none⟩ :=
  World.cell?_of_block (w := w) (h.block b hB hb)

theorem Keeps.frozen {B : Nat} {w w' : World} (h : Keeps B w w') {b o : Nat} (hB : B ≤ b) (hb : b < w.heap.size) : w'.frozen? ⟨b, o, none⟩ = w.frozen? ⟨b, o, none⟩ :=
  World.frozen?_of_block (w := w) (h.block b hB hb)

/-- What holds of a world holds of every later one that is as it was below B. -/
def Stays (B : Nat) (Post : World → Prop) : Prop := ∀ w1 w2, Below B w1 w2 → Post w1 → Post w2

theorem Keeps.mono {B B' : Nat} {w w' : World} (h : Keeps B w w') (hB : B ≤ B') : Keeps B' w w' := ⟨h.size, fun b h1 h2 => h.block b (Nat.le_trans hB h1) h2⟩

theorem Keeps.trans {B : Nat} {a b c : World} (h : Keeps B a b) (k : Keeps B b c) : Keeps B a c :=
  ⟨Nat.le_trans h.size k.size, fun i h1 h2 => (k.block i h1 (Nat.lt_of_lt_of_le h2 h.size)).trans (h.block i h1 h2)⟩

theorem Keeps.alloc {B : Nat} {a w : World} (h : Keeps B a w) (o : Obj) : Keeps B a (w.alloc o) :=
  h.trans ⟨by simp, fun _ _ hb => Below.heap_alloc _ _ _ hb⟩

theorem Keeps.drew {B : Nat} {a w : World} (h : Keeps B a w) : Keeps B a w.drew := ⟨h.size, h.block⟩

theorem Keeps.refl (B : Nat) (w : World) : Keeps B w w := ⟨Nat.le_refl _, fun _ _ _ => rfl⟩

theorem Keeps.setCell {B : Nat} {a w : World} (h : Keeps B a w) {p : Addr} (hp : a.heap.size ≤ p.block) (u : Value) : Keeps B a (w.setCell p u) :=
  ⟨by have := h.size; simpa [World.setCell] using this, fun b h1 h2 => (Below.heap_setCell _ _ _ _ (by omega)).trans (h.block b h1 h2)⟩

theorem Keeps.below {B : Nat} {a w w' : World} (h : Keeps B a w) (k : Below a.heap.size w w') : Keeps B a w' :=
  ⟨Nat.le_trans h.size k.size, fun b h1 h2 => (k.block b h2).trans (h.block b h1 h2)⟩

theorem Stays.mono {B B' : Nat} {Post : World → Prop} (h : Stays B Post) (hB : B ≤ B') : Stays B' Post := fun w1 w2 hb hp => h w1 w2 (hb.mono hB) hp

theorem keeps_of_below {B : Nat} {w w' : World} (h : Below w.heap.size w w') : Keeps B w w' := ⟨h.size, fun b _ hb => h.block b hb⟩

theorem stays_below (B : Nat) (w : World) : Stays B (Below B w) := fun _ _ h k => k.trans h

/-- Calling function value K throws what is thrown at a place, with a code. -/
def Throws (K : FuncId) (args : Array Value) (a c : Int) (B : Nat) (Post : World → Prop) (w1 : World) : Prop :=
  Calls Tryd.prog K args w1 fun e w' => e = .panicked [{ v := faultV a c, recovered := false }] ∧ Keeps B w1 w' ∧ Post w'

/-- Calling function value K gives v. -/
def Gives (K : FuncId) (args : Array Value) (v : Value) (B : Nat) (Post : World → Prop) (w1 : World) : Prop :=
  Calls Tryd.prog K args w1 fun e w' => e = .returned v ∧ Keeps B w1 w' ∧ Post w'

/-- A function of the program with a body. -/
def Enters (K : FuncId) : Prop := ∀ (args : Array Value) (w : World), (callFunc K args).run Tryd.prog w = .ok (.enter K args) w

set_option maxRecDepth 20000 in
theorem catch_throws (K : FuncId) (first cap : Array Value) (a c : Int) (B : Nat) (Post : World → Prop) (w : World) (hcf : Enters K) (hB : B ≤ w.heap.size) (hst : Stays w.heap.size Post)
    (hK : ∀ w1, Below w.heap.size w w1 → Throws K (first ++ cap) a c B Post w1) :
    Calls Tryd.prog 64 #[.func (.func K) first cap] w fun e w' => e = .returned (.tuple #[.agg #[.int .i64 a, .int .i64 c], .bool true]) ∧ Keeps B w w' ∧ Post w' := by
  have HK := Lib.hid hK; clear hK
  have HS := Lib.hid hst; clear hst
  unfold Enters at hcf
  have hnn := fun (w : World) => run_eql_func_nil (P := Tryd.prog) w Tryd.underlying1 (.func K) first cap
  have hmf : ∀ (fn : Fn) (first cap : Array Value) (w : World), (Instr.makeFunc fn first cap).run Tryd.prog w = .ok (.func fn first cap) w := fun _ _ _ _ => rfl
  go_enter_defers Tryd.func64, Tryd.ntmps64
  go_wp2_with fail
  refine (HK.out _ ((below_box _ _).alloc (by simp) _)).mono ?_
  rintro e w2 ⟨rfl, hk, hp⟩
  have hz := hk.size
  simp at hz
  have hc : ∀ b o, w.heap.size ≤ b → b < w.heap.size + 2 → w2.cell? ⟨b, o, none⟩ = ((w.alloc (Obj.cells #[.int .i64 0, .int .i64 0] 59)).alloc (Obj.cells #[.bool false] 4)).cell? ⟨b, o, none⟩ :=
    fun b o h1 h2 => hk.cell (Nat.le_trans hB h1) (by simpa using h2)
  have hf : ∀ b o, w.heap.size ≤ b → b < w.heap.size + 2 → w2.frozen? ⟨b, o, none⟩ = ((w.alloc (Obj.cells #[.int .i64 0, .int .i64 0] 59)).alloc (Obj.cells #[.bool false] 4)).frozen? ⟨b, o, none⟩ :=
    fun b o h1 h2 => hk.frozen (Nat.le_trans hB h1) (by simpa using h2)
  refine leaves_cons (f := 91) (args := #[.pointer (some ⟨w.heap.size, 0, none⟩), .pointer (some ⟨w.heap.size + 1, 0, none⟩)]) (by simp) (by simp [go_sem]) ?_
  refine (catch1_panics w.heap.size a c 0 0 false [] w2 (by omega) ?_ ?_ ?_ ?_ ?_ ?_).mono ?_
  · rw [hc _ _ (by omega) (by omega)]; simp [go_sem]
  · rw [hc _ _ (by omega) (by omega)]; simp [go_sem]
  · rw [hc _ _ (by omega) (by omega)]; simp [go_sem]
  · rw [hf _ _ (by omega) (by omega)]; simp [go_sem]
  · rw [hf _ _ (by omega) (by omega)]; simp [go_sem]
  · rw [hf _ _ (by omega) (by omega)]; simp [go_sem]
  rintro e u' w3 ⟨rfl, rfl, g0, g1, g2, hb⟩
  have H := Lib.hid (HS.out _ _ hb hp)
  have H2 : Hid (Keeps B w w3) := Lib.hid ((((Keeps.refl B w).alloc (.cells #[.int .i64 0, .int .i64 0] 59)).alloc (.cells #[.bool false] 4)).trans hk |>.below hb)
  clear hp
  simp [Leaves, settle, results, Tryd.results64, go_sem, g0, g1, g2, H.out, H2.out]

set_option maxRecDepth 20000 in
theorem catch_gives (K : FuncId) (first cap : Array Value) (B : Nat) (Post : World → Prop) (w : World) (hcf : Enters K) (hB : B ≤ w.heap.size) (hst : Stays w.heap.size Post)
    (hK : ∀ w1, Below w.heap.size w w1 → Gives K (first ++ cap) (.tuple #[]) B Post w1) :
    Calls Tryd.prog 64 #[.func (.func K) first cap] w fun e w' => e = .returned (.tuple #[.agg #[.int .i64 0, .int .i64 0], .bool false]) ∧ Keeps B w w' ∧ Post w' := by
  have HK := Lib.hid hK; clear hK
  have HS := Lib.hid hst; clear hst
  unfold Enters at hcf
  have hnn := fun (w : World) => run_eql_func_nil (P := Tryd.prog) w Tryd.underlying1 (.func K) first cap
  have hmf : ∀ (fn : Fn) (first cap : Array Value) (w : World), (Instr.makeFunc fn first cap).run Tryd.prog w = .ok (.func fn first cap) w := fun _ _ _ _ => rfl
  go_enter_defers Tryd.func64, Tryd.ntmps64
  go_wp2_with fail
  refine (HK.out _ ((below_box _ _).alloc (by simp) _)).mono ?_
  rintro e w2 ⟨rfl, hk, hp⟩
  have hz := hk.size
  simp at hz
  have hc : ∀ b o, w.heap.size ≤ b → b < w.heap.size + 2 → w2.cell? ⟨b, o, none⟩ = ((w.alloc (Obj.cells #[.int .i64 0, .int .i64 0] 59)).alloc (Obj.cells #[.bool false] 4)).cell? ⟨b, o, none⟩ :=
    fun b o h1 h2 => hk.cell (Nat.le_trans hB h1) (by simpa using h2)
  have hf : ∀ b o, w.heap.size ≤ b → b < w.heap.size + 2 → w2.frozen? ⟨b, o, none⟩ = ((w.alloc (Obj.cells #[.int .i64 0, .int .i64 0] 59)).alloc (Obj.cells #[.bool false] 4)).frozen? ⟨b, o, none⟩ :=
    fun b o h1 h2 => hk.frozen (Nat.le_trans hB h1) (by simpa using h2)
  have c0 : w2.cell? ⟨w.heap.size, 0, none⟩ = some (.int .i64 0) := by rw [hc _ _ (by omega) (by omega)]; simp [go_sem]
  have c1 : w2.cell? ⟨w.heap.size, 1, none⟩ = some (.int .i64 0) := by rw [hc _ _ (by omega) (by omega)]; simp [go_sem]
  have c2 : w2.cell? ⟨w.heap.size + 1, 0, none⟩ = some (.bool false) := by rw [hc _ _ (by omega) (by omega)]; simp [go_sem]
  have f0 : w2.frozen? ⟨w.heap.size, 0, none⟩ = false := by rw [hf _ _ (by omega) (by omega)]; simp [go_sem]
  have f1 : w2.frozen? ⟨w.heap.size, 1, none⟩ = false := by rw [hf _ _ (by omega) (by omega)]; simp [go_sem]
  have f2 : w2.frozen? ⟨w.heap.size + 1, 0, none⟩ = false := by rw [hf _ _ (by omega) (by omega)]; simp [go_sem]
  clear hc hf
  have HP := Lib.hid hp
  have HK2 : Hid (Keeps B w w2) := Lib.hid ((((Keeps.refl B w).alloc (.cells #[.int .i64 0, .int .i64 0] 59)).alloc (.cells #[.bool false] 4)).trans hk)
  clear hp hk
  go_wp2_with fail
  refine leaves_cons (f := 91) (args := #[.pointer (some ⟨w.heap.size, 0, none⟩), .pointer (some ⟨w.heap.size + 1, 0, none⟩)]) (by simp) (by simp [go_sem]) ?_
  refine (catch1_idle w.heap.size _).mono ?_
  rintro e u' w3 ⟨rfl, rfl, rfl⟩
  have H := Lib.hid (HS.out _ _ ((((Below.refl w.heap.size w2).setCell (Nat.le_refl _) (.int .i64 0) (p := ⟨w.heap.size, 0, none⟩)).setCell (Nat.le_refl _) (.int .i64 0) (p := ⟨w.heap.size, 1, none⟩)).setCell (by simp) (.bool false) (p := ⟨w.heap.size + 1, 0, none⟩)) HP.out)
  have H2 := Lib.hid (((HK2.out.setCell (Nat.le_refl _) (.int .i64 0) (p := ⟨w.heap.size, 0, none⟩)).setCell (Nat.le_refl _) (.int .i64 0) (p := ⟨w.heap.size, 1, none⟩)).setCell (by simp) (.bool false) (p := ⟨w.heap.size + 1, 0, none⟩))
  simp [Leaves, settle, results, Tryd.results64, go_sem, c0, c1, c2, H.out, H2.out]

theorem catch_nil (w : World) :
    Calls Tryd.prog 64 #[.nilFunc] w fun e w' => e = .returned (.tuple #[.agg #[.int .i64 0, .int .i64 1], .bool true]) ∧ Below w.heap.size w w' := by
  have hnn := fun (w : World) => run_eql_nil_func (P := Tryd.prog) w Tryd.underlying1
  go_enter_defers Tryd.func64, Tryd.ntmps64
  go_wp2_with fail
  have h := ((below_box w (.cells #[.int .i64 0, .int .i64 1] 59)).alloc (by simp) (.cells #[.bool true] 4))
  simp [bodyPostD, Leaves, settle, results, Tryd.results64, go_sem, h]

end Go.Proofs.YtjlemghmpnkncaaDoor
