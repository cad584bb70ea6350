/-
  Lemmas of this claim, part 1: the texts Base, TrapA, TrapB, BytesPlain, ClassA, TextsPlain, one behind the other.
-/
import Derived.Test.YtcbhkcdphbffpaaGreatDoorRows
import Derived.WalkKit
import Derived.WalkSpells
import Derived.WalkLawsBesides
import Derived.ProofKit
import Derived.OpenShut
import Derived.ShutString
import Derived.ChangeOld
import Derived.Below
import Derived.Lib.Hide
import Derived.Lib.Strings
import Derived.Deep.QuietTactic
import Derived.BigQuiet
import Derived.WalkSmall
import Derived.Defers
import Derived.Recover
import Derived.Lib.Bytealg

namespace Go.Proofs.YtcbhkcdphbffpaaGreatDoor
open Go.ChangeShapes Go.WideShapes Go.ChangeAt Go.RowKit

theorem own : ownKnob Tryz.prog.godebug = none := by kernel_rfl

theorem laidOut : laidOutB Tryz.prog = true := by kernel_rfl

theorem bcell {W w1 : World} (hb : Below W.heap.size W w1) :
    (∀ b o, b < W.heap.size → w1.cell? ⟨b, o, none⟩ = W.cell? ⟨b, o, none⟩) ∧ (∀ b o, b < W.heap.size → w1.frozen? ⟨b, o, none⟩ = W.frozen? ⟨b, o, none⟩) :=
  ⟨fun b o h => hb.cell (p := ⟨b, o, none⟩) h, fun b o h => hb.frozen (p := ⟨b, o, none⟩) h⟩

theorem ret_bool {a b : Bool} (h : a = b) : Ending.returned (.bool a) = Ending.returned (.bool b) := by rw [h]

theorem ret_int {k : IntKind} {a b : Int} (h : a = b) : Ending.returned (.int k a) = Ending.returned (.int k b) := by rw [h]

theorem ret_string {a b : ByteArray} (h : a = b) : Ending.returned (.string a) = Ending.returned (.string b) := by rw [h]

theorem ret_ib {k : IntKind} {a b : Int} {x y : Bool} (h : a = b) (h2 : x = y) : Ending.returned (.tuple #[.int k a, .bool x]) = Ending.returned (.tuple #[.int k b, .bool y]) := by rw [h, h2]

theorem ret_ii {k k2 : IntKind} {a b x y : Int} (h : a = b) (h2 : x = y) : Ending.returned (.tuple #[.int k a, .int k2 x]) = Ending.returned (.tuple #[.int k b, .int k2 y]) := by rw [h, h2]

theorem below_box (w : World) (o : Obj) : Below w.heap.size w (w.alloc o) := (Below.refl _ _).alloc (Nat.le_refl _) _

theorem below_after {w w1 : World} {o : Obj} (h : Below (w.alloc o).heap.size (w.alloc o) w1) : Below w.heap.size w w1 := (below_box w o).trans (h.mono (by simp))

theorem below_after2 {w w1 : World} {o o2 : Obj} (h : Below ((w.alloc o).alloc o2).heap.size ((w.alloc o).alloc o2) w1) : Below w.heap.size w w1 :=
  ((below_box w o).alloc (by simp) o2).trans (h.mono (by simp; omega))

theorem below_after3 {w w1 : World} {o o2 o3 : Obj} (h : Below (((w.alloc o).alloc o2).alloc o3).heap.size (((w.alloc o).alloc o2).alloc o3) w1) : Below w.heap.size w w1 :=
  (((below_box w o).alloc (by simp) o2).alloc (by simp; omega) o3).trans (h.mono (by simp; omega))

theorem trodAll_below {H : Type} {enc : TypeId × Value → H} {P : Program} (hl : laidOutB P = true) {W W' : World} (hb : Below W.heap.size W W') :
    ∀ (ts : List TypeId) (vs : List Value) (ds : List (DataW H)) (ps : List MemPlace), (∀ t ∈ ts, P.readableRec t = true ∧ t < P.types.size) → (∀ x ∈ ps, x.block < W.heap.size) →
      DataW.TrodAll enc P W 0 (fun _ => true) true ts vs ds ps → DataW.TrodAll enc P W' 0 (fun b => decide (b < W.heap.size)) true ts vs ds ps
  | [], [], [], ps, _, _, h => h
  | [], [], _ :: _, ps, _, _, h => h.elim
  | [], _ :: _, _, ps, _, _, h => h.elim
  | _ :: _, [], _, ps, _, _, h => h.elim
  | _ :: _, _ :: _, [], ps, _, _, h => h.elim
  | t :: ts, v :: vs, d :: ds, ps, hr, hlt, h => by
    obtain ⟨p, q, h1, h2, rfl⟩ := h
    refine ⟨p, q, Below.trod hl (hr t (by simp)).1 (hr t (by simp)).2 h1 hb (fun x hx => hlt x (by simp [hx])), ?_, rfl⟩
    exact trodAll_below hl hb ts vs ds q (fun t ht => hr t (by simp [ht])) (fun x hx => hlt x (by simp [hx])) h2

theorem law_post {H : Type} {enc : TypeId × Value → H} {P : Program} {fn : Func} {s : ChangeSpec} {W W' : World} {args : Array Value} {ds : List (DataW H)} {before : List MemPlace}
    (hl : laidOutB P = true) (hs : s.vars = []) {tb : TypeId} (hres : fn.resultTypes = #[tb]) (ht : P.underlying tb = some .bool)
    (hread : ∀ t ∈ fn.params.toList, P.readableRec t = true ∧ t < P.types.size)
    (hW : DataW.Whole enc P fn.params.toList s.vars false W args.toList ds [] before) (hlt : ∀ x ∈ before, x.block < W.heap.size)
    (h1 : (s.fn H (ds ++ [])).results = [.lit (.bool true)]) (h2 : (s.fn H (ds ++ [])).args = ds) (h3 : (s.fn H (ds ++ [])).vars = [])
    (bel : Below W.heap.size W W') : s.post enc P fn false true false false W args (.bool true) W' := by
  have hW0 := hW
  obtain ⟨p, q, hA, hV, rfl, _, _⟩ := hW
  refine ⟨ds, [], _, [], p, [], hW0, ?_, ?_, ?_, bel.frame _, fun h => by cases h⟩
  · rw [h1, hres]
    exact trodAll_mk1 (shut_bool ht _)
  · rw [h2]
    exact trodAll_below hl bel _ _ _ _ hread (fun x hx => hlt x (by simp [hx])) hA
  · rw [h3, hs]
    rfl

section
variable {P : Program} (w : World)

theorem run_eql_func_nil {t : TypeId} {ps rs : Array TypeId} {vd : Bool} (ht : P.underlying t = some (.func ps rs vd)) (fn : Fn) (f c : Array Value) :
    (binOp .eql t (.func fn f c) .nilFunc).run P w = .ok (.bool false) w := by
  have h : ∀ d, (Op.equalIn (d + 1) t (.func fn f c) .nilFunc).run P w = .ok false w := by intro d; simp [Op.equalIn, run_underlying ht]
  simp only [binOp]
  simp [Op.equal, Op.maxDepth, h 9999]

theorem run_neq_func_nil {t : TypeId} {ps rs : Array TypeId} {vd : Bool} (ht : P.underlying t = some (.func ps rs vd)) (fn : Fn) (f c : Array Value) :
    (binOp .neq t (.func fn f c) .nilFunc).run P w = .ok (.bool true) w := by
  have h : ∀ d, (Op.equalIn (d + 1) t (.func fn f c) .nilFunc).run P w = .ok false w := by intro d; simp [Op.equalIn, run_underlying ht]
  simp only [binOp]
  simp [Op.equal, Op.maxDepth, h 9999]

theorem run_eql_nil_func {t : TypeId} {ps rs : Array TypeId} {vd : Bool} (ht : P.underlying t = some (.func ps rs vd)) :
    (binOp .eql t .nilFunc .nilFunc).run P w = .ok (.bool true) w := by
  have h : ∀ d, (Op.equalIn (d + 1) t .nilFunc .nilFunc).run P w = .ok true w := by intro d; simp [Op.equalIn, run_underlying ht]
  simp only [binOp]
  simp [Op.equal, Op.maxDepth, h 9999]

theorem run_neq_nil_func {t : TypeId} {ps rs : Array TypeId} {vd : Bool} (ht : P.underlying t = some (.func ps rs vd)) :
    (binOp .neq t .nilFunc .nilFunc).run P w = .ok (.bool false) w := by
  have h : ∀ d, (Op.equalIn (d + 1) t .nilFunc .nilFunc).run P w = .ok true w := by intro d; simp [Op.equalIn, run_underlying ht]
  simp only [binOp]
  simp [Op.equal, Op.maxDepth, h 9999]

end

theorem below_trans {a b c : World} (h : Below a.heap.size a b) (k : Below b.heap.size b c) : Below a.heap.size a c := h.trans (k.mono h.size)

theorem cell_below {B : Nat} {w w' : World} (h : Below B w w') {b o : Nat} (hb : b < B) : w'.cell? ⟨b, o, none⟩ = w.cell? ⟨b, o, none⟩ := h.cell (p := ⟨b, o, none⟩) hb

theorem frozen_below {B : Nat} {w w' : World} (h : Below B w w') {b o : Nat} (hb : b < B) : w'.frozen? ⟨b, o, none⟩ = w.frozen? ⟨b, o, none⟩ := h.frozen (p := ⟨b, o, none⟩) hb

theorem below_undrew {w w1 : World} (h : Below w.drew.heap.size w.drew w1) : Below w.heap.size w w1 := ⟨h.os, h.tape, h.output, h.size, h.block⟩

theorem lt_of_cell {w : World} {g o : Nat} {v : Value} (h : w.cell? ⟨g, o, none⟩ = some v) : g < w.heap.size := by
  rcases Nat.lt_or_ge g w.heap.size with hlt | hge
  · exact hlt
  · simp [World.cell?, Array.getElem?_eq_none hge] at h

/-- One block more, and a call that makes memory alone. -/
theorem below_step {w w1 w2 : World} {o : Obj} (h : Below w.heap.size w w1) (k : Below (w1.alloc o).heap.size (w1.alloc o) w2) : Below w.heap.size w w2 :=
  (h.alloc h.size o).trans (k.mono (by have := h.size; simp; omega))

/-- The world w' is w after some draws. -/
def Drew (w w' : World) : Prop := ∃ n, w' = w.drewN n

theorem Drew.refl (w : World) : Drew w w := ⟨0, rfl⟩

theorem Drew.drewN {w w' : World} (h : Drew w w') (n : Nat) : Drew w (w'.drewN n) := by
  obtain ⟨m, rfl⟩ := h
  exact ⟨m + n, by rw [World.drewN_drewN]⟩

theorem Drew.drew {w w' : World} (h : Drew w w') : Drew w w'.drew := h.drewN 1

theorem Drew.trans {a b c : World} (h : Drew a b) (k : Drew b c) : Drew a c := by
  obtain ⟨m, rfl⟩ := k
  exact h.drewN m

theorem Drew.below {w w' : World} (h : Drew w w') (B : Nat) : Below B w w' := by
  obtain ⟨m, rfl⟩ := h
  exact below_drewN (Below.refl _ _) m

theorem quiet_same {P : Program} {f : FuncId} {args : Array Value} {w : World} {n : Nat} {v : Value}
    (h : Calls P f args (w.drewN n) fun e w' => e = .returned v ∧ w.drewN n = w') : Calls P f args (w.drewN n) fun e w'' => e = .returned v ∧ ∃ m, w'' = w.drewN m :=
  h.mono fun _ _ ⟨he, hm⟩ => ⟨he, n, hm.symm⟩

theorem quiet_drew {P : Program} {f : FuncId} {args : Array Value} {w : World} {n : Nat} {v : Value}
    (h : Calls P f args (w.drewN n) fun e w' => e = .returned v ∧ Drew (w.drewN n) w') : Calls P f args (w.drewN n) fun e w'' => e = .returned v ∧ ∃ m, w'' = w.drewN m :=
  h.mono fun _ _ ⟨he, m, hm⟩ => ⟨he, n + m, by rw [hm, World.drewN_drewN]⟩

theorem quiet_add_left {P : Program} {f : FuncId} {args : Array Value} {w : World} {a n : Nat} {v : Value}
    (h : Calls P f args (w.drewN (a + n)) fun e w' => e = .returned v ∧ w.drewN (a + n) = w') :
    Calls P f args (w.drewN (a + n)) fun e w'' => e = .returned v ∧ ∃ m, w'' = w.drewN (a + m) :=
  h.mono fun _ _ ⟨he, hm⟩ => ⟨he, n, hm.symm⟩

/-- Reading a byte of a text, under a name of its own. -/
theorem index_byte {P : Program} (t : TypeId) (ht : P.underlying t = some .string) (s : ByteArray) (k : Nat) (hk : k < s.size) (w : World) :
    (Instr.index t (.string s) (.int .i64 (k : Int))).run P w = .ok (.int .u8 ((s[k]).toNat : Int)) w := by
  rw [run_index_string w t s .i64 k ht]
  simp [hk]

theorem index_zero {P : Program} (t : TypeId) (ht : P.underlying t = some .string) (s : ByteArray) (hk : 0 < s.size) (w : World) :
    (Instr.index t (.string s) (.int .i64 0)).run P w = .ok (.int .u8 ((s[0]).toNat : Int)) w :=
  index_byte t ht s 0 hk w

/-- The length of a text in a slot, for a loop's measure. -/
def strLen : Value → Nat | .string t => t.size | _ => 0

theorem byte_of_wf {x : Int} (h : (Lit.int .u8 x).wf = true) : ∃ b : UInt8, x = (b.toNat : Int) := by
  have hb := bounds_u8 h
  refine ⟨UInt8.ofNat x.toNat, ?_⟩
  simp only [UInt8.toNat_ofNat']
  omega

end Go.Proofs.YtcbhkcdphbffpaaGreatDoor

namespace Go.Proofs.YtcbhkcdphbffpaaGreatDoor
open Go.RowKit
set_option linter.unusedSimpArgs false
set_option linter.unusedVariables false

/-- What throwing with a code comes to. -/
def thrownCode (c : Int) : Int := if c = 0 then 1 else c

/-- The fault that is thrown, as the value that panics. -/
def faultV (a c : Int) : Value := .iface 156 (.agg #[.int .i64 a, .int .i64 c])

theorem throw_any (a c : Int) (w : World) :
    Calls Tryz.prog 173 #[.int .i64 a, .int .i64 c] w fun e w' => e = .panicked [{ v := faultV a (thrownCode c), recovered := false }] ∧ w = w' := by
  by_cases h : c = 0
  · subst h
    go_enter Tryz.func173, Tryz.ntmps173
    go_wp2
    exact ⟨rfl, rfl, rfl⟩
  · have H : Hid (thrownCode c = c) := Lib.hid (by simp [thrownCode, h])
    have e : (c == 0) = false := by simpa using h
    clear h
    go_enter Tryz.func173, Tryz.ntmps173
    go_wp2
    exact ⟨rfl, by rw [H.out]; rfl, rfl⟩

theorem Check_no (a c : Int) (w : World) :
    Calls Tryz.prog 146 #[.bool false, .int .i64 a, .int .i64 c] w fun e w' => e = .panicked [{ v := faultV a (thrownCode c), recovered := false }] ∧ w = w' := by
  go_enter Tryz.func146, Tryz.ntmps146
  go_wp2_with (go_at_call 173; refine (throw_any _ _ _).mono ?_; rintro e w' ⟨rfl, rfl⟩)
  exact ⟨rfl, rfl, rfl⟩

theorem Check_yes (a c : Int) (w : World) :
    Calls Tryz.prog 146 #[.bool true, .int .i64 a, .int .i64 c] w fun e w' => e = .returned (.tuple #[]) ∧ w = w' := by
  go_enter Tryz.func146, Tryz.ntmps146
  go_wp2_with fail
  go_end0
  exact ⟨rfl, rfl⟩

set_option maxRecDepth 20000 in
theorem told_any (a c : Int) (w : World) :
    Calls Tryz.prog 193 #[.iface 156 (.agg #[.int .i64 a, .int .i64 c])] w fun e w' => e = .returned (.agg #[.int .i64 a, .int .i64 c]) ∧ Below w.heap.size w w' := by
  have hta : ∀ w : World, (Instr.typeAssert (.iface 156 (.agg #[.int .i64 a, .int .i64 c])) 20 156 true).run Tryz.prog w = .ok (.tuple #[.agg #[.int .i64 a, .int .i64 c], .bool true]) w := fun _ => by kernel_rfl
  go_enter Tryz.func193, Tryz.ntmps193
  go_wp2
  refine bodyPost_ret (v := .agg #[.int .i64 a, .int .i64 c]) ?_ rfl ⟨rfl, ?_⟩
  · simp [results, Tryz.results193, go_sem]
  · exact (below_box _ _).alloc (by simp) _

/-- What the deferred call leaves in the two results' cells. -/
def Caught (g : Nat) (a c : Int) (w w' : World) : Prop :=
  w'.cell? ⟨g, 0, none⟩ = some (.int .i64 a) ∧ w'.cell? ⟨g, 1, none⟩ = some (.int .i64 c) ∧ w'.cell? ⟨g + 1, 0, none⟩ = some (.bool true) ∧ Below g w w'

set_option maxRecDepth 20000 in
theorem catch1_panics (g : Nat) (a c x y : Int) (b : Bool) (older : List PanicEntry) (w : World) (hg : g + 1 < w.heap.size)
    (h0 : w.cell? ⟨g, 0, none⟩ = some (.int .i64 x)) (h1 : w.cell? ⟨g, 1, none⟩ = some (.int .i64 y)) (h2 : w.cell? ⟨g + 1, 0, none⟩ = some (.bool b))
    (f0 : w.frozen? ⟨g, 0, none⟩ = false) (f1 : w.frozen? ⟨g, 1, none⟩ = false) (f2 : w.frozen? ⟨g + 1, 0, none⟩ = false) :
    CallsD Tryz.prog 192 #[.pointer (some ⟨g, 0, none⟩), .pointer (some ⟨g + 1, 0, none⟩)] (.panicking ({ v := faultV a c, recovered := false } :: older)) w fun e u' w' =>
      e = .returned (.tuple #[]) ∧ u' = .panicking ({ v := faultV a c, recovered := true } :: older) ∧ Caught g a c w w' := by
  have hne : ∀ w : World, (binOp .neq 20 (faultV a c) .nilIface).run Tryz.prog w = .ok (.bool true) w := fun _ => by kernel_rfl
  have heg : ∀ w : World, (eqGuard .neq 20 (.tmp 4) (.const .nilIface) (faultV a c) .nilIface).run Tryz.prog w = .ok () w := fun _ => by kernel_rfl
  refine callsD_of_wpS Tryz.func192 rfl fun c₀ cs hu => ?_
  apply wpS_seq
  apply wpS_region
  simp [wpOpsS, go_sem, recoverD, hu, Tryz.ntmps192, Exit.thenS]
  refine wpS_of_wp ?_
  simp only [Array.replicate_succ, Array.replicate_zero, List.push_toArray, List.append_toArray, List.nil_append, List.cons_append, List.setIfInBounds_toArray, List.set_cons_succ, List.set_cons_zero]
  clear hu
  have hg0 : g < w.heap.size := by omega
  go_wp2_with (go_at_call 193; refine (told_any _ _ _).mono ?_; rintro e w1 ⟨rfl, hb⟩; obtain ⟨hc, hf⟩ := bcell hb)
  refine ⟨rfl, _, rfl, _, results_none rfl _ _ _, rfl, rfl, ?_⟩
  refine ⟨?_, ?_, ?_, ?_⟩
  · simp [go_sem, hc, hg0, hg, h0, h1, h2]
  · simp [go_sem, hc, hg0, hg, h0, h1, h2]
  · simp [go_sem, hc, hg0, hg, h0, h1, h2]
  · exact (((hb.mono (by omega)).setCell (by simp) _).setCell (by simp) _).setCell (by simp) _

theorem catch1_idle (g : Nat) (w : World) :
    CallsD Tryz.prog 192 #[.pointer (some ⟨g, 0, none⟩), .pointer (some ⟨g + 1, 0, none⟩)] .returning w fun e u' w' => e = .returned (.tuple #[]) ∧ u' = .returning ∧ w' = w := by
  have hne : ∀ w : World, (binOp .neq 20 .nilIface .nilIface).run Tryz.prog w = .ok (.bool false) w := fun _ => by kernel_rfl
  have heg : ∀ w : World, (eqGuard .neq 20 (.tmp 4) (.const .nilIface) .nilIface .nilIface).run Tryz.prog w = .ok () w := fun _ => by kernel_rfl
  refine callsD_of_wpS Tryz.func192 rfl fun c₀ cs hu => ?_
  apply wpS_seq
  apply wpS_region
  simp [wpOpsS, go_sem, recoverD, hu, Tryz.ntmps192, Exit.thenS]
  refine wpS_of_wp ?_
  simp only [Array.replicate_succ, Array.replicate_zero, List.push_toArray, List.append_toArray, List.nil_append, List.cons_append, List.setIfInBounds_toArray, List.set_cons_succ, List.set_cons_zero]
  go_wp2_with fail
  refine ⟨rfl, _, ?_, _, results_none rfl _ _ _, rfl, rfl, rfl⟩
  cases c₀
  simp_all

/-- From block B on what was there is as it was. -/
structure Keeps (B : Nat) (w w' : World) : Prop where
  size : w.heap.size ≤ w'.heap.size
  block : ∀ b, B ≤ b → b < w.heap.size → w'.heap[b]? = w.heap[b]?

theorem Keeps.cell {B : Nat} {w w' : World} (h : Keeps B w w') {b o : Nat} (hB : B ≤ b) (hb : b < w.heap.size) : w'.cell? ⟨b, o, none⟩ = w.cell? ⟨b, o, none⟩ :=
  World.cell?_of_block (w := w) (h.block b hB hb)

theorem Keeps.frozen {B : Nat} {w w' : World} (h : Keeps B w w') {b o : Nat} (hB : B ≤ b) (hb : b < w.heap.size) : w'.frozen? ⟨b, o, none⟩ = w.frozen? ⟨b, o, none⟩ :=
  World.frozen?_of_block (w := w) (h.block b hB hb)

/-- What holds of a world holds of every later one that is as it was below B. -/
def Stays (B : Nat) (Post : World → Prop) : Prop := ∀ w1 w2, Below B w1 w2 → Post w1 → Post w2

theorem Keeps.mono {B B' : Nat} {w w' : World} (h : Keeps B w w') (hB : B ≤ B') : Keeps B' w w' := ⟨h.size, fun b h1 h2 => h.block b (Nat.le_trans hB h1) h2⟩

theorem Keeps.trans {B : Nat} {a b c : World} (h : Keeps B a b) (k : Keeps B b c) : Keeps B a c :=
  ⟨Nat.le_trans h.size k.size, fun i h1 h2 => (k.block i h1 (Nat.lt_of_lt_of_le h2 h.size)).trans (h.block i h1 h2)⟩

theorem Keeps.alloc {B : Nat} {a w : World} (h : Keeps B a w) (o : Obj) : Keeps B a (w.alloc o) :=
  h.trans ⟨by simp, fun _ _ hb => Below.heap_alloc _ _ _ hb⟩

theorem Keeps.drew {B : Nat} {a w : World} (h : Keeps B a w) : Keeps B a w.drew := ⟨h.size, h.block⟩

theorem Keeps.refl (B : Nat) (w : World) : Keeps B w w := ⟨Nat.le_refl _, fun _ _ _ => rfl⟩

theorem Keeps.setCell {B : Nat} {a w : World} (h : Keeps B a w) {p : Addr} (hp : a.heap.size ≤ p.block) (u : Value) : Keeps B a (w.setCell p u) :=
  ⟨by have := h.size; simpa [World.setCell] using this, fun b h1 h2 => (Below.heap_setCell _ _ _ _ (by omega)).trans (h.block b h1 h2)⟩

theorem Keeps.below {B : Nat} {a w w' : World} (h : Keeps B a w) (k : Below a.heap.size w w') : Keeps B a w' :=
  ⟨Nat.le_trans h.size k.size, fun b h1 h2 => (k.block b h2).trans (h.block b h1 h2)⟩

theorem Stays.mono {B B' : Nat} {Post : World → Prop} (h : Stays B Post) (hB : B ≤ B') : Stays B' Post := fun w1 w2 hb hp => h w1 w2 (hb.mono hB) hp

theorem keeps_of_below {B : Nat} {w w' : World} (h : Below w.heap.size w w') : Keeps B w w' := ⟨h.size, fun b _ hb => h.block b hb⟩

theorem stays_below (B : Nat) (w : World) : Stays B (Below B w) := fun _ _ h k => k.trans h

/-- Calling function value K throws what is thrown at a place, with a code. -/
def Throws (K : FuncId) (args : Array Value) (a c : Int) (B : Nat) (Post : World → Prop) (w1 : World) : Prop :=
  Calls Tryz.prog K args w1 fun e w' => e = .panicked [{ v := faultV a c, recovered := false }] ∧ Keeps B w1 w' ∧ Post w'

/-- Calling function value K gives v. -/
def Gives (K : FuncId) (args : Array Value) (v : Value) (B : Nat) (Post : World → Prop) (w1 : World) : Prop :=
  Calls Tryz.prog K args w1 fun e w' => e = .returned v ∧ Keeps B w1 w' ∧ Post w'

/-- A function of the program with a body. -/
def Enters (K : FuncId) : Prop := ∀ (args : Array Value) (w : World), (callFunc K args).run Tryz.prog w = .ok (.enter K args) w

set_option maxRecDepth 20000 in
theorem catch_throws (K : FuncId) (first cap : Array Value) (a c : Int) (B : Nat) (Post : World → Prop) (w : World) (hcf : Enters K) (hB : B ≤ w.heap.size) (hst : Stays w.heap.size Post)
    (hK : ∀ w1, Below w.heap.size w w1 → Throws K (first ++ cap) a c B Post w1) :
    Calls Tryz.prog 170 #[.func (.func K) first cap] w fun e w' => e = .returned (.tuple #[.agg #[.int .i64 a, .int .i64 c], .bool true]) ∧ Keeps B w w' ∧ Post w' := by
  have HK := Lib.hid hK; clear hK
  have HS := Lib.hid hst; clear hst
  unfold Enters at hcf
  have hnn := fun (w : World) => run_eql_func_nil (P := Tryz.prog) w Tryz.underlying1 (.func K) first cap
  have hmf : ∀ (fn : Fn) (first cap : Array Value) (w : World), (Instr.makeFunc fn first cap).run Tryz.prog w = .ok (.func fn first cap) w := fun _ _ _ _ => rfl
  go_enter_defers Tryz.func170, Tryz.ntmps170
  go_wp2_with fail
  refine (HK.out _ ((below_box _ _).alloc (by simp) _)).mono ?_
  rintro e w2 ⟨rfl, hk, hp⟩
  have hz := hk.size
  simp at hz
  have hc : ∀ b o, w.heap.size ≤ b → b < w.heap.size + 2 → w2.cell? ⟨b, o, none⟩ = ((w.alloc (Obj.cells #[.int .i64 0, .int .i64 0] 156)).alloc (Obj.cells #[.bool false] 4)).cell? ⟨b, o, none⟩ :=
    fun b o h1 h2 => hk.cell (Nat.le_trans hB h1) (by simpa using h2)
  have hf : ∀ b o, w.heap.size ≤ b → b < w.heap.size + 2 → w2.frozen? ⟨b, o, none⟩ = ((w.alloc (Obj.cells #[.int .i64 0, .int .i64 0] 156)).alloc (Obj.cells #[.bool false] 4)).frozen? ⟨b, o, none⟩ :=
    fun b o h1 h2 => hk.frozen (Nat.le_trans hB h1) (by simpa using h2)
  refine leaves_cons (f := 192) (args := #[.pointer (some ⟨w.heap.size, 0, none⟩), .pointer (some ⟨w.heap.size + 1, 0, none⟩)]) (by simp) (by simp [go_sem]) ?_
  refine (catch1_panics w.heap.size a c 0 0 false [] w2 (by omega) ?_ ?_ ?_ ?_ ?_ ?_).mono ?_
  · rw [hc _ _ (by omega) (by omega)]; simp [go_sem]
  · rw [hc _ _ (by omega) (by omega)]; simp [go_sem]
  · rw [hc _ _ (by omega) (by omega)]; simp [go_sem]
  · rw [hf _ _ (by omega) (by omega)]; simp [go_sem]
  · rw [hf _ _ (by omega) (by omega)]; simp [go_sem]
  · rw [hf _ _ (by omega) (by omega)]; simp [go_sem]
  rintro e u' w3 ⟨rfl, rfl, g0, g1, g2, hb⟩
  have H := Lib.hid (HS.out _ _ hb hp)
  have H2 : Hid (Keeps B w w3) := Lib.hid ((((Keeps.refl B w).alloc (.cells #[.int .i64 0, .int .i64 0] 156)).alloc (.cells #[.bool false] 4)).trans hk |>.below hb)
  clear hp
  simp [Leaves, settle, results, Tryz.results170, go_sem, g0, g1, g2, H.out, H2.out]

set_option maxRecDepth 20000 in
theorem catch_gives (K : FuncId) (first cap : Array Value) (B : Nat) (Post : World → Prop) (w : World) (hcf : Enters K) (hB : B ≤ w.heap.size) (hst : Stays w.heap.size Post)
    (hK : ∀ w1, Below w.heap.size w w1 → Gives K (first ++ cap) (.tuple #[]) B Post w1) :
    Calls Tryz.prog 170 #[.func (.func K) first cap] w fun e w' => e = .returned (.tuple #[.agg #[.int .i64 0, .int .i64 0], .bool false]) ∧ Keeps B w w' ∧ Post w' := by
  have HK := Lib.hid hK; clear hK
  have HS := Lib.hid hst; clear hst
  unfold Enters at hcf
  have hnn := fun (w : World) => run_eql_func_nil (P := Tryz.prog) w Tryz.underlying1 (.func K) first cap
  have hmf : ∀ (fn : Fn) (first cap : Array Value) (w : World), (Instr.makeFunc fn first cap).run Tryz.prog w = .ok (.func fn first cap) w := fun _ _ _ _ => rfl
  go_enter_defers Tryz.func170, Tryz.ntmps170
  go_wp2_with fail
  refine (HK.out _ ((below_box _ _).alloc (by simp) _)).mono ?_
  rintro e w2 ⟨rfl, hk, hp⟩
  have hz := hk.size
  simp at hz
  have hc : ∀ b o, w.heap.size ≤ b → b < w.heap.size + 2 → w2.cell? ⟨b, o, none⟩ = ((w.alloc (Obj.cells #[.int .i64 0, .int .i64 0] 156)).alloc (Obj.cells #[.bool false] 4)).cell? ⟨b, o, none⟩ :=
    fun b o h1 h2 => hk.cell (Nat.le_trans hB h1) (by simpa using h2)
  have hf : ∀ b o, w.heap.size ≤ b → b < w.heap.size + 2 → w2.frozen? ⟨b, o, none⟩ = ((w.alloc (Obj.cells #[.int .i64 0, .int .i64 0] 156)).alloc (Obj.cells #[.bool false] 4)).frozen? ⟨b, o, none⟩ :=
    fun b o h1 h2 => hk.frozen (Nat.le_trans hB h1) (by simpa using h2)
  have c0 : w2.cell? ⟨w.heap.size, 0, none⟩ = some (.int .i64 0) := by rw [hc _ _ (by omega) (by omega)]; simp [go_sem]
  have c1 : w2.cell? ⟨w.heap.size, 1, none⟩ = some (.int .i64 0) := by rw [hc _ _ (by omega) (by omega)]; simp [go_sem]
  have c2 : w2.cell? ⟨w.heap.size + 1, 0, none⟩ = some (.bool false) := by rw [hc _ _ (by omega) (by omega)]; simp [go_sem]
  have f0 : w2.frozen? ⟨w.heap.size, 0, none⟩ = false := by rw [hf _ _ (by omega) (by omega)]; simp [go_sem]
  have f1 : w2.frozen? ⟨w.heap.size, 1, none⟩ = false := by rw [hf _ _ (by omega) (by omega)]; simp [go_sem]
  have f2 : w2.frozen? ⟨w.heap.size + 1, 0, none⟩ = false := by rw [hf _ _ (by omega) (by omega)]; simp [go_sem]
  clear hc hf
  have HP := Lib.hid hp
  have HK2 : Hid (Keeps B w w2) := Lib.hid ((((Keeps.refl B w).alloc (.cells #[.int .i64 0, .int .i64 0] 156)).alloc (.cells #[.bool false] 4)).trans hk)
  clear hp hk
  go_wp2_with fail
  refine leaves_cons (f := 192) (args := #[.pointer (some ⟨w.heap.size, 0, none⟩), .pointer (some ⟨w.heap.size + 1, 0, none⟩)]) (by simp) (by simp [go_sem]) ?_
  refine (catch1_idle w.heap.size _).mono ?_
  rintro e u' w3 ⟨rfl, rfl, rfl⟩
  have H := Lib.hid (HS.out _ _ ((((Below.refl w.heap.size w2).setCell (Nat.le_refl _) (.int .i64 0) (p := ⟨w.heap.size, 0, none⟩)).setCell (Nat.le_refl _) (.int .i64 0) (p := ⟨w.heap.size, 1, none⟩)).setCell (by simp) (.bool false) (p := ⟨w.heap.size + 1, 0, none⟩)) HP.out)
  have H2 := Lib.hid (((HK2.out.setCell (Nat.le_refl _) (.int .i64 0) (p := ⟨w.heap.size, 0, none⟩)).setCell (Nat.le_refl _) (.int .i64 0) (p := ⟨w.heap.size, 1, none⟩)).setCell (by simp) (.bool false) (p := ⟨w.heap.size + 1, 0, none⟩))
  simp [Leaves, settle, results, Tryz.results170, go_sem, c0, c1, c2, H.out, H2.out]

theorem catch_nil (w : World) :
    Calls Tryz.prog 170 #[.nilFunc] w fun e w' => e = .returned (.tuple #[.agg #[.int .i64 0, .int .i64 1], .bool true]) ∧ Below w.heap.size w w' := by
  have hnn := fun (w : World) => run_eql_nil_func (P := Tryz.prog) w Tryz.underlying1
  go_enter_defers Tryz.func170, Tryz.ntmps170
  go_wp2_with fail
  have h := ((below_box w (.cells #[.int .i64 0, .int .i64 1] 156)).alloc (by simp) (.cells #[.bool true] 4))
  simp [bodyPostD, Leaves, settle, results, Tryz.results170, go_sem, h]

end Go.Proofs.YtcbhkcdphbffpaaGreatDoor

namespace Go.Proofs.YtcbhkcdphbffpaaGreatDoor
open Go.RowKit
set_option linter.unusedSimpArgs false
set_option linter.unusedVariables false

set_option maxRecDepth 20000 in
theorem Catch_throws (K : FuncId) (first cap : Array Value) (a c : Int) (B : Nat) (Post : World → Prop) (w : World) (hcf : Enters K) (hB : B ≤ w.heap.size) (hst : Stays w.heap.size Post)
    (hK : ∀ w1, Below w.heap.size w w1 → Throws K (first ++ cap) a c B Post w1) :
    Calls Tryz.prog 141 #[.func (.func K) first cap] w fun e w' => e = .returned (.tuple #[.agg #[.int .i64 a, .int .i64 c], .bool true]) ∧ Keeps B w w' ∧ Post w' := by
  have HK := Lib.hid hK; clear hK
  have HS := Lib.hid hst; clear hst
  have HE := Lib.hid hcf; clear hcf
  go_enter Tryz.func141, Tryz.ntmps141
  go_wp2_with fail
  refine (catch_throws K first cap a c B Post _ HE.out (by simp; omega) (HS.out.mono (by simp)) fun w1 h1 => HK.out w1 ((below_box _ _).trans (h1.mono (by simp)))).mono ?_
  rintro e w2 ⟨rfl, hk, hp⟩
  have hz := hk.size
  simp at hz
  have hz2 : w.heap.size < w2.heap.size := by omega
  have c0 : w2.cell? ⟨w.heap.size, 0, none⟩ = some (.int .i64 0) := by rw [hk.cell hB (by simp)]; simp [go_sem]
  have c1 : w2.cell? ⟨w.heap.size, 1, none⟩ = some (.int .i64 0) := by rw [hk.cell hB (by simp)]; simp [go_sem]
  have f0 : w2.frozen? ⟨w.heap.size, 0, none⟩ = false := by rw [hk.frozen hB (by simp)]; simp [go_sem]
  have f1 : w2.frozen? ⟨w.heap.size, 1, none⟩ = false := by rw [hk.frozen hB (by simp)]; simp [go_sem]
  have HP := Lib.hid (HS.out _ _ (((Below.refl w.heap.size w2).setCell (Nat.le_refl _) (.int .i64 a) (p := ⟨w.heap.size, 0, none⟩)).setCell (Nat.le_refl _) (.int .i64 c) (p := ⟨w.heap.size, 1, none⟩)) hp)
  have HK2 := Lib.hid (((((Keeps.refl B w).alloc (.cells #[.int .i64 0, .int .i64 0] 156)).trans hk).setCell (Nat.le_refl _) (.int .i64 a) (p := ⟨w.heap.size, 0, none⟩)).setCell (Nat.le_refl _) (.int .i64 c) (p := ⟨w.heap.size, 1, none⟩))
  clear hp hk hz
  go_wp2_with fail
  refine bodyPost_ret (v := .tuple #[.agg #[.int .i64 a, .int .i64 c], .bool true]) ?_ rfl ⟨rfl, HK2.out, HP.out⟩
  simp [results, Tryz.results141, go_sem, c0, c1, hz2]

set_option maxRecDepth 20000 in
theorem Catch_gives (K : FuncId) (first cap : Array Value) (B : Nat) (Post : World → Prop) (w : World) (hcf : Enters K) (hB : B ≤ w.heap.size) (hst : Stays w.heap.size Post)
    (hK : ∀ w1, Below w.heap.size w w1 → Gives K (first ++ cap) (.tuple #[]) B Post w1) :
    Calls Tryz.prog 141 #[.func (.func K) first cap] w fun e w' => e = .returned (.tuple #[.agg #[.int .i64 0, .int .i64 0], .bool false]) ∧ Keeps B w w' ∧ Post w' := by
  have HK := Lib.hid hK; clear hK
  have HS := Lib.hid hst; clear hst
  have HE := Lib.hid hcf; clear hcf
  go_enter Tryz.func141, Tryz.ntmps141
  go_wp2_with fail
  refine (catch_gives K first cap B Post _ HE.out (by simp; omega) (HS.out.mono (by simp)) fun w1 h1 => HK.out w1 ((below_box _ _).trans (h1.mono (by simp)))).mono ?_
  rintro e w2 ⟨rfl, hk, hp⟩
  have hz := hk.size
  simp at hz
  have hz2 : w.heap.size < w2.heap.size := by omega
  have c0 : w2.cell? ⟨w.heap.size, 0, none⟩ = some (.int .i64 0) := by rw [hk.cell hB (by simp)]; simp [go_sem]
  have c1 : w2.cell? ⟨w.heap.size, 1, none⟩ = some (.int .i64 0) := by rw [hk.cell hB (by simp)]; simp [go_sem]
  have f0 : w2.frozen? ⟨w.heap.size, 0, none⟩ = false := by rw [hk.frozen hB (by simp)]; simp [go_sem]
  have f1 : w2.frozen? ⟨w.heap.size, 1, none⟩ = false := by rw [hk.frozen hB (by simp)]; simp [go_sem]
  have HP := Lib.hid (HS.out _ _ (((Below.refl w.heap.size w2).setCell (Nat.le_refl _) (.int .i64 0) (p := ⟨w.heap.size, 0, none⟩)).setCell (Nat.le_refl _) (.int .i64 0) (p := ⟨w.heap.size, 1, none⟩)) hp)
  have HK2 := Lib.hid (((((Keeps.refl B w).alloc (.cells #[.int .i64 0, .int .i64 0] 156)).trans hk).setCell (Nat.le_refl _) (.int .i64 0) (p := ⟨w.heap.size, 0, none⟩)).setCell (Nat.le_refl _) (.int .i64 0) (p := ⟨w.heap.size, 1, none⟩))
  clear hp hk hz
  go_wp2_with fail
  refine bodyPost_ret (v := .tuple #[.agg #[.int .i64 0, .int .i64 0], .bool false]) ?_ rfl ⟨rfl, HK2.out, HP.out⟩
  simp [results, Tryz.results141, go_sem, c0, c1, hz2]

/-- What holds behind the catching: the blocks from B up to T are as they were in w3. -/
def Upto (B T : Nat) (w3 w' : World) : Prop := w3.heap.size ≤ w'.heap.size ∧ ∀ b, B ≤ b → b < T → w'.heap[b]? = w3.heap[b]?

theorem Upto.cell {B T : Nat} {w3 w' : World} (h : Upto B T w3 w') {b o : Nat} (h1 : B ≤ b) (h2 : b < T) : w'.cell? ⟨b, o, none⟩ = w3.cell? ⟨b, o, none⟩ :=
  World.cell?_of_block (w := w3) (h.2 b h1 h2)

theorem Upto.frozen {B T : Nat} {w3 w' : World} (h : Upto B T w3 w') {b o : Nat} (h1 : B ≤ b) (h2 : b < T) : w'.frozen? ⟨b, o, none⟩ = w3.frozen? ⟨b, o, none⟩ :=
  World.frozen?_of_block (w := w3) (h.2 b h1 h2)

theorem Upto.keeps {B T : Nat} {w w3 w' : World} (h : Upto B T w3 w') (hW : Below w.heap.size w w3) (hT : w.heap.size ≤ T) : Keeps B w w' :=
  ⟨Nat.le_trans hW.size h.1, fun b h1 h2 => (h.2 b h1 (by omega)).trans (hW.block b h2)⟩

theorem Upto.stays {B T : Nat} {w3 : World} (S : Nat) (h : T ≤ S) : Stays S (Upto B T w3) :=
  fun w1 w2 hb hp => ⟨Nat.le_trans hp.1 hb.size, fun b h1 h2 => (hb.block b (by omega)).trans (hp.2 b h1 h2)⟩

theorem Stays.and {B : Nat} {P Q : World → Prop} (h : Stays B P) (k : Stays B Q) : Stays B (fun w => P w ∧ Q w) := fun w1 w2 hb hp => ⟨h w1 w2 hb hp.1, k w1 w2 hb hp.2⟩

/-- Cell 0 of block g holds v, and may be written. -/
def Holds1 (g : Nat) (v : Value) (w : World) : Prop := w.cell? ⟨g, 0, none⟩ = some v ∧ w.frozen? ⟨g, 0, none⟩ = false

theorem Holds1.stays {g S : Nat} {v : Value} (h : g < S) : Stays S (Holds1 g v) :=
  fun w1 w2 hb hp => ⟨by rw [hb.cell (p := ⟨g, 0, none⟩) h]; exact hp.1, by rw [hb.frozen (p := ⟨g, 0, none⟩) h]; exact hp.2⟩

theorem heap3 (w : World) (o0 o1 o2 : Obj) : (((w.alloc o0).alloc o1).alloc o2).heap.size = w.heap.size + 3 := by simp

end Go.Proofs.YtcbhkcdphbffpaaGreatDoor

namespace Go.Proofs.YtcbhkcdphbffpaaGreatDoor

def isSmall (b : UInt8) : Bool := 97 ≤ b && b ≤ 122
def isGreat (b : UInt8) : Bool := 65 ≤ b && b ≤ 90
def isDigit (b : UInt8) : Bool := 48 ≤ b && b ≤ 57
def isLetter (b : UInt8) : Bool := isSmall b || isGreat b
def signs : List UInt8 := [33, 35, 36, 37, 38, 39, 42, 43, 45, 46, 94, 95, 124, 126, 96]
def isToken (b : UInt8) : Bool := isLetter b || isDigit b || signs.contains b
def isWhite (b : UInt8) : Bool := b == 9 || b == 10 || b == 13 || b == 32
def isTab (b : UInt8) : Bool := b == 9 || b == 32
def isQuoted (b : UInt8) : Bool := b == 9 || 32 ≤ b && b ≤ 126 || 128 ≤ b
def hexOf (b : UInt8) : Int :=
  if isDigit b then b.toNat - 48 else if 97 ≤ b && b ≤ 102 then b.toNat - 97 + 10 else if 65 ≤ b && b ≤ 70 then b.toNat - 65 + 10 else -1
def lowOf (b : UInt8) : UInt8 := if isGreat b then b + 32 else b
def lowerL (l : List UInt8) : List UInt8 := l.map lowOf

theorem u8_le (a b : UInt8) : (a ≤ b) = (a.toNat ≤ b.toNat) := by rw [UInt8.le_iff_toNat_le]

theorem isSmall_eq (b : UInt8) : isSmall b = decide (97 ≤ b.toNat ∧ b.toNat ≤ 122) := by
  simp [isSmall, u8_le]

theorem isGreat_eq (b : UInt8) : isGreat b = decide (65 ≤ b.toNat ∧ b.toNat ≤ 90) := by
  simp [isGreat, u8_le]

theorem isDigit_eq (b : UInt8) : isDigit b = decide (48 ≤ b.toNat ∧ b.toNat ≤ 57) := by
  simp [isDigit, u8_le]

theorem all_u8 {p : UInt8 → Prop} (h : ∀ n : Fin 256, p (UInt8.ofNat n.val)) (b : UInt8) : p b := by
  have := h ⟨b.toNat, b.toNat_lt⟩
  simpa using this

theorem isWhite_eq (b : UInt8) : isWhite b = decide (b.toNat = 9 ∨ b.toNat = 10 ∨ b.toNat = 13 ∨ b.toNat = 32) :=
  all_u8 (p := fun b => isWhite b = decide (b.toNat = 9 ∨ b.toNat = 10 ∨ b.toNat = 13 ∨ b.toNat = 32)) (by decide +kernel) b

theorem isTab_eq (b : UInt8) : isTab b = decide (b.toNat = 9 ∨ b.toNat = 32) :=
  all_u8 (p := fun b => isTab b = decide (b.toNat = 9 ∨ b.toNat = 32)) (by decide +kernel) b

theorem isQuoted_eq (b : UInt8) : isQuoted b = decide (b.toNat = 9 ∨ (32 ≤ b.toNat ∧ b.toNat ≤ 126) ∨ 128 ≤ b.toNat) :=
  all_u8 (p := fun b => isQuoted b = decide (b.toNat = 9 ∨ (32 ≤ b.toNat ∧ b.toNat ≤ 126) ∨ 128 ≤ b.toNat)) (by decide +kernel) b

theorem isLetter_eq (b : UInt8) : isLetter b = decide ((97 ≤ b.toNat ∧ b.toNat ≤ 122) ∨ (65 ≤ b.toNat ∧ b.toNat ≤ 90)) := by
  simp [isLetter, isSmall, isGreat, u8_le]

theorem hexOf_eq (b : UInt8) : hexOf b = if 48 ≤ b.toNat ∧ b.toNat ≤ 57 then (b.toNat : Int) - 48 else if 97 ≤ b.toNat ∧ b.toNat ≤ 102 then (b.toNat : Int) - 97 + 10 else if 65 ≤ b.toNat ∧ b.toNat ≤ 70 then (b.toNat : Int) - 65 + 10 else -1 :=
  all_u8 (p := fun b => hexOf b = if 48 ≤ b.toNat ∧ b.toNat ≤ 57 then (b.toNat : Int) - 48 else if 97 ≤ b.toNat ∧ b.toNat ≤ 102 then (b.toNat : Int) - 97 + 10 else if 65 ≤ b.toNat ∧ b.toNat ≤ 70 then (b.toNat : Int) - 65 + 10 else -1) (by decide +kernel) b

theorem lowOf_toNat (b : UInt8) : (lowOf b).toNat = if 65 ≤ b.toNat ∧ b.toNat ≤ 90 then b.toNat + 32 else b.toNat :=
  all_u8 (p := fun b => (lowOf b).toNat = if 65 ≤ b.toNat ∧ b.toNat ≤ 90 then b.toNat + 32 else b.toNat) (by decide +kernel) b

theorem beq_u8 (a b : UInt8) : (a == b) = decide ((a.toNat : Int) = (b.toNat : Int)) := by
  rw [Bool.eq_iff_iff]; rw [beq_iff_eq, decide_eq_true_eq, ← UInt8.toNat_inj]; omega

theorem bytes_small (b : UInt8) : (0 : Int) ≤ b.toNat ∧ (b.toNat : Int) ≤ 255 := by
  have := b.toNat_lt; omega

theorem indexByte_has (l : List UInt8) (c : UInt8) : (0 ≤ Lib.indexByte l c) = (l.contains c = true) := by
  induction l with
  | nil => simp [Lib.indexByte]
  | cons x l ih =>
    have hg := Lib.indexByte_ge l c
    unfold Lib.indexByte
    by_cases h : (x == c) = true
    · have : c = x := by simpa using (beq_iff_eq.1 h).symm
      simp [this]
    · have hx : ¬ c = x := fun e => h (by simp [e])
      have h' : (x == c) = false := by simpa using h
      rw [h']
      simp only [Bool.false_eq_true, if_false, List.contains_cons]
      have e1 : (c == x) = false := by simpa using hx
      rw [e1, Bool.false_or, ← ih]
      by_cases hm : Lib.indexByte l c = -1
      · rw [hm]; simp
      · have : (Lib.indexByte l c == -1) = false := by simpa using hm
        rw [this]; simp; omega

/-- Does a text hold a byte? -/
def hasB (s : ByteArray) (b : UInt8) : Bool := s.data.toList.contains b

theorem getElem_data (s : ByteArray) (k : Nat) (hk : k < s.size) : s[k] = s.data.toList[k]'(by rw [← Lib.size_eq]; exact hk) := by
  simp [ByteArray.getElem_eq_getElem_data]

theorem hasB_at {s : ByteArray} {b : UInt8} {k : Nat} (hk : k < s.size) (h : (((s[k]).toNat : Int) == (b.toNat : Int)) = true) : hasB s b = true := by
  have e : s[k] = b := by rw [beq_iff_eq] at h; exact UInt8.toNat_inj.1 (by omega)
  unfold hasB
  rw [List.contains_iff_mem, ← e, getElem_data s k hk]
  exact List.getElem_mem _

theorem hasB_none {s : ByteArray} {b : UInt8} (h : ∀ j (hj : j < s.size), s[j] ≠ b) : hasB s b = false := by
  unfold hasB
  rw [Bool.eq_false_iff]
  intro hc
  rw [List.contains_iff_mem] at hc
  obtain ⟨j, hj, e⟩ := List.mem_iff_getElem.1 hc
  rw [← Lib.size_eq] at hj
  exact h j hj (by rw [getElem_data s j hj]; exact e)

theorem u8_ne {a b : UInt8} (h : (((a).toNat : Int) == (b.toNat : Int)) = false) : a ≠ b := by
  rintro rfl
  simp at h

/-- None of the first k digits, small or great, is the byte. -/
def NoHex (b : UInt8) (k : Nat) : Prop := hexOf b < 0 ∨ (k : Int) ≤ hexOf b

theorem noHex_zero (b : UInt8) : NoHex b 0 := by unfold NoHex; omega

theorem noHex_end {b : UInt8} (h : NoHex b 16) : hexOf b = -1 := by
  have := hexOf_eq b
  unfold NoHex at h
  revert this
  (repeat' split) <;> omega

theorem hexS : ∀ k : Fin 16, hexOf (({ data := #[48, 49, 50, 51, 52, 53, 54, 55, 56, 57, 97, 98, 99, 100, 101, 102] } : ByteArray)[k.val]'(by have := k.isLt; exact this)) = k.val := by decide +kernel

theorem hexT : ∀ k : Fin 16, hexOf (({ data := #[48, 49, 50, 51, 52, 53, 54, 55, 56, 57, 65, 66, 67, 68, 69, 70] } : ByteArray)[k.val]'(by have := k.isLt; exact this)) = k.val := by decide +kernel

theorem hex_at1 {b : UInt8} {k : Nat} (hk : k < 16) (h : ((({ data := #[48, 49, 50, 51, 52, 53, 54, 55, 56, 57, 97, 98, 99, 100, 101, 102] } : ByteArray)[k]'hk).toNat : Int) = b.toNat) : hexOf b = k := by
  have e : ({ data := #[48, 49, 50, 51, 52, 53, 54, 55, 56, 57, 97, 98, 99, 100, 101, 102] } : ByteArray)[k]'hk = b := UInt8.toNat_inj.1 (by omega)
  rw [← e]
  exact hexS ⟨k, hk⟩

theorem hex_at2 {b : UInt8} {k : Nat} (hk : k < 16) (h0 : ¬ ((({ data := #[48, 49, 50, 51, 52, 53, 54, 55, 56, 57, 97, 98, 99, 100, 101, 102] } : ByteArray)[k]'hk).toNat : Int) = b.toNat)
    (h : (((({ data := #[48, 49, 50, 51, 52, 53, 54, 55, 56, 57, 97, 98, 99, 100, 101, 102] } : ByteArray)[k]'hk).toNat : Int) == b.toNat) = true ∨ (((({ data := #[48, 49, 50, 51, 52, 53, 54, 55, 56, 57, 65, 66, 67, 68, 69, 70] } : ByteArray)[k]'hk).toNat : Int) == b.toNat) = true) : hexOf b = k := by
  have e : ({ data := #[48, 49, 50, 51, 52, 53, 54, 55, 56, 57, 65, 66, 67, 68, 69, 70] } : ByteArray)[k]'hk = b := UInt8.toNat_inj.1 (by
    rcases h with h | h
    · exact absurd (beq_iff_eq.1 h) h0
    · have := beq_iff_eq.1 h; omega)
  rw [← e]
  exact hexT ⟨k, hk⟩

theorem hex_back (b : UInt8) (k : Fin 16) : hexOf b = k.val → b = ({ data := #[48, 49, 50, 51, 52, 53, 54, 55, 56, 57, 97, 98, 99, 100, 101, 102] } : ByteArray)[k.val]'(by have := k.isLt; exact this) ∨ b = ({ data := #[48, 49, 50, 51, 52, 53, 54, 55, 56, 57, 65, 66, 67, 68, 69, 70] } : ByteArray)[k.val]'(by have := k.isLt; exact this) :=
  all_u8 (p := fun b => ∀ k : Fin 16, hexOf b = k.val → b = ({ data := #[48, 49, 50, 51, 52, 53, 54, 55, 56, 57, 97, 98, 99, 100, 101, 102] } : ByteArray)[k.val]'(by have := k.isLt; exact this) ∨ b = ({ data := #[48, 49, 50, 51, 52, 53, 54, 55, 56, 57, 65, 66, 67, 68, 69, 70] } : ByteArray)[k.val]'(by have := k.isLt; exact this)) (by decide +kernel) b k

theorem noHex_step {b : UInt8} {k : Nat} (hn : NoHex b k) (hk : k < 16) (h0 : ¬ ((({ data := #[48, 49, 50, 51, 52, 53, 54, 55, 56, 57, 97, 98, 99, 100, 101, 102] } : ByteArray)[k]'hk).toNat : Int) = b.toNat)
    (h : (((({ data := #[48, 49, 50, 51, 52, 53, 54, 55, 56, 57, 97, 98, 99, 100, 101, 102] } : ByteArray)[k]'hk).toNat : Int) == b.toNat) = false ∧ (((({ data := #[48, 49, 50, 51, 52, 53, 54, 55, 56, 57, 65, 66, 67, 68, 69, 70] } : ByteArray)[k]'hk).toNat : Int) == b.toNat) = false) : NoHex b (k + 1) := by
  unfold NoHex at *
  rcases hn with hn | hn
  · exact .inl hn
  · by_cases e : hexOf b = k
    · rcases hex_back b ⟨k, hk⟩ e with e' | e'
      · exact absurd (by rw [e']) h0
      · have h2 := h.2
        rw [e'] at h2
        simp at h2
    · omega

end Go.Proofs.YtcbhkcdphbffpaaGreatDoor

namespace Go.Proofs.YtcbhkcdphbffpaaGreatDoor
open Go.RowKit
set_option linter.unusedSimpArgs false
set_option linter.unusedVariables false

theorem small_any (b : UInt8) (w : World) :
    Calls Tryz.prog 194 #[.int .u8 b.toNat] w fun e w' => e = .returned (.bool (isSmall b)) ∧ w = w' := by
  go_enter Tryz.func194, Tryz.ntmps194
  go_wp2
  all_goals go_ret
  all_goals exact ⟨ret_bool (by rw [isSmall_eq]; exact (by first | exact decide_eq_decide.2 (by omega) | exact (decide_eq_false (by omega)).symm | exact (decide_eq_true (by omega)).symm | (rw [Bool.eq_iff_iff]; simp only [Bool.or_eq_true, Bool.and_eq_true, beq_iff_eq, bne_iff_ne, ne_eq, decide_eq_true_eq, Bool.not_eq_true, Bool.false_eq_true, true_iff, false_iff, iff_true, iff_false] <;> omega))), rfl⟩

theorem great_any (b : UInt8) (w : World) :
    Calls Tryz.prog 169 #[.int .u8 b.toNat] w fun e w' => e = .returned (.bool (isGreat b)) ∧ w = w' := by
  go_enter Tryz.func169, Tryz.ntmps169
  go_wp2
  all_goals go_ret
  all_goals exact ⟨ret_bool (by rw [isGreat_eq]; exact (by first | exact decide_eq_decide.2 (by omega) | exact (decide_eq_false (by omega)).symm | exact (decide_eq_true (by omega)).symm | (rw [Bool.eq_iff_iff]; simp only [Bool.or_eq_true, Bool.and_eq_true, beq_iff_eq, bne_iff_ne, ne_eq, decide_eq_true_eq, Bool.not_eq_true, Bool.false_eq_true, true_iff, false_iff, iff_true, iff_false] <;> omega))), rfl⟩

theorem digit_any (b : UInt8) (w : World) :
    Calls Tryz.prog 176 #[.int .u8 b.toNat] w fun e w' => e = .returned (.bool (isDigit b)) ∧ w = w' := by
  go_enter Tryz.func176, Tryz.ntmps176
  go_wp2
  all_goals go_ret
  all_goals exact ⟨ret_bool (by rw [isDigit_eq]; exact (by first | exact decide_eq_decide.2 (by omega) | exact (decide_eq_false (by omega)).symm | exact (decide_eq_true (by omega)).symm | (rw [Bool.eq_iff_iff]; simp only [Bool.or_eq_true, Bool.and_eq_true, beq_iff_eq, bne_iff_ne, ne_eq, decide_eq_true_eq, Bool.not_eq_true, Bool.false_eq_true, true_iff, false_iff, iff_true, iff_false] <;> omega))), rfl⟩

theorem letter_any (b : UInt8) (w : World) :
    Calls Tryz.prog 172 #[.int .u8 b.toNat] w fun e w' => e = .returned (.bool (isLetter b)) ∧ w = w' := by
  unfold isLetter
  cases h : isSmall b
  all_goals
    have H := Lib.hid h; clear h
    go_enter Tryz.func172, Tryz.ntmps172
    go_wp2_with (first | (go_at_call 194; refine (small_any _ _).mono ?_; rintro e w' ⟨rfl, rfl⟩; rw [H.out]) | (go_at_call 169; refine (great_any _ _).mono ?_; rintro e w' ⟨rfl, rfl⟩))
    go_ret
    exact ⟨ret_bool (by simp), rfl⟩

theorem white_any (b : UInt8) (w : World) :
    Calls Tryz.prog 197 #[.int .u8 b.toNat] w fun e w' => e = .returned (.bool (isWhite b)) ∧ w = w' := by
  go_enter Tryz.func197, Tryz.ntmps197
  go_wp2
  all_goals go_ret
  all_goals exact ⟨ret_bool (by rw [isWhite_eq]; exact (by first | exact decide_eq_decide.2 (by omega) | exact (decide_eq_false (by omega)).symm | exact (decide_eq_true (by omega)).symm | (rw [Bool.eq_iff_iff]; simp only [Bool.or_eq_true, Bool.and_eq_true, beq_iff_eq, bne_iff_ne, ne_eq, decide_eq_true_eq, Bool.not_eq_true, Bool.false_eq_true, true_iff, false_iff, iff_true, iff_false] <;> omega))), rfl⟩

theorem tabbed_any (b : UInt8) (w : World) :
    Calls Tryz.prog 171 #[.int .u8 b.toNat] w fun e w' => e = .returned (.bool (isTab b)) ∧ w = w' := by
  go_enter Tryz.func171, Tryz.ntmps171
  go_wp2
  all_goals go_ret
  all_goals exact ⟨ret_bool (by rw [isTab_eq]; exact (by first | exact decide_eq_decide.2 (by omega) | exact (decide_eq_false (by omega)).symm | exact (decide_eq_true (by omega)).symm | (rw [Bool.eq_iff_iff]; simp only [Bool.or_eq_true, Bool.and_eq_true, beq_iff_eq, bne_iff_ne, ne_eq, decide_eq_true_eq, Bool.not_eq_true, Bool.false_eq_true, true_iff, false_iff, iff_true, iff_false] <;> omega))), rfl⟩

theorem Quoted_any (b : UInt8) (w : World) :
    Calls Tryz.prog 187 #[.int .u8 b.toNat] w fun e w' => e = .returned (.bool (isQuoted b)) ∧ w = w' := by
  go_enter Tryz.func187, Tryz.ntmps187
  go_wp2
  all_goals go_ret
  all_goals exact ⟨ret_bool (by rw [isQuoted_eq]; exact (by first | exact decide_eq_decide.2 (by omega) | exact (decide_eq_false (by omega)).symm | exact (decide_eq_true (by omega)).symm | (rw [Bool.eq_iff_iff]; simp only [Bool.or_eq_true, Bool.and_eq_true, beq_iff_eq, bne_iff_ne, ne_eq, decide_eq_true_eq, Bool.not_eq_true, Bool.false_eq_true, true_iff, false_iff, iff_true, iff_false] <;> omega))), rfl⟩

theorem White_any (b : UInt8) (w : World) :
    Calls Tryz.prog 199 #[.int .u8 b.toNat] w fun e w' => e = .returned (.bool (isWhite b)) ∧ w = w' := by
  go_enter Tryz.func199, Tryz.ntmps199
  go_wp2_with (go_at_call 197; refine (white_any _ _).mono ?_; rintro e w' ⟨rfl, rfl⟩)
  go_ret
  exact ⟨rfl, rfl⟩

theorem Tab_any (b : UInt8) (w : World) :
    Calls Tryz.prog 144 #[.int .u8 b.toNat] w fun e w' => e = .returned (.bool (isTab b)) ∧ w = w' := by
  go_enter Tryz.func144, Tryz.ntmps144
  go_wp2_with (go_at_call 171; refine (tabbed_any _ _).mono ?_; rintro e w' ⟨rfl, rfl⟩)
  go_ret
  exact ⟨rfl, rfl⟩

theorem Digit_any (b : UInt8) (w : World) :
    Calls Tryz.prog 150 #[.int .u8 b.toNat] w fun e w' => e = .returned (.bool (isDigit b)) ∧ w = w' := by
  go_enter Tryz.func150, Tryz.ntmps150
  go_wp2_with (go_at_call 176; refine (digit_any _ _).mono ?_; rintro e w' ⟨rfl, rfl⟩)
  go_ret
  exact ⟨rfl, rfl⟩

theorem Letter_any (b : UInt8) (w : World) :
    Calls Tryz.prog 145 #[.int .u8 b.toNat] w fun e w' => e = .returned (.bool (isLetter b)) ∧ w = w' := by
  go_enter Tryz.func145, Tryz.ntmps145
  go_wp2_with (go_at_call 172; refine (letter_any _ _).mono ?_; rintro e w' ⟨rfl, rfl⟩)
  go_ret
  exact ⟨rfl, rfl⟩

theorem low_any (b : UInt8) (w : World) :
    Calls Tryz.prog 140 #[.int .u8 b.toNat] w fun e w' => e = .returned (.int .u8 (lowOf b).toNat) ∧ w = w' := by
  have hb := bytes_small b
  have hl := lowOf_toNat b
  have hg := isGreat_eq b
  by_cases h : 65 ≤ b.toNat ∧ b.toNat ≤ 90
  · rw [if_pos h] at hl
    have H1 := Lib.hid hl; clear hl
    have H2 : Hid (isGreat b = true) := Lib.hid (by rw [hg]; simpa using h)
    clear hg
    obtain ⟨h1, h2⟩ := h
    go_enter Tryz.func140, Tryz.ntmps140
    go_wp2_with (go_at_call 169; refine (great_any _ _).mono ?_; rintro e w' ⟨rfl, rfl⟩; rw [H2.out])
    go_ret
    exact ⟨ret_int (by rw [H1.out]; simp), rfl⟩
  · rw [if_neg h] at hl
    have H1 := Lib.hid hl; clear hl
    have H2 : Hid (isGreat b = false) := Lib.hid (by rw [hg]; simpa using h)
    clear hg
    go_enter Tryz.func140, Tryz.ntmps140
    go_wp2_with (go_at_call 169; refine (great_any _ _).mono ?_; rintro e w' ⟨rfl, rfl⟩; rw [H2.out])
    go_ret
    exact ⟨ret_int (by rw [H1.out]), rfl⟩

theorem indexByteString_run (s : ByteArray) (b : UInt8) (w : World) :
    (callFunc 207 #[.string s, .int .u8 b.toNat]).run Tryz.prog w = .ok (.value (.int .i64 (Lib.indexByte s.data.toList b))) w := by
  rw [run_callFunc_extern Tryz.func207 (by kernel_rfl) (by kernel_rfl) (by kernel_rfl) (by kernel_rfl), Lib.run_indexByteString]
  simp [Result.andThen]

theorem IndexByte_any (s : ByteArray) (b : UInt8) (w : World) :
    Calls Tryz.prog 163 #[.string s, .int .u8 b.toNat] w fun e w' => e = .returned (.int .i64 (Lib.indexByte s.data.toList b)) ∧ w = w' := by
  have hib := indexByteString_run s b
  go_enter Tryz.func163, Tryz.ntmps163
  go_wp2
  go_ret
  exact ⟨rfl, rfl⟩

theorem Token_any (b : UInt8) (w : World) :
    Calls Tryz.prog 200 #[.int .u8 b.toNat] w fun e w' => e = .returned (.bool (isToken b)) ∧ w = w' := by
  unfold isToken
  have hi := indexByte_has signs b
  have HI : Hid (decide (0 ≤ Lib.indexByte signs b) = signs.contains b) := Lib.hid (by rw [Bool.eq_iff_iff, decide_eq_true_eq, hi])
  clear hi
  cases h : isLetter b <;> cases h2 : isDigit b
  all_goals
    have H := Lib.hid h; clear h
    have H2 := Lib.hid h2; clear h2
    go_enter Tryz.func200, Tryz.ntmps200
    go_wp2_with (first | (go_at_call 172; refine (letter_any _ _).mono ?_; rintro e w' ⟨rfl, rfl⟩; rw [H.out]) | (go_at_call 176; refine (digit_any _ _).mono ?_; rintro e w' ⟨rfl, rfl⟩; rw [H2.out]) | (go_at_call 163; refine (IndexByte_any ⟨⟨signs⟩⟩ _ _).mono ?_; rintro e w' ⟨rfl, rfl⟩))
    go_ret
    exact ⟨ret_bool (by first | rfl | (simp; done) | (rw [← HI.out]; simp)), rfl⟩

theorem rLetter_any (b : UInt8) (w : World) :
    Calls Tryz.prog 120 #[.int .u8 b.toNat] w fun e w' => e = .returned (.bool (isLetter b)) ∧ w = w' := by
  go_enter Tryz.func120, Tryz.ntmps120
  go_wp2
  all_goals go_ret
  all_goals exact ⟨ret_bool (by rw [isLetter_eq]; exact (by first | exact decide_eq_decide.2 (by omega) | exact (decide_eq_false (by omega)).symm | exact (decide_eq_true (by omega)).symm | (rw [Bool.eq_iff_iff]; simp only [Bool.or_eq_true, Bool.and_eq_true, beq_iff_eq, bne_iff_ne, ne_eq, decide_eq_true_eq, Bool.not_eq_true, Bool.false_eq_true, true_iff, false_iff, iff_true, iff_false] <;> omega))), rfl⟩

theorem rDigit_any (b : UInt8) (w : World) :
    Calls Tryz.prog 122 #[.int .u8 b.toNat] w fun e w' => e = .returned (.bool (isDigit b)) ∧ w = w' := by
  go_enter Tryz.func122, Tryz.ntmps122
  go_wp2
  all_goals go_ret
  all_goals exact ⟨ret_bool (by rw [isDigit_eq]; exact (by first | exact decide_eq_decide.2 (by omega) | exact (decide_eq_false (by omega)).symm | exact (decide_eq_true (by omega)).symm | (rw [Bool.eq_iff_iff]; simp only [Bool.or_eq_true, Bool.and_eq_true, beq_iff_eq, bne_iff_ne, ne_eq, decide_eq_true_eq, Bool.not_eq_true, Bool.false_eq_true, true_iff, false_iff, iff_true, iff_false] <;> omega))), rfl⟩

theorem rQuoted_any (b : UInt8) (w : World) :
    Calls Tryz.prog 154 #[.int .u8 b.toNat] w fun e w' => e = .returned (.bool (isQuoted b)) ∧ w = w' := by
  go_enter Tryz.func154, Tryz.ntmps154
  go_wp2
  all_goals go_ret
  all_goals exact ⟨ret_bool (by rw [isQuoted_eq]; exact (by first | exact decide_eq_decide.2 (by omega) | exact (decide_eq_false (by omega)).symm | exact (decide_eq_true (by omega)).symm | (rw [Bool.eq_iff_iff]; simp only [Bool.or_eq_true, Bool.and_eq_true, beq_iff_eq, bne_iff_ne, ne_eq, decide_eq_true_eq, Bool.not_eq_true, Bool.false_eq_true, true_iff, false_iff, iff_true, iff_false] <;> omega))), rfl⟩

theorem Has_any (s : ByteArray) (b : UInt8) (w : World) (hs : s.size ≤ maxLen) :
    Calls Tryz.prog 121 #[.string s, .int .u8 b.toNat] w fun e w' => e = .returned (.bool (hasB s b)) ∧ w = w' := by
  unfold maxLen at hs
  go_enter Tryz.func121, Tryz.ntmps121
  go_wp2
  go_loop [5] (fun i => ∃ k : Nat, k ≤ s.size ∧ i = .int .i64 k ∧ (∀ j (h : j < s.size), j < k → s[j] ≠ b)) (fun i => s.size - (intOf i).toNat)
  case atStart => exact ⟨0, Nat.zero_le _, rfl, fun j h hj => by omega⟩
  case round =>
    obtain ⟨k, hk, rfl, hno⟩ := hrel
    have HN := Lib.hid hno; clear hno
    by_cases hlt : k < s.size
    · go_wp2
      · go_ret
        exact ⟨ret_bool (hasB_at hlt ‹_›).symm, rfl⟩
      · go_round
        case rel => exact ⟨k + 1, by omega, by go_num, fun j h hj => by
          by_cases e : j = k
          · subst e; exact u8_ne ‹_›
          · exact HN.out j h (by omega)⟩
        case measure => simp [intOf]; omega
    · go_wp2
      go_ret
      exact ⟨ret_bool (hasB_none fun j hj => HN.out j hj (by omega)).symm, rfl⟩

theorem rWhite_any (b : UInt8) (w : World) :
    Calls Tryz.prog 115 #[.int .u8 b.toNat] w fun e w' => e = .returned (.bool (isWhite b)) ∧ w = w' := by
  have H : Hid (hasB ⟨#[9, 10, 13, 32]⟩ b = isWhite b) := Lib.hid (all_u8 (p := fun b => hasB ⟨#[9, 10, 13, 32]⟩ b = isWhite b) (by decide +kernel) b)
  go_enter Tryz.func115, Tryz.ntmps115
  go_wp2_with (go_at_call 121; refine (Has_any ⟨#[9, 10, 13, 32]⟩ _ _ (by decide)).mono ?_; rintro e w' ⟨rfl, rfl⟩; rw [H.out])
  go_ret
  exact ⟨rfl, rfl⟩

theorem rTab_any (b : UInt8) (w : World) :
    Calls Tryz.prog 86 #[.int .u8 b.toNat] w fun e w' => e = .returned (.bool (isTab b)) ∧ w = w' := by
  have H : Hid (hasB ⟨#[9, 32]⟩ b = isTab b) := Lib.hid (all_u8 (p := fun b => hasB ⟨#[9, 32]⟩ b = isTab b) (by decide +kernel) b)
  go_enter Tryz.func86, Tryz.ntmps86
  go_wp2_with (go_at_call 121; refine (Has_any ⟨#[9, 32]⟩ _ _ (by decide)).mono ?_; rintro e w' ⟨rfl, rfl⟩; rw [H.out])
  go_ret
  exact ⟨rfl, rfl⟩

def rSigns : ByteArray := ⟨#[33, 35, 36, 37, 38, 39, 42, 43, 45, 46, 94, 95, 96, 124, 126]⟩

theorem rToken_any (b : UInt8) (w : World) :
    Calls Tryz.prog 153 #[.int .u8 b.toNat] w fun e w' => e = .returned (.bool (isToken b)) ∧ w = w' := by
  have HI : Hid (hasB rSigns b = signs.contains b) := Lib.hid (all_u8 (p := fun b => hasB rSigns b = signs.contains b) (by decide +kernel) b)
  unfold isToken
  cases h : isLetter b <;> cases h2 : isDigit b
  all_goals
    have H := Lib.hid h; clear h
    have H2 := Lib.hid h2; clear h2
    go_enter Tryz.func153, Tryz.ntmps153
    go_wp2_with (first | (go_at_call 120; refine (rLetter_any _ _).mono ?_; rintro e w' ⟨rfl, rfl⟩; rw [H.out]) | (go_at_call 122; refine (rDigit_any _ _).mono ?_; rintro e w' ⟨rfl, rfl⟩; rw [H2.out]) | (go_at_call 121; refine (Has_any rSigns _ _ (by decide)).mono ?_; rintro e w' ⟨rfl, rfl⟩; rw [HI.out]))
    go_ret
    exact ⟨ret_bool (by simp), rfl⟩

end Go.Proofs.YtcbhkcdphbffpaaGreatDoor

namespace Go.Proofs.YtcbhkcdphbffpaaGreatDoor

/-- A text without bytes of a kind at its back. -/
def trimEnd (p : UInt8 → Bool) : List UInt8 → List UInt8
  | [] => []
  | x :: r => match trimEnd p r with
    | [] => if p x then [] else [x]
    | y :: t => x :: y :: t

theorem trimEnd_nil (p : UInt8 → Bool) : trimEnd p [] = [] := rfl

theorem trimEnd_snoc (p : UInt8 → Bool) (l : List UInt8) (y : UInt8) : trimEnd p (l ++ [y]) = if p y then trimEnd p l else l ++ [y] := by
  induction l with
  | nil => simp [trimEnd]
  | cons x l ih =>
    rw [List.cons_append, trimEnd, ih]
    by_cases h : p y = true
    · simp [h, trimEnd]
    · simp only [h, if_false, Bool.false_eq_true]
      cases l <;> simp

theorem trimEnd_le (p : UInt8 → Bool) (l : List UInt8) : (trimEnd p l).length ≤ l.length := by
  induction l with
  | nil => simp [trimEnd]
  | cons x l ih =>
    rw [trimEnd]
    split
    · rename_i h; split <;> simp
    · rename_i y t h; rw [h] at ih; simp at ih ⊢; omega

theorem trimEnd_take (p : UInt8 → Bool) (l : List UInt8) : l.take (trimEnd p l).length = trimEnd p l := by
  induction l with
  | nil => simp [trimEnd]
  | cons x l ih =>
    rw [trimEnd]
    split
    · split <;> simp
    · rename_i y t h
      rw [h] at ih
      simp at ih ⊢
      exact ih

theorem trimEnd_idem (p : UInt8 → Bool) (l : List UInt8) : trimEnd p (trimEnd p l) = trimEnd p l := by
  induction l with
  | nil => simp [trimEnd]
  | cons x l ih =>
    rw [trimEnd]
    split
    · split
      · rfl
      · rename_i h2; simp [trimEnd, h2]
    · rename_i y t h
      rw [h] at ih
      rw [trimEnd, ih]

theorem trimEnd_dropWhile (p : UInt8 → Bool) (l : List UInt8) : (trimEnd p l).dropWhile p = trimEnd p (l.dropWhile p) := by
  induction l with
  | nil => simp [trimEnd]
  | cons x l ih =>
    by_cases h : p x = true
    · rw [List.dropWhile_cons_of_pos h, ← ih, trimEnd]
      split
      · rename_i e; simp [h, e]
      · rename_i y t e; rw [List.dropWhile_cons_of_pos h, e]
    · rw [List.dropWhile_cons_of_neg h, trimEnd]
      split
      · simp [h]
      · rw [List.dropWhile_cons_of_neg h]

/-- A text without what parts at both ends. -/
def trimL (p : UInt8 → Bool) (l : List UInt8) : List UInt8 := trimEnd p (l.dropWhile p)

theorem dropWhile_idem (p : UInt8 → Bool) (l : List UInt8) : (l.dropWhile p).dropWhile p = l.dropWhile p := by
  induction l with
  | nil => rfl
  | cons x l ih =>
    by_cases h : p x = true
    · rw [List.dropWhile_cons_of_pos h, ih]
    · rw [List.dropWhile_cons_of_neg h, List.dropWhile_cons_of_neg h]

theorem trimL_idem (p : UInt8 → Bool) (l : List UInt8) : trimL p (trimL p l) = trimL p l := by
  unfold trimL
  rw [trimEnd_dropWhile, dropWhile_idem, trimEnd_idem]

theorem lowOf_idem (b : UInt8) : lowOf (lowOf b) = lowOf b :=
  all_u8 (p := fun b => lowOf (lowOf b) = lowOf b) (by decide +kernel) b

theorem lowerL_idem (l : List UInt8) : lowerL (lowerL l) = lowerL l := by
  simp only [lowerL, List.map_map]
  exact List.map_congr_left fun b _ => lowOf_idem b

/-- A text up to so many bytes. -/
def cutB (s : ByteArray) (n : Nat) : ByteArray := if n < s.size then s.extract 0 n else s

theorem cutB_size (s : ByteArray) (n : Nat) : (cutB s n).size = min n s.size := by
  unfold cutB
  split
  · rw [ByteArray.size_extract]; omega
  · omega

theorem extract_size (s : ByteArray) (a b : Nat) : (s.extract a b).size = min b s.size - a := by
  rw [ByteArray.size_extract]

theorem bytes_ext {a b : ByteArray} (h : a.data.toList = b.data.toList) : a = b := by
  rw [← Lib.mk_data a, ← Lib.mk_data b, h]

theorem extract_all (s : ByteArray) : s.extract 0 s.size = s := by
  apply bytes_ext
  rw [Lib.extract_data, List.drop_zero, Nat.sub_zero, List.take_of_length_le (by rw [← Lib.size_eq]; omega)]

theorem dropWhile_at (p : UInt8 → Bool) (l : List UInt8) (i : Nat) (hi : i < l.length) (h : p l[i] = true) : (l.drop (i + 1)).dropWhile p = (l.drop i).dropWhile p := by
  rw [List.drop_eq_getElem_cons hi, List.dropWhile_cons_of_pos h]

theorem dropWhile_stop (p : UInt8 → Bool) (l : List UInt8) (i : Nat) (hi : i < l.length) (h : ¬ p l[i] = true) : (l.drop i).dropWhile p = l.drop i := by
  rw [List.drop_eq_getElem_cons hi, List.dropWhile_cons_of_neg h]

theorem trimEnd_at (p : UInt8 → Bool) (l : List UInt8) (n : Nat) (hn : n < l.length) (h : p l[n] = true) : trimEnd p (l.take (n + 1)) = trimEnd p (l.take n) := by
  rw [List.take_succ_eq_append_getElem hn, trimEnd_snoc, if_pos h]

theorem trimEnd_stop (p : UInt8 → Bool) (l : List UInt8) (n : Nat) (hn : n < l.length) (h : ¬ p l[n] = true) : trimEnd p (l.take (n + 1)) = l.take (n + 1) := by
  rw [List.take_succ_eq_append_getElem hn, trimEnd_snoc, if_neg h]

/-- How many bytes of the first k are of a kind. -/
def cnt (p : UInt8 → Bool) (l : List UInt8) : Nat := (l.filter p).length

theorem cnt_le (p : UInt8 → Bool) (l : List UInt8) : cnt p l ≤ l.length := List.length_filter_le _ _

theorem cnt_at (p : UInt8 → Bool) (l : List UInt8) (k : Nat) (hk : k < l.length) : cnt p (l.take (k + 1)) = cnt p (l.take k) + if p l[k] then 1 else 0 := by
  rw [List.take_succ_eq_append_getElem hk]
  unfold cnt
  rw [List.filter_append]
  by_cases h : p l[k] = true <;> simp [h]

/-- The first k bytes are alike but for small and great letters. -/
def SameTo (a b : ByteArray) (k : Nat) : Prop := (lowerL a.data.toList).take k = (lowerL b.data.toList).take k

theorem sameTo_zero (a b : ByteArray) : SameTo a b 0 := by simp [SameTo]

theorem lowerL_at (s : ByteArray) (k : Nat) (hk : k < s.size) : (lowerL s.data.toList)[k]'(by rw [show (lowerL s.data.toList).length = s.size by simp [lowerL]]; exact hk) = lowOf s[k] := by
  simp [lowerL, ByteArray.getElem_eq_getElem_data]

theorem lowerL_length (s : ByteArray) : (lowerL s.data.toList).length = s.size := by simp [lowerL]

theorem sameTo_step {a b : ByteArray} {k : Nat} (h : SameTo a b k) (ha : k < a.size) (hb : k < b.size)
    (he : (((lowOf a[k]).toNat : Int) != ((lowOf b[k]).toNat : Int)) = false) : SameTo a b (k + 1) := by
  unfold SameTo at *
  rw [List.take_succ_eq_append_getElem (by rw [lowerL_length]; exact ha), List.take_succ_eq_append_getElem (by rw [lowerL_length]; exact hb), h, lowerL_at a k ha, lowerL_at b k hb]
  have : lowOf a[k] = lowOf b[k] := UInt8.toNat_inj.1 (by simp at he; exact_mod_cast he)
  rw [this]

theorem sameTo_miss {a b : ByteArray} {k : Nat} (ha : k < a.size) (hb : k < b.size)
    (he : (((lowOf a[k]).toNat : Int) != ((lowOf b[k]).toNat : Int)) = true) : (lowerL a.data.toList == lowerL b.data.toList) = false := by
  rw [beq_eq_false_iff_ne]
  intro e
  have h1 := lowerL_at a k ha
  have h2 := lowerL_at b k hb
  simp only [e] at h1
  rw [h1] at h2
  rw [h2] at he
  simp at he

theorem sameTo_all {a b : ByteArray} (hs : a.size = b.size) (h : SameTo a b a.size) : (lowerL a.data.toList == lowerL b.data.toList) = true := by
  unfold SameTo at h
  rw [beq_iff_eq]
  rwa [List.take_of_length_le (by rw [lowerL_length]; omega), List.take_of_length_le (by rw [lowerL_length]; omega)] at h

theorem same_size {a b : ByteArray} (h : ¬ a.size = b.size) : (lowerL a.data.toList == lowerL b.data.toList) = false := by
  rw [beq_eq_false_iff_ne]
  intro e
  have := congrArg List.length e
  rw [lowerL_length, lowerL_length] at this
  exact h this

theorem trimEnd_atB (p : UInt8 → Bool) (s : ByteArray) (n : Nat) (hn : n < s.size) (h : p s[n] = true) : trimEnd p (s.data.toList.take (n + 1)) = trimEnd p (s.data.toList.take n) :=
  trimEnd_at p _ n (by rw [← Lib.size_eq]; exact hn) (by rw [← getElem_data s n hn]; exact h)

theorem trimEnd_stopB (p : UInt8 → Bool) (s : ByteArray) (n : Nat) (hn : n < s.size) (h : p s[n] = false) : trimEnd p (s.data.toList.take (n + 1)) = s.data.toList.take (n + 1) :=
  trimEnd_stop p _ n (by rw [← Lib.size_eq]; exact hn) (by rw [← getElem_data s n hn, h]; simp)

theorem cnt_atB (p : UInt8 → Bool) (s : ByteArray) (k : Nat) (hk : k < s.size) : cnt p (s.data.toList.take (k + 1)) = cnt p (s.data.toList.take k) + if p s[k] then 1 else 0 := by
  rw [cnt_at p _ k (by rw [← Lib.size_eq]; exact hk), ← getElem_data s k hk]

theorem take_allB (s : ByteArray) : s.data.toList.take s.size = s.data.toList :=
  List.take_of_length_le (by rw [← Lib.size_eq]; omega)

theorem take_lengthB (s : ByteArray) (n : Nat) (h : n ≤ s.size) : (s.data.toList.take n).length = n := by
  rw [List.length_take, ← Lib.size_eq]; omega

theorem dropWhile_atB (p : UInt8 → Bool) (s : ByteArray) (i : Nat) (hi : i < s.size) (h : p s[i] = true) : (s.data.toList.drop (i + 1)).dropWhile p = (s.data.toList.drop i).dropWhile p :=
  dropWhile_at p _ i (by rw [← Lib.size_eq]; exact hi) (by rw [← getElem_data s i hi]; exact h)

theorem dropWhile_stopB (p : UInt8 → Bool) (s : ByteArray) (i : Nat) (hi : i < s.size) (h : p s[i] = false) : (s.data.toList.drop i).dropWhile p = s.data.toList.drop i :=
  dropWhile_stop p _ i (by rw [← Lib.size_eq]; exact hi) (by rw [← getElem_data s i hi, h]; simp)

theorem extract_from (s : ByteArray) (i : Nat) : s.extract i s.size = ⟨(s.data.toList.drop i).toArray⟩ := by
  rw [Lib.extract_eq, List.take_of_length_le]
  rw [List.length_drop, ← Lib.size_eq]; omega

theorem drop_endB (s : ByteArray) : s.data.toList.drop s.size = [] :=
  List.drop_of_length_le (by rw [← Lib.size_eq]; omega)

/-- A text without tabs and blanks at its back; without what parts at both ends. -/
def endsB (s : ByteArray) : ByteArray := ⟨(trimEnd isTab s.data.toList).toArray⟩

def trimB (s : ByteArray) : ByteArray := ⟨(trimL isWhite s.data.toList).toArray⟩

theorem trimB_idem (s : ByteArray) : trimB (trimB s) = trimB s := by
  unfold trimB; simp only [trimL_idem]

theorem endsB_idem (s : ByteArray) : endsB (endsB s) = endsB s := by
  unfold endsB; simp only [trimEnd_idem]

theorem trimB_le (s : ByteArray) : (trimB s).size ≤ s.size := by
  rw [Lib.size_eq, Lib.size_eq]
  exact Nat.le_trans (trimEnd_le _ _) (List.Sublist.length_le (List.dropWhile_sublist _))

theorem endsB_le (s : ByteArray) : (endsB s).size ≤ s.size := by
  rw [Lib.size_eq, Lib.size_eq]
  exact trimEnd_le _ _

theorem extract_trimEnd (p : UInt8 → Bool) (s : ByteArray) : s.extract 0 (trimEnd p s.data.toList).length = ⟨(trimEnd p s.data.toList).toArray⟩ := by
  rw [Lib.extract_eq, List.drop_zero, Nat.sub_zero, trimEnd_take]

theorem trimEnd_leB (p : UInt8 → Bool) (s : ByteArray) : (trimEnd p s.data.toList).length ≤ s.size := by
  rw [Lib.size_eq]; exact trimEnd_le p _

theorem trimB_of {s t : ByteArray} (ht : t.data.toList = trimEnd isWhite s.data.toList) {i : Nat} (h : t.data.toList.drop i = t.data.toList.dropWhile isWhite) : t.extract i t.size = trimB s := by
  rw [extract_from, h, ht, trimEnd_dropWhile]
  rfl

/-- Cutting one byte off the front, or the back. -/
theorem extract_one (t : ByteArray) : (t.extract 1 t.size).data.toList = t.data.toList.drop 1 := by
  rw [extract_from]

theorem extract_last (t : ByteArray) : (t.extract 0 (t.size - 1)).data.toList = t.data.toList.take (t.size - 1) := by
  rw [Lib.extract_data, List.drop_zero, Nat.sub_zero]

theorem endsB_stop {s t : ByteArray} (p : UInt8 → Bool) (ht : trimEnd p t.data.toList = trimEnd p s.data.toList) (h0 : 0 < t.size) (h : p t[t.size - 1] = false) : t = ⟨(trimEnd p s.data.toList).toArray⟩ := by
  have := trimEnd_stopB p t (t.size - 1) (by omega) h
  rw [show t.size - 1 + 1 = t.size by omega, take_allB] at this
  rw [← ht, this, Lib.mk_data]

theorem endsB_empty {s t : ByteArray} (p : UInt8 → Bool) (ht : trimEnd p t.data.toList = trimEnd p s.data.toList) (h0 : t.size = 0) : t = ⟨(trimEnd p s.data.toList).toArray⟩ := by
  rw [← ht]
  have : t.data.toList = [] := List.eq_nil_of_length_eq_zero (by rw [← Lib.size_eq]; exact h0)
  apply bytes_ext
  simp [this, trimEnd]

theorem endsB_step {s t : ByteArray} (p : UInt8 → Bool) (ht : trimEnd p t.data.toList = trimEnd p s.data.toList) (h0 : 0 < t.size) (h : p t[t.size - 1] = true) :
    trimEnd p (t.extract 0 (t.size - 1)).data.toList = trimEnd p s.data.toList := by
  have := trimEnd_atB p t (t.size - 1) (by omega) h
  rw [show t.size - 1 + 1 = t.size by omega, take_allB] at this
  rw [extract_last, ← this, ht]

theorem front_step {s t : ByteArray} (p : UInt8 → Bool) (ht : t.data.toList.dropWhile p = s.data.toList.dropWhile p) (h0 : 0 < t.size) (h : p t[0] = true) :
    (t.extract 1 t.size).data.toList.dropWhile p = s.data.toList.dropWhile p := by
  have := dropWhile_atB p t 0 h0 h
  rw [List.drop_zero] at this
  rw [extract_one t, ← ht, ← this]

theorem front_stop {s t : ByteArray} (p : UInt8 → Bool) (ht : t.data.toList.dropWhile p = s.data.toList.dropWhile p) (h0 : 0 < t.size) (h : p t[0] = false) :
    t.data.toList = s.data.toList.dropWhile p := by
  have := dropWhile_stopB p t 0 h0 h
  rw [List.drop_zero] at this
  rw [← ht, this]

theorem front_empty {s t : ByteArray} (p : UInt8 → Bool) (ht : t.data.toList.dropWhile p = s.data.toList.dropWhile p) (h0 : t.size = 0) :
    t.data.toList = s.data.toList.dropWhile p := by
  have : t.data.toList = [] := List.eq_nil_of_length_eq_zero (by rw [← Lib.size_eq]; exact h0)
  rw [← ht, this]
  rfl

theorem trimB_back {s t q : ByteArray} (ht : t.data.toList = s.data.toList.dropWhile isWhite) (hq : q = ⟨(trimEnd isWhite t.data.toList).toArray⟩) : q = trimB s := by
  rw [hq, ht]
  rfl

end Go.Proofs.YtcbhkcdphbffpaaGreatDoor
