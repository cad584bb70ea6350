/-
  Texts that are collected (strings.Builder), with a frame that keeps all other blocks: for two that are written side by side.
-/
import Derived.Test.YtigclegknofhmaaBase
import Derived.Lib.AppendStr
import Derived.Lib.Builder
import Derived.Lib.UnsafeStr
import Derived.Deep.AppendLies
import Derived.Laws.IdiomStrings
import Derived.Laws.Externs
import Derived.Maps.AppendAt
import Derived.RegionTactic
namespace Go.Proofs.Ytigclegknofhmaa
open Go.RowKit
set_option linter.unusedSimpArgs false
set_option linter.unusedVariables false

theorem infoByteB : (Try.prog.info? 5).map (fun i => (i.zero, i.size, i.bytes)) = some (some (.int .u8 0), 1, 1) := by kernel_rfl

/-- Bytes as values. -/
def byV (l : List UInt8) : List Value := l.map fun x => Value.int .u8 (x.toNat : Int)

theorem byV_length (l : List UInt8) : (byV l).length = l.length := by simp [byV]

theorem byV_append (a b : List UInt8) : byV (a ++ b) = byV a ++ byV b := by simp [byV]

theorem byV_cells (s : ByteArray) : Lib.strCells s = byV s.data.toList := by simp [Lib.strCells, byV]

/-- A builder in block b, whose bytes are l, in the row that v owns. -/
structure BldAt (w : World) (B b : Nat) (v : Value) (l : List UInt8) : Prop where
  base : B ≤ b
  head : ∃ p, (p = Value.pointer none ∨ p = Value.pointer (some ⟨b, 0, none⟩)) ∧ w.heap[b]? = some (.cells #[p, v] 73 (0, 0))
  row : w.ownsRow B 5 1 v l.length (byV l)
  apart : v.ownBlock ≠ some b
  nil : l = [] → v = .slice none 0 0

/-- All blocks but b and what v owns stand. -/
structure KeptBut (b : Nat) (v : Value) (w w' : World) : Prop where
  os : w'.os = w.os
  tape : w'.tape = w.tape
  output : w'.output = w.output
  size : w.heap.size ≤ w'.heap.size
  block : ∀ k, k < w.heap.size → k ≠ b → v.ownBlock ≠ some k → w'.heap[k]? = w.heap[k]?

theorem KeptBut.refl (b : Nat) (v : Value) (w : World) : KeptBut b v w w := ⟨rfl, rfl, rfl, Nat.le_refl _, fun _ _ _ _ => rfl⟩

theorem KeptBut.drew {b : Nat} {v : Value} {w w' : World} (h : KeptBut b v w w') : KeptBut b v w w'.drew := ⟨h.os, h.tape, h.output, h.size, h.block⟩

theorem KeptBut.setCell {b : Nat} {v : Value} {w w' : World} (h : KeptBut b v w w') (o : Nat) (u : Value) : KeptBut b v w (w'.setCell ⟨b, o, none⟩ u) :=
  ⟨h.os, h.tape, h.output, by simpa [World.setCell] using h.size, fun k hk hb hv => (Below.heap_setCell _ _ _ _ (fun e => hb (by simp at e; exact e))).trans (h.block k hk hb hv)⟩

theorem KeptBut.alloc {b : Nat} {v : Value} {w w' : World} (h : KeptBut b v w w') (o : Obj) : KeptBut b v w (w'.alloc o) :=
  ⟨h.os, h.tape, h.output, Nat.le_trans h.size (by simp), fun k hk hb hv => (Below.heap_alloc w' o k (Nat.lt_of_lt_of_le hk h.size)).trans (h.block k hk hb hv)⟩

theorem KeptBut.grown {b : Nat} {v : Value} {w w' w2 : World} (h : KeptBut b v w w') (hg : w'.grownBy w2 v.ownBlock) : KeptBut b v w w2 :=
  ⟨hg.os.trans h.os, hg.tape.trans h.tape, hg.output.trans h.output, Nat.le_trans h.size hg.size, fun k hk hb hv => (hg.block k (Nat.lt_of_lt_of_le hk h.size) (fun e => hv e.symm)).trans (h.block k hk hb hv)⟩

theorem KeptBut.below {B b : Nat} {v : Value} {l : List UInt8} {w w' : World} (h : KeptBut b v w w') (hb : BldAt w B b v l) (hB : B ≤ w.heap.size) : Below B w w' :=
  ⟨h.os, h.tape, h.output, h.size, fun k hk => h.block k (by omega) (by have := hb.base; omega) (fun e => by have := (hb.row.lt k e).1; omega)⟩

theorem BldAt.lt {w : World} {B b : Nat} {v : Value} {l : List UInt8} (h : BldAt w B b v l) : b < w.heap.size := by
  obtain ⟨p, _, h2⟩ := h.head
  exact (Array.getElem?_eq_some_iff.1 h2).1

/-- Another builder stands. -/
theorem BldAt.other {w w' : World} {B b c : Nat} {v u : Value} {l m : List UInt8} (h : BldAt w B c u m) (hb : BldAt w B b v l) (hk : KeptBut b v w w') (hne : c ≠ b) (hr : ∀ g, u.ownBlock = some g → v.ownBlock ≠ some g ∧ g ≠ b) (hc : v.ownBlock ≠ some c) : BldAt w' B c u m := by
  obtain ⟨p, hp, hh⟩ := h.head
  refine ⟨h.base, ⟨p, hp, (hk.block c h.lt hne hc).trans hh⟩, ?_, h.apart, h.nil⟩
  obtain ⟨q1, q2⟩ := h.row
  refine ⟨q1, ?_⟩
  rcases q2 with q2 | ⟨g', cap', cur, q2, q3, q4, q5⟩
  · exact .inl q2
  · subst q2
    have := hr g' rfl
    exact .inr ⟨g', cap', cur, rfl, q3, (hk.block g' (Array.getElem?_eq_some_iff.1 q4).1 this.2 this.1).trans q4, q5⟩

/-- What a write leaves. -/
def Wrote (B b : Nat) (v : Value) (l x : List UInt8) (w w' : World) : Prop :=
  ∃ v', BldAt w' B b v' (l ++ x) ∧ (∀ g, v'.ownBlock = some g → v.ownBlock = some g ∨ w.heap.size ≤ g) ∧ KeptBut b v w w'

theorem append_str_lies {P : Program} (w : World) (base : Nat) (t u ty e : TypeId) (i : TypeInfo) (ht : P.underlying t = some (.slice e)) (hu : P.underlying u = some .string) (hi : P.info? e = some i) (hz : i.zero = some (.int .u8 0))
    (hsize : i.size = 1) (hby : i.bytes = 1) (v : Value) (n : Nat) (xs : List Value) (hown : w.ownsRow base e 1 v n xs) (s : ByteArray) (h63 : n + s.size ≤ maxLen) (hbytes : n + s.size ≤ 140737488355328) (hbase : base ≤ w.heap.size) :
    ∃ v' w', (Builtin.append_ #[t, u] ty #[v, .string s]).run P w = .ok v' w' ∧ w'.ownsRow base e 1 v' (n + s.size) (xs ++ Lib.strCells s) ∧ w.grownBy w' v.ownBlock ∧
      (v' = .slice none 0 0 ↔ v = .slice none 0 0 ∧ s.size = 0) ∧ (∀ g, v'.ownBlock = some g → v.ownBlock = some g ∨ w.heap.size ≤ g) := by
  obtain ⟨v', w', hr, h1, h2, h3⟩ := Lib.run_append_own_string (P := P) w base t u ty e i ht hu hi hz hsize hby v n xs hown s h63 hbytes hbase
  refine ⟨v', w', hr, h1, h2, h3, fun g hg => ?_⟩
  have hsmall : n + s.size ≤ 9223372036854775807 := by simp only [maxLen] at h63; omega
  have hxl : xs.length = n := by simpa using hown.1
  rcases hown.2 with ⟨rfl, rfl⟩ | ⟨g0, cap, cur, rfl, hbg, hg0, hnc, hcm, hcs, htake⟩
  · by_cases hm : s.size = 0
    · have : v' = .slice none 0 0 := h3.2 ⟨rfl, hm⟩
      subst this
      simp [Value.ownBlock] at hg
    · have hr2 := run_append_nil_string (P := P) w t u ty e i (.int .u8 0) ht hu hi hz s (by omega) (by omega) (by rw [hby]; omega)
      rw [hr] at hr2
      injection hr2 with e1 _
      subst e1
      simp [Value.ownBlock] at hg
      right; omega
  · by_cases hroom : n + s.size ≤ cap
    · have hr2 := Lib.run_append_room_string (P := P) w t u ty e i ht hu hi hsize g0 n cap cur hg0 s hroom (by omega)
      rw [hr] at hr2
      injection hr2 with e1 _
      subst e1
      left
      simpa [Value.ownBlock] using hg
    · have holds : ∀ j u, xs[j]? = some u → w.cell? ((⟨g0, 0, none⟩ : Addr).add j) = some u := hown.cells (g := g0) rfl
      have hr2 := Lib.run_append_grow_string (P := P) w t u ty e i (.int .u8 0) ht hu hi hz ⟨g0, 0, none⟩ n cap xs (by rw [hsize]; simpa using hxl) holds s (by omega) (by omega) (by rw [hby]; exact growslice_fits (by omega) (by omega))
      rw [hr] at hr2
      injection hr2 with e1 _
      subst e1
      simp [Value.ownBlock] at hg
      right; omega

theorem wpList_append_str_lies {P : Program} (w : World) {ops : Array Oper} {rest : List Oper} {o : Oper} {a : Act} {Q : Exit → Act → World → Prop} (hgd : o.guard = none) (sl x : Operand) (t u : TypeId)
    (ho : o.op = .call { callee := .builtin .append, args := #[sl, x], argTypes := #[t, u] })
    (base : Nat) (e : TypeId) (i : TypeInfo) (ht : P.underlying t = some (.slice e)) (hu : P.underlying u = some .string) (hi : P.info? e = some i) (hz : i.zero = some (.int .u8 0))
    (hsize : i.size = 1) (hby : i.bytes = 1)
    (v : Value) (n : Nat) (xs : List Value) (hs : a.eval sl = v) (hown : w.ownsRow base e 1 v n xs) (s : ByteArray) (hx : a.eval x = .string s)
    (h63 : n + s.size ≤ maxLen) (hbytes : n + s.size ≤ 140737488355328) (hbase : base ≤ w.heap.size)
    (h : ∀ v' w', w'.ownsRow base e 1 v' (n + s.size) (xs ++ Lib.strCells s) → w.grownBy w' v.ownBlock → (v' = .slice none 0 0 ↔ v = .slice none 0 0 ∧ s.size = 0) → (∀ g, v'.ownBlock = some g → v.ownBlock = some g ∨ w.heap.size ≤ g) → wpList P ops Q rest (a.put o.dst v') w') : wpList P ops Q (o :: rest) a w := by
  refine wpList_plain hgd fun K hK => ?_
  obtain ⟨v', w', hr, h2, h3, h4, h5⟩ := append_str_lies (P := P) w base t u o.type e i ht hu hi hz hsize hby v n xs hown s h63 hbytes hbase
  unfold Oper.wp execOp
  simp only [ho, resolve, invoke, builtin, Sem.run_bind, Sem.run_pure, Result.andThen_ok, List.map_toArray, List.map_cons, List.map_nil, hs, hx, hr]
  exact hK _ _ (h v' w' h2 h3 h4 h5)

theorem infoBuilder : (Try.prog.info? 73).map (fun i => (i.size)) = some 2 := by kernel_rfl

set_option maxHeartbeats 1000000 in
set_option maxRecDepth 100000 in
theorem copyCheck_any (B b : Nat) (v : Value) (l : List UInt8) (w : World) (h : BldAt w B b v l) :
    Calls Try.prog 80 #[.pointer (some ⟨b, 0, none⟩)] w fun e w' => e = .returned (.tuple #[]) ∧ (w'.heap[b]? = some (.cells #[.pointer (some ⟨b, 0, none⟩), v] 73 (0, 0)) ∧ BldAt w' B b v l ∧ w'.heap.size = w.heap.size ∧ KeptBut b v w w') := by
  obtain ⟨j, hj, hjs⟩ := Option.map_eq_some_iff.1 infoBuilder
  obtain ⟨p, hp, hh⟩ := h.head
  have c0 : w.cell? ⟨b, 0, none⟩ = some p := by rw [Lib.cell_of_heap hh]; rfl
  rcases hp with rfl | rfl
  · have hsh : w.shape? b = some (73, 2) := by simp [World.shape?, hh]
    have f0 : w.frozen? ⟨b, 0, none⟩ = false := Lib.frozen_of_heap hh 0
    have HH := Lib.hid hh
    have HB := Lib.hid h
    have hto := fun (w1 : World) (hs1 : w1.shape? b = some (73, 2)) => Lib.run_to_unsafe (P := Try.prog) w1 ⟨b, 0, none⟩ Try.underlying71 Try.underlying99 hj (by rw [hjs]; decide) hs1 (Nat.zero_lt_succ 1)
    have hfrom := fun (w1 : World) (hs1 : w1.shape? b = some (73, 2)) => Lib.run_from_unsafe (P := Try.prog) w1 ⟨b, 0, none⟩ Try.underlying99 Try.underlying71 hj hs1 (by kernel_rfl)
    have HTO := Lib.hid (hto w hsh)
    have HFROM := Lib.hid (hfrom w hsh)
    have hneq := fun (w : World) => Lib.run_neq_ptr_same (P := Try.prog) w ⟨b, 0, none⟩ Try.underlying71 hj
    clear hto hfrom hsh h hh hj hjs
    go_enter Try.func80, Try.ntmps80
    go_wp2
    rw [HTO.out]
    simp only [Result.andThen]
    rw [Oper.upon_value]
    go_wp2
    rw [run_callFunc_extern Try.func102 (by kernel_rfl) (by kernel_rfl) (by kernel_rfl) (e := Extern.AbiNoEscape.same) (by kernel_rfl)]
    rw [Lib.run_noEscape]
    simp only [Result.andThen]
    rw [Oper.upon_value]
    go_wp2
    rw [HFROM.out]
    simp only [Result.andThen]
    rw [Oper.upon_value]
    go_wp2
    go_end0
    have hh := HH.out
    have h2 : (w.setCell ⟨b, 0, none⟩ (.pointer (some ⟨b, 0, none⟩))).heap[b]? = some (.cells #[.pointer (some ⟨b, 0, none⟩), v] 73 (0, 0)) := by simp [World.setCell, Array.getElem?_modify, hh]
    have hk := (KeptBut.refl b v w).setCell 0 (.pointer (some ⟨b, 0, none⟩))
    refine ⟨rfl, h2, ⟨HB.out.base, ⟨_, .inr rfl, h2⟩, ?_, HB.out.apart, HB.out.nil⟩, by simp [World.setCell], hk⟩
    refine HB.out.row.kept (row := some b) ⟨rfl, rfl, rfl, by simp [World.setCell], fun k _ hk => Below.heap_setCell _ _ _ _ (fun e => hk (by simp [e]))⟩ (.inr HB.out.apart)
  · have hneq := fun (w : World) => Lib.run_neq_ptr_same (P := Try.prog) w ⟨b, 0, none⟩ Try.underlying71 hj
    have HH := Lib.hid hh
    have HB := Lib.hid h
    clear h hh hj hjs
    go_enter Try.func80, Try.ntmps80
    go_wp2
    go_end0
    exact ⟨rfl, HH.out, HB.out, rfl, KeptBut.refl _ _ _⟩

theorem row_slice {w : World} {base : Nat} {e : TypeId} {v : Value} {n : Nat} {xs : List Value} (h : w.ownsRow base e 1 v n xs) : ∃ A m c, v = .slice A m c := by
  rcases h.2 with ⟨rfl, _⟩ | ⟨g, cap, cur, rfl, _⟩
  · exact ⟨_, _, _, rfl⟩
  · exact ⟨_, _, _, rfl⟩

/-- A new row laid into a builder. -/
theorem bld_put {w2 : World} {B b : Nat} {v v' : Value} {l' : List UInt8} (hB : B ≤ b) (h2 : w2.heap[b]? = some (.cells #[.pointer (some ⟨b, 0, none⟩), v] 73 (0, 0))) (hown : w2.ownsRow B 5 1 v' l'.length (byV l')) (hn : l' = [] → v' = .slice none 0 0) :
    BldAt (w2.setCell ⟨b, 1, none⟩ v') B b v' l' := by
  have hne := Lib.ownBlock_ne hown h2 (by decide)
  refine ⟨hB, ⟨_, .inr rfl, ?_⟩, ?_, hne, hn⟩
  · simp [World.setCell, Array.getElem?_modify, h2]
  · exact hown.kept (row := some b) ⟨rfl, rfl, rfl, by simp [World.setCell], fun k _ hk => Below.heap_setCell _ _ _ _ (fun e => hk (by simp [e]))⟩ (.inr hne)

set_option maxHeartbeats 1000000 in
set_option maxRecDepth 100000 in
theorem WriteByte_any (B b : Nat) (v : Value) (l : List UInt8) (x : UInt8) (w : World) (h : BldAt w B b v l) (hl : l.length ≤ 10000000) (hB : B ≤ w.heap.size) :
    Calls Try.prog 43 #[.pointer (some ⟨b, 0, none⟩), .int .u8 (x.toNat : Int)] w fun e w' => e = .returned .nilIface ∧ Wrote B b v l [x] w w' := by
  obtain ⟨i0, hi, hz0, hz1, hz2⟩ := info_parts infoByteB
  have HI := Lib.hid hi; have HZ0 := Lib.hid hz0; have HZ1 := Lib.hid hz1; have HZ2 := Lib.hid hz2
  clear hi hz0 hz1 hz2
  have HC := Lib.hid (copyCheck_any B b v l w h)
  have hblt := h.lt
  have hbB := h.base
  clear h
  go_enter Try.func43, Try.ntmps43
  go_wp2_with fail
  refine HC.out.mono ?_
  rintro e w1 ⟨rfl, hh, hb, hsz, hk⟩
  have z1 : w.heap.size ≤ w1.heap.size := by omega
  clear hsz
  have HB := Lib.hid hb
  have HK := Lib.hid hk
  have HH := Lib.hid hh
  have c0 : w1.cell? ⟨b, 0, none⟩ = some (.pointer (some ⟨b, 0, none⟩)) := by rw [Lib.cell_of_heap hh]; rfl
  have c1 : w1.cell? ⟨b, 1, none⟩ = some v := by rw [Lib.cell_of_heap hh]; rfl
  clear hb hk hh HC
  have k0 := Lib.hid (HB.out.row.alloc (.cells #[.int .u8 (x.toNat : Int)] 5))
  have k1 := Lib.hid (cell_one_new w1 (.int .u8 (x.toNat : Int)) 5)
  have k2 := Lib.hid (show ∀ u ∈ ([.int .u8 (x.toNat : Int)] : List Value), u.oneCell' = true from by intro u hu; simp at hu; subst hu; rfl)
  have k3 := Lib.hid (show l.length + 1 ≤ maxLen from by unfold maxLen; omega)
  have k4 := Lib.hid (show (l.length + 1) * 1 ≤ 140737488355328 from by omega)
  have k5 := Lib.hid (show B ≤ (w1.alloc (.cells #[.int .u8 (x.toNat : Int)] 5)).heap.size from by simp; omega)
  go_wp2_with (at_builtin; go_must (refine wpList_append_lies _ rfl (.tmp 11) (.tmp 13) 68 rfl B 5 i0 (.int .u8 0) 1 1 Try.underlying68 HI.out HZ0.out HZ1.out HZ2.out rfl (by decide) v l.length (byV l) rfl k0.out ⟨w1.heap.size, 0, none⟩ 1 1 [.int .u8 (x.toNat : Int)] rfl rfl k1.out k2.out (by decide) k3.out k4.out k5.out _ rfl ?_); intro g cap w2 hown' hg hat hlt; have HO := Lib.hid hown'; have HG := Lib.hid hg; have HAT := Lib.hid hat; have hh2 := (hg.block b (by simp; omega) (fun e => HB.out.apart e.symm)).trans ((Below.heap_alloc w1 _ b (by omega)).trans HH.out); have d1 : w2.cell? ⟨b, 1, none⟩ = some v := (by rw [Lib.cell_of_heap hh2]; rfl); have f1 : w2.frozen? ⟨b, 1, none⟩ = false := Lib.frozen_of_heap hh2 1; have HH2 := Lib.hid hh2; clear hown' hg hat hh2)
  go_ret
  refine ⟨rfl, _, bld_put (l' := l ++ [x]) hbB HH2.out (by rw [List.length_append, byV_append]; exact HO.out) (by simp), ?_, ((HK.out.alloc _).grown HG.out).setCell 1 _⟩
  intro g2 hg2
  simp [Value.ownBlock] at hg2
  subst hg2
  rcases HAT.out with h | h
  · exact .inl h
  · right; simp at h; omega

set_option maxHeartbeats 1000000 in
set_option maxRecDepth 100000 in
theorem WriteString_any (B b : Nat) (v : Value) (l : List UInt8) (x : ByteArray) (w : World) (h : BldAt w B b v l) (hl : l.length ≤ 10000000) (hx : x.size ≤ 10000000) (hB : B ≤ w.heap.size) :
    Calls Try.prog 69 #[.pointer (some ⟨b, 0, none⟩), .string x] w fun e w' => e = .returned (.tuple #[.int .i64 x.size, .nilIface]) ∧ Wrote B b v l x.data.toList w w' := by
  obtain ⟨i0, hi, hz0, hz1, hz2⟩ := info_parts infoByteB
  have HI := Lib.hid hi; have HZ0 := Lib.hid hz0; have HZ1 := Lib.hid hz1; have HZ2 := Lib.hid hz2
  clear hi hz0 hz1 hz2
  have HC := Lib.hid (copyCheck_any B b v l w h)
  have hblt := h.lt
  have hbB := h.base
  clear h
  go_enter Try.func69, Try.ntmps69
  go_wp2_with fail
  refine HC.out.mono ?_
  rintro e w1 ⟨rfl, hh, hb, hsz, hk⟩
  have z1 : w.heap.size ≤ w1.heap.size := by omega
  clear hsz
  have HB := Lib.hid hb
  have HK := Lib.hid hk
  have HH := Lib.hid hh
  have c0 : w1.cell? ⟨b, 0, none⟩ = some (.pointer (some ⟨b, 0, none⟩)) := by rw [Lib.cell_of_heap hh]; rfl
  have c1 : w1.cell? ⟨b, 1, none⟩ = some v := by rw [Lib.cell_of_heap hh]; rfl
  clear hb hk hh HC
  have k3 := Lib.hid (show l.length + x.size ≤ maxLen from by unfold maxLen; omega)
  have k4 := Lib.hid (show l.length + x.size ≤ 140737488355328 from by omega)
  have k5 := Lib.hid (show B ≤ w1.heap.size from by omega)
  go_wp2_with (at_builtin; refine wpList_append_str_lies _ rfl (.tmp 12) (.tmp 13) 68 9 rfl B 5 i0 Try.underlying68 Try.underlying9 HI.out HZ0.out HZ1.out HZ2.out v l.length (byV l) rfl HB.out.row x rfl k3.out k4.out k5.out ?_; intro v' w2 hown' hg hnil hat; obtain ⟨A', n', c', rfl⟩ := row_slice hown'; have HO := Lib.hid hown'; have HG := Lib.hid hg; have HAT := Lib.hid hat; have HN := Lib.hid hnil; have hh2 := (hg.block b (by omega) (fun e => HB.out.apart e.symm)).trans HH.out; have d1 : w2.cell? ⟨b, 1, none⟩ = some v := (by rw [Lib.cell_of_heap hh2]; rfl); have f1 : w2.frozen? ⟨b, 1, none⟩ = false := Lib.frozen_of_heap hh2 1; have HH2 := Lib.hid hh2; clear hown' hg hat hh2 hnil)
  go_ret2
  refine ⟨rfl, _, bld_put (l' := l ++ x.data.toList) hbB HH2.out (by rw [List.length_append, byV_append, ← byV_cells, ← Lib.size_eq]; exact HO.out) ?_, ?_, (HK.out.grown HG.out).setCell 1 _⟩
  · intro h0
    have h1 : l = [] := (List.append_eq_nil_iff.1 h0).1
    have h2 : x.size = 0 := by rw [Lib.size_eq, (List.append_eq_nil_iff.1 h0).2]; rfl
    exact HN.out.2 ⟨HB.out.nil h1, h2⟩
  · intro g2 hg2
    rcases HAT.out g2 hg2 with h | h
    · exact .inl h
    · right; omega

theorem KeptBut.freeze {b g n : Nat} {v : Value} {w w' : World} (h : KeptBut b v w w') (hv : v.ownBlock = some g) : KeptBut b v w (w'.freeze ⟨g, 0, none⟩ n) := by
  unfold World.freeze
  split
  · exact h
  · refine ⟨h.os, h.tape, h.output, by simpa using h.size, fun k hk hb hk2 => ?_⟩
    have hne : g ≠ k := fun e => hk2 (by rw [hv, e])
    have e := h.block k hk hb hk2
    simp [Array.getElem?_modify, hne, e]

theorem freeze_other (w : World) (g n b : Nat) (h : g ≠ b) : (w.freeze ⟨g, 0, none⟩ n).heap[b]? = w.heap[b]? := by
  unfold World.freeze
  split
  · rfl
  · simp [Array.getElem?_modify, h]

theorem cellsByteB : Try.prog.cellsOf 5 = 1 := by kernel_rfl

set_option maxHeartbeats 1000000 in
set_option maxRecDepth 100000 in
theorem String_some (B b : Nat) (v : Value) (l : List UInt8) (w : World) (h : BldAt w B b v l) (h0 : l ≠ []) :
    Calls Try.prog 44 #[.pointer (some ⟨b, 0, none⟩)] w fun e w' => e = .returned (.string ⟨l.toArray⟩) ∧ KeptBut b v w w' ∧ w'.heap[b]? = w.heap[b]? := by
  obtain ⟨p, _, hbk⟩ := h.head
  have hown := h.row
  have hl0 : l.length ≠ 0 := by simpa using h0
  obtain ⟨g, cap, cur, rfl, hbg, hg, hnc, hcm, hcs, htake⟩ : ∃ g cap cur, v = .slice (some ⟨g, 0, none⟩) l.length cap ∧ B ≤ g ∧ w.heap[g]? = some (.cells cur 5 (0, 0)) ∧ l.length ≤ cap ∧ cap ≤ maxLen ∧ cur.size = cap * 1 ∧ cur.toList.take (l.length * 1) = byV l := by
    rcases hown.2 with ⟨_, hz⟩ | ⟨g, cap, cur, hv, r⟩
    · exact absurd hz hl0
    · exact ⟨g, cap, cur, hv, r⟩
  have c1 : w.drew.cell? ⟨b, 1, none⟩ = some (.slice (some ⟨g, 0, none⟩) l.length cap) := by
    have : w.drew.heap[b]? = some (.cells #[p, .slice (some ⟨g, 0, none⟩) l.length cap] 73 (0, 0)) := hbk
    rw [Lib.cell_of_heap this]; rfl
  have hSD : (Builtin.unsafeSliceData_ #[68] 91 #[.slice (some ⟨g, 0, none⟩) l.length cap]).run Try.prog w.drew = .ok (.pointer (some ⟨g, 0, none⟩)) w.drew :=
    Lib.run_unsafeSliceData_row _ _ _ _ _ _ (by omega)
  have hUS : (Builtin.unsafeString_ #[91, 3] 9 #[.pointer (some ⟨g, 0, none⟩), .int .i64 l.length]).run Try.prog w.drew = .ok (.string ⟨l.toArray⟩) (w.drew.freeze ⟨g, 0, none⟩ l.length) := by
    refine Lib.run_unsafeString_row w.drew 91 3 9 5 Try.underlying91 cellsByteB g cur.size (by have hg' : w.drew.heap[g]? = some (.cells cur 5 (0, 0)) := hg; simp [World.shape?, hg']) l h0 (by omega) (by unfold maxLen at hcm; omega) ?_
    intro j x hx
    exact hown.cells (g := g) rfl j (.int .u8 x.toNat) (by simp [byV, hx])
  have hgb : g ≠ b := fun e => h.apart (by rw [← e]; rfl)
  have HK := Lib.hid (And.intro ((KeptBut.refl b (.slice (some ⟨g, 0, none⟩) l.length cap) w).drew.freeze (n := l.length) (g := g) rfl) (freeze_other w.drew g l.length b hgb))
  clear htake hcs hcm hg hbg hown hbk h hl0
  go_enter Try.func44, Try.ntmps44
  go_wp2
  go_region
  all_goals (go_wp2; go_ret; exact ⟨rfl, HK.out⟩)

set_option maxHeartbeats 1000000 in
set_option maxRecDepth 100000 in
theorem String_none (B b : Nat) (v : Value) (w : World) (h : BldAt w B b v []) :
    Calls Try.prog 44 #[.pointer (some ⟨b, 0, none⟩)] w fun e w' => e = .returned (.string ⟨#[]⟩) ∧ KeptBut b v w w' ∧ w'.heap[b]? = w.heap[b]? := by
  obtain ⟨p, _, hbk⟩ := h.head
  obtain rfl := h.nil rfl
  have c1 : w.drew.cell? ⟨b, 1, none⟩ = some (.slice none 0 0) := by
    have : w.drew.heap[b]? = some (.cells #[p, .slice none 0 0] 73 (0, 0)) := hbk
    rw [Lib.cell_of_heap this]; rfl
  have hSD : (Builtin.unsafeSliceData_ #[68] 91 #[.slice none 0 0]).run Try.prog w.drew = .ok (.pointer none) w.drew := rfl
  have hUS : (Builtin.unsafeString_ #[91, 3] 9 #[.pointer none, .int .i64 0]).run Try.prog w.drew = .ok (.string .empty) w.drew := Lib.run_unsafeString_none w.drew 91 3 9 none
  have HK := Lib.hid (And.intro (KeptBut.refl b (.slice none 0 0) w).drew (show w.drew.heap[b]? = w.heap[b]? from rfl))
  clear hbk h
  go_enter Try.func44, Try.ntmps44
  go_wp2
  go_region
  all_goals (go_wp2; go_ret; exact ⟨rfl, HK.out⟩)

theorem String_both (B b : Nat) (v : Value) (l : List UInt8) (w : World) (h : BldAt w B b v l) :
    Calls Try.prog 44 #[.pointer (some ⟨b, 0, none⟩)] w fun e w' => e = .returned (.string ⟨l.toArray⟩) ∧ KeptBut b v w w' ∧ w'.heap[b]? = w.heap[b]? := by
  by_cases h0 : l = []
  · subst h0; exact String_none B b v w h
  · exact String_some B b v l w h h0

theorem String_any (B b : Nat) (v : Value) (l : List UInt8) (w : World) (h : BldAt w B b v l) :
    Calls Try.prog 44 #[.pointer (some ⟨b, 0, none⟩)] w fun e w' => e = .returned (.string ⟨l.toArray⟩) ∧ KeptBut b v w w' :=
  (String_both B b v l w h).mono fun e w' ⟨h1, h2, _⟩ => ⟨h1, h2⟩

/-- A builder that is made. -/
theorem bld_new (w : World) (B : Nat) (hB : B ≤ w.heap.size) : BldAt (w.alloc (.cells #[.pointer none, .slice none 0 0] 73)) B w.heap.size (.slice none 0 0) [] :=
  ⟨hB, ⟨_, .inl rfl, heap_alloc_new w _⟩, World.ownsRow_nil _ _ _ _, by simp [Value.ownBlock], fun _ => rfl⟩

theorem BldAt.alloc {w : World} {B b : Nat} {v : Value} {l : List UInt8} (h : BldAt w B b v l) (o : Obj) : BldAt (w.alloc o) B b v l := by
  obtain ⟨p, hp, hh⟩ := h.head
  exact ⟨h.base, ⟨p, hp, (Below.heap_alloc w o b h.lt).trans hh⟩, h.row.alloc o, h.apart, h.nil⟩

end Go.Proofs.Ytigclegknofhmaa
