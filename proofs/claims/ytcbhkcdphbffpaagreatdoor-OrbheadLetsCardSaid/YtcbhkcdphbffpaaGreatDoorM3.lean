/-
  Lemmas of this claim, part 3: the texts Build, QuoA, QuoB, QuoC, QuoD, one behind the other.
-/
import Derived.Test.YtcbhkcdphbffpaaGreatDoorM2
import Derived.Lib.AppendStr
import Derived.Lib.Builder
import Derived.Lib.UnsafeStr
import Derived.Deep.AppendLies
import Derived.Laws.IdiomStrings
import Derived.Laws.Externs
import Derived.Maps.AppendAt
import Derived.RegionTactic
import Derived.Deep.RegionWith
import Derived.Deep.DeepCutAuto

namespace Go.Proofs.YtcbhkcdphbffpaaGreatDoor
open Go.RowKit
set_option linter.unusedSimpArgs false
set_option linter.unusedVariables false

theorem infoByteB : (Tryz.prog.info? 5).map (fun i => (i.zero, i.size, i.bytes)) = some (some (.int .u8 0), 1, 1) := by kernel_rfl

/-- Bytes as values. -/
def byV (l : List UInt8) : List Value := l.map fun x => Value.int .u8 (x.toNat : Int)

theorem byV_length (l : List UInt8) : (byV l).length = l.length := by simp [byV]

theorem byV_append (a b : List UInt8) : byV (a ++ b) = byV a ++ byV b := by simp [byV]

theorem byV_cells (s : ByteArray) : Lib.strCells s = byV s.data.toList := by simp [Lib.strCells, byV]

/-- A builder in block b, whose bytes are l, in the row that v owns. -/
structure BldAt (w : World) (B b : Nat) (v : Value) (l : List UInt8) : Prop where
  base : B ≤ b
  head : ∃ p, (p = Value.pointer none ∨ p = Value.pointer (some ⟨b, 0, none⟩)) ∧ w.heap[b]? = some (.cells #[p, v] 143 (0, 0))
  row : w.ownsRow B 5 1 v l.length (byV l)
  apart : v.ownBlock ≠ some b
  nil : l = [] → v = .slice none 0 0

/-- All blocks but b and what v owns stand. -/
structure KeptBut (b : Nat) (v : Value) (w w' : World) : Prop where
  os : w'.os = w.os
  tape : w'.tape = w.tape
  output : w'.output = w.output
  size : w.heap.size ≤ w'.heap.size
  block : ∀ k, k < w.heap.size → k ≠ b → v.ownBlock ≠ some k → w'.heap[k]? = w.heap[k]?

theorem KeptBut.refl (b : Nat) (v : Value) (w : World) : KeptBut b v w w := ⟨rfl, rfl, rfl, Nat.le_refl _, fun _ _ _ _ => rfl⟩

theorem KeptBut.drew {b : Nat} {v : Value} {w w' : World} (h : KeptBut b v w w') : KeptBut b v w w'.drew := ⟨h.os, h.tape, h.output, h.size, h.block⟩

theorem KeptBut.setCell {b : Nat} {v : Value} {w w' : World} (h : KeptBut b v w w') (o : Nat) (u : Value) : KeptBut b v w (w'.setCell ⟨b, o, none⟩ u) :=
  ⟨h.os, h.tape, h.output, by simpa [World.setCell] using h.size, fun k hk hb hv => (Below.heap_setCell _ _ _ _ (fun e => hb (by simp at e; exact e))).trans (h.block k hk hb hv)⟩

theorem KeptBut.alloc {b : Nat} {v : Value} {w w' : World} (h : KeptBut b v w w') (o : Obj) : KeptBut b v w (w'.alloc o) :=
  ⟨h.os, h.tape, h.output, Nat.le_trans h.size (by simp), fun k hk hb hv => (Below.heap_alloc w' o k (Nat.lt_of_lt_of_le hk h.size)).trans (h.block k hk hb hv)⟩

theorem KeptBut.grown {b : Nat} {v : Value} {w w' w2 : World} (h : KeptBut b v w w') (hg : w'.grownBy w2 v.ownBlock) : KeptBut b v w w2 :=
  ⟨hg.os.trans h.os, hg.tape.trans h.tape, hg.output.trans h.output, Nat.le_trans h.size hg.size, fun k hk hb hv => (hg.block k (Nat.lt_of_lt_of_le hk h.size) (fun e => hv e.symm)).trans (h.block k hk hb hv)⟩

theorem KeptBut.below {B b : Nat} {v : Value} {l : List UInt8} {w w' : World} (h : KeptBut b v w w') (hb : BldAt w B b v l) (hB : B ≤ w.heap.size) : Below B w w' :=
  ⟨h.os, h.tape, h.output, h.size, fun k hk => h.block k (by omega) (by have := hb.base; omega) (fun e => by have := (hb.row.lt k e).1; omega)⟩

theorem BldAt.lt {w : World} {B b : Nat} {v : Value} {l : List UInt8} (h : BldAt w B b v l) : b < w.heap.size := by
  obtain ⟨p, _, h2⟩ := h.head
  exact (Array.getElem?_eq_some_iff.1 h2).1

/-- Another builder stands. -/
theorem BldAt.other {w w' : World} {B b c : Nat} {v u : Value} {l m : List UInt8} (h : BldAt w B c u m) (hb : BldAt w B b v l) (hk : KeptBut b v w w') (hne : c ≠ b) (hr : ∀ g, u.ownBlock = some g → v.ownBlock ≠ some g ∧ g ≠ b) (hc : v.ownBlock ≠ some c) : BldAt w' B c u m := by
  obtain ⟨p, hp, hh⟩ := h.head
  refine ⟨h.base, ⟨p, hp, (hk.block c h.lt hne hc).trans hh⟩, ?_, h.apart, h.nil⟩
  obtain ⟨q1, q2⟩ := h.row
  refine ⟨q1, ?_⟩
  rcases q2 with q2 | ⟨g', cap', cur, q2, q3, q4, q5⟩
  · exact .inl q2
  · subst q2
    have := hr g' rfl
    exact .inr ⟨g', cap', cur, rfl, q3, (hk.block g' (Array.getElem?_eq_some_iff.1 q4).1 this.2 this.1).trans q4, q5⟩

/-- What a write leaves. -/
def Wrote (B b : Nat) (v : Value) (l x : List UInt8) (w w' : World) : Prop :=
  ∃ v', BldAt w' B b v' (l ++ x) ∧ (∀ g, v'.ownBlock = some g → v.ownBlock = some g ∨ w.heap.size ≤ g) ∧ KeptBut b v w w'

theorem append_str_lies {P : Program} (w : World) (base : Nat) (t u ty e : TypeId) (i : TypeInfo) (ht : P.underlying t = some (.slice e)) (hu : P.underlying u = some .string) (hi : P.info? e = some i) (hz : i.zero = some (.int .u8 0))
    (hsize : i.size = 1) (hby : i.bytes = 1) (v : Value) (n : Nat) (xs : List Value) (hown : w.ownsRow base e 1 v n xs) (s : ByteArray) (h63 : n + s.size ≤ maxLen) (hbytes : n + s.size ≤ 140737488355328) (hbase : base ≤ w.heap.size) :
    ∃ v' w', (Builtin.append_ #[t, u] ty #[v, .string s]).run P w = .ok v' w' ∧ w'.ownsRow base e 1 v' (n + s.size) (xs ++ Lib.strCells s) ∧ w.grownBy w' v.ownBlock ∧
      (v' = .slice none 0 0 ↔ v = .slice none 0 0 ∧ s.size = 0) ∧ (∀ g, v'.ownBlock = some g → v.ownBlock = some g ∨ w.heap.size ≤ g) := by
  obtain ⟨v', w', hr, h1, h2, h3⟩ := Lib.run_append_own_string (P := P) w base t u ty e i ht hu hi hz hsize hby v n xs hown s h63 hbytes hbase
  refine ⟨v', w', hr, h1, h2, h3, fun g hg => ?_⟩
  have hsmall : n + s.size ≤ 9223372036854775807 := by simp only [maxLen] at h63; omega
  have hxl : xs.length = n := by simpa using hown.1
  rcases hown.2 with ⟨rfl, rfl⟩ | ⟨g0, cap, cur, rfl, hbg, hg0, hnc, hcm, hcs, htake⟩
  · by_cases hm : s.size = 0
    · have : v' = .slice none 0 0 := h3.2 ⟨rfl, hm⟩
      subst this
      simp [Value.ownBlock] at hg
    · have hr2 := run_append_nil_string (P := P) w t u ty e i (.int .u8 0) ht hu hi hz s (by omega) (by omega) (by rw [hby]; omega)
      rw [hr] at hr2
      injection hr2 with e1 _
      subst e1
      simp [Value.ownBlock] at hg
      right; omega
  · by_cases hroom : n + s.size ≤ cap
    · have hr2 := Lib.run_append_room_string (P := P) w t u ty e i ht hu hi hsize g0 n cap cur hg0 s hroom (by omega)
      rw [hr] at hr2
      injection hr2 with e1 _
      subst e1
      left
      simpa [Value.ownBlock] using hg
    · have holds : ∀ j u, xs[j]? = some u → w.cell? ((⟨g0, 0, none⟩ : Addr).add j) = some u := hown.cells (g := g0) rfl
      have hr2 := Lib.run_append_grow_string (P := P) w t u ty e i (.int .u8 0) ht hu hi hz ⟨g0, 0, none⟩ n cap xs (by rw [hsize]; simpa using hxl) holds s (by omega) (by omega) (by rw [hby]; exact growslice_fits (by omega) (by omega))
      rw [hr] at hr2
      injection hr2 with e1 _
      subst e1
      simp [Value.ownBlock] at hg
      right; omega

theorem wpList_append_str_lies {P : Program} (w : World) {ops : Array Oper} {rest : List Oper} {o : Oper} {a : Act} {Q : Exit → Act → World → Prop} (hgd : o.guard = none) (sl x : Operand) (t u : TypeId)
    (ho : o.op = .call { callee := .builtin .append, args := #[sl, x], argTypes := #[t, u] })
    (base : Nat) (e : TypeId) (i : TypeInfo) (ht : P.underlying t = some (.slice e)) (hu : P.underlying u = some .string) (hi : P.info? e = some i) (hz : i.zero = some (.int .u8 0))
    (hsize : i.size = 1) (hby : i.bytes = 1)
    (v : Value) (n : Nat) (xs : List Value) (hs : a.eval sl = v) (hown : w.ownsRow base e 1 v n xs) (s : ByteArray) (hx : a.eval x = .string s)
    (h63 : n + s.size ≤ maxLen) (hbytes : n + s.size ≤ 140737488355328) (hbase : base ≤ w.heap.size)
    (h : ∀ v' w', w'.ownsRow base e 1 v' (n + s.size) (xs ++ Lib.strCells s) → w.grownBy w' v.ownBlock → (v' = .slice none 0 0 ↔ v = .slice none 0 0 ∧ s.size = 0) → (∀ g, v'.ownBlock = some g → v.ownBlock = some g ∨ w.heap.size ≤ g) → wpList P ops Q rest (a.put o.dst v') w') : wpList P ops Q (o :: rest) a w := by
  refine wpList_plain hgd fun K hK => ?_
  obtain ⟨v', w', hr, h2, h3, h4, h5⟩ := append_str_lies (P := P) w base t u o.type e i ht hu hi hz hsize hby v n xs hown s h63 hbytes hbase
  unfold Oper.wp execOp
  simp only [ho, resolve, invoke, builtin, Sem.run_bind, Sem.run_pure, Result.andThen_ok, List.map_toArray, List.map_cons, List.map_nil, hs, hx, hr]
  exact hK _ _ (h v' w' h2 h3 h4 h5)

theorem infoBuilder : (Tryz.prog.info? 143).map (fun i => (i.size)) = some 2 := by kernel_rfl

set_option maxHeartbeats 1000000 in
set_option maxRecDepth 100000 in
theorem copyCheck_any (B b : Nat) (v : Value) (l : List UInt8) (w : World) (h : BldAt w B b v l) :
    Calls Tryz.prog 162 #[.pointer (some ⟨b, 0, none⟩)] w fun e w' => e = .returned (.tuple #[]) ∧ (w'.heap[b]? = some (.cells #[.pointer (some ⟨b, 0, none⟩), v] 143 (0, 0)) ∧ BldAt w' B b v l ∧ w'.heap.size = w.heap.size ∧ KeptBut b v w w') := by
  obtain ⟨j, hj, hjs⟩ := Option.map_eq_some_iff.1 infoBuilder
  obtain ⟨p, hp, hh⟩ := h.head
  have c0 : w.cell? ⟨b, 0, none⟩ = some p := by rw [Lib.cell_of_heap hh]; rfl
  rcases hp with rfl | rfl
  · have hsh : w.shape? b = some (143, 2) := by simp [World.shape?, hh]
    have f0 : w.frozen? ⟨b, 0, none⟩ = false := Lib.frozen_of_heap hh 0
    have HH := Lib.hid hh
    have HB := Lib.hid h
    have hto := fun (w1 : World) (hs1 : w1.shape? b = some (143, 2)) => Lib.run_to_unsafe (P := Tryz.prog) w1 ⟨b, 0, none⟩ Tryz.underlying141 Tryz.underlying180 hj (by rw [hjs]; decide) hs1 (Nat.zero_lt_succ 1)
    have hfrom := fun (w1 : World) (hs1 : w1.shape? b = some (143, 2)) => Lib.run_from_unsafe (P := Tryz.prog) w1 ⟨b, 0, none⟩ Tryz.underlying180 Tryz.underlying141 hj hs1 (by kernel_rfl)
    have HTO := Lib.hid (hto w hsh)
    have HFROM := Lib.hid (hfrom w hsh)
    have hneq := fun (w : World) => Lib.run_neq_ptr_same (P := Tryz.prog) w ⟨b, 0, none⟩ Tryz.underlying141 hj
    clear hto hfrom hsh h hh hj hjs
    go_enter Tryz.func162, Tryz.ntmps162
    go_wp2
    rw [HTO.out]
    simp only [Result.andThen]
    rw [Oper.upon_value]
    go_wp2
    rw [run_callFunc_extern Tryz.func189 (by kernel_rfl) (by kernel_rfl) (by kernel_rfl) (e := Extern.AbiNoEscape.same) (by kernel_rfl)]
    rw [Lib.run_noEscape]
    simp only [Result.andThen]
    rw [Oper.upon_value]
    go_wp2
    rw [HFROM.out]
    simp only [Result.andThen]
    rw [Oper.upon_value]
    go_wp2
    go_end0
    have hh := HH.out
    have h2 : (w.setCell ⟨b, 0, none⟩ (.pointer (some ⟨b, 0, none⟩))).heap[b]? = some (.cells #[.pointer (some ⟨b, 0, none⟩), v] 143 (0, 0)) := by simp [World.setCell, Array.getElem?_modify, hh]
    have hk := (KeptBut.refl b v w).setCell 0 (.pointer (some ⟨b, 0, none⟩))
    refine ⟨rfl, h2, ⟨HB.out.base, ⟨_, .inr rfl, h2⟩, ?_, HB.out.apart, HB.out.nil⟩, by simp [World.setCell], hk⟩
    refine HB.out.row.kept (row := some b) ⟨rfl, rfl, rfl, by simp [World.setCell], fun k _ hk => Below.heap_setCell _ _ _ _ (fun e => hk (by simp [e]))⟩ (.inr HB.out.apart)
  · have hneq := fun (w : World) => Lib.run_neq_ptr_same (P := Tryz.prog) w ⟨b, 0, none⟩ Tryz.underlying141 hj
    have HH := Lib.hid hh
    have HB := Lib.hid h
    clear h hh hj hjs
    go_enter Tryz.func162, Tryz.ntmps162
    go_wp2
    go_end0
    exact ⟨rfl, HH.out, HB.out, rfl, KeptBut.refl _ _ _⟩

theorem row_slice {w : World} {base : Nat} {e : TypeId} {v : Value} {n : Nat} {xs : List Value} (h : w.ownsRow base e 1 v n xs) : ∃ A m c, v = .slice A m c := by
  rcases h.2 with ⟨rfl, _⟩ | ⟨g, cap, cur, rfl, _⟩
  · exact ⟨_, _, _, rfl⟩
  · exact ⟨_, _, _, rfl⟩

/-- A new row laid into a builder. -/
theorem bld_put {w2 : World} {B b : Nat} {v v' : Value} {l' : List UInt8} (hB : B ≤ b) (h2 : w2.heap[b]? = some (.cells #[.pointer (some ⟨b, 0, none⟩), v] 143 (0, 0))) (hown : w2.ownsRow B 5 1 v' l'.length (byV l')) (hn : l' = [] → v' = .slice none 0 0) :
    BldAt (w2.setCell ⟨b, 1, none⟩ v') B b v' l' := by
  have hne := Lib.ownBlock_ne hown h2 (by decide)
  refine ⟨hB, ⟨_, .inr rfl, ?_⟩, ?_, hne, hn⟩
  · simp [World.setCell, Array.getElem?_modify, h2]
  · exact hown.kept (row := some b) ⟨rfl, rfl, rfl, by simp [World.setCell], fun k _ hk => Below.heap_setCell _ _ _ _ (fun e => hk (by simp [e]))⟩ (.inr hne)

set_option maxHeartbeats 1000000 in
set_option maxRecDepth 100000 in
theorem WriteByte_any (B b : Nat) (v : Value) (l : List UInt8) (x : UInt8) (w : World) (h : BldAt w B b v l) (hl : l.length ≤ 10000000) (hB : B ≤ w.heap.size) :
    Calls Tryz.prog 165 #[.pointer (some ⟨b, 0, none⟩), .int .u8 (x.toNat : Int)] w fun e w' => e = .returned .nilIface ∧ Wrote B b v l [x] w w' := by
  obtain ⟨i0, hi, hz0, hz1, hz2⟩ := info_parts infoByteB
  have HI := Lib.hid hi; have HZ0 := Lib.hid hz0; have HZ1 := Lib.hid hz1; have HZ2 := Lib.hid hz2
  clear hi hz0 hz1 hz2
  have HC := Lib.hid (copyCheck_any B b v l w h)
  have hblt := h.lt
  have hbB := h.base
  clear h
  go_enter Tryz.func165, Tryz.ntmps165
  go_wp2_with fail
  refine HC.out.mono ?_
  rintro e w1 ⟨rfl, hh, hb, hsz, hk⟩
  have z1 : w.heap.size ≤ w1.heap.size := by omega
  clear hsz
  have HB := Lib.hid hb
  have HK := Lib.hid hk
  have HH := Lib.hid hh
  have c0 : w1.cell? ⟨b, 0, none⟩ = some (.pointer (some ⟨b, 0, none⟩)) := by rw [Lib.cell_of_heap hh]; rfl
  have c1 : w1.cell? ⟨b, 1, none⟩ = some v := by rw [Lib.cell_of_heap hh]; rfl
  clear hb hk hh HC
  have k0 := Lib.hid (HB.out.row.alloc (.cells #[.int .u8 (x.toNat : Int)] 5))
  have k1 := Lib.hid (cell_one_new w1 (.int .u8 (x.toNat : Int)) 5)
  have k2 := Lib.hid (show ∀ u ∈ ([.int .u8 (x.toNat : Int)] : List Value), u.oneCell' = true from by intro u hu; simp at hu; subst hu; rfl)
  have k3 := Lib.hid (show l.length + 1 ≤ maxLen from by unfold maxLen; omega)
  have k4 := Lib.hid (show (l.length + 1) * 1 ≤ 140737488355328 from by omega)
  have k5 := Lib.hid (show B ≤ (w1.alloc (.cells #[.int .u8 (x.toNat : Int)] 5)).heap.size from by simp; omega)
  go_wp2_with (at_builtin; go_must (refine wpList_append_lies _ rfl (.tmp 11) (.tmp 13) 98 rfl B 5 i0 (.int .u8 0) 1 1 Tryz.underlying98 HI.out HZ0.out HZ1.out HZ2.out rfl (by decide) v l.length (byV l) rfl k0.out ⟨w1.heap.size, 0, none⟩ 1 1 [.int .u8 (x.toNat : Int)] rfl rfl k1.out k2.out (by decide) k3.out k4.out k5.out _ rfl ?_); intro g cap w2 hown' hg hat hlt; have HO := Lib.hid hown'; have HG := Lib.hid hg; have HAT := Lib.hid hat; have hh2 := (hg.block b (by simp; omega) (fun e => HB.out.apart e.symm)).trans ((Below.heap_alloc w1 _ b (by omega)).trans HH.out); have d1 : w2.cell? ⟨b, 1, none⟩ = some v := (by rw [Lib.cell_of_heap hh2]; rfl); have f1 : w2.frozen? ⟨b, 1, none⟩ = false := Lib.frozen_of_heap hh2 1; have HH2 := Lib.hid hh2; clear hown' hg hat hh2)
  go_ret
  refine ⟨rfl, _, bld_put (l' := l ++ [x]) hbB HH2.out (by rw [List.length_append, byV_append]; exact HO.out) (by simp), ?_, ((HK.out.alloc _).grown HG.out).setCell 1 _⟩
  intro g2 hg2
  simp [Value.ownBlock] at hg2
  subst hg2
  rcases HAT.out with h | h
  · exact .inl h
  · right; simp at h; omega

set_option maxHeartbeats 1000000 in
set_option maxRecDepth 100000 in
theorem WriteString_any (B b : Nat) (v : Value) (l : List UInt8) (x : ByteArray) (w : World) (h : BldAt w B b v l) (hl : l.length ≤ 10000000) (hx : x.size ≤ 10000000) (hB : B ≤ w.heap.size) :
    Calls Tryz.prog 132 #[.pointer (some ⟨b, 0, none⟩), .string x] w fun e w' => e = .returned (.tuple #[.int .i64 x.size, .nilIface]) ∧ Wrote B b v l x.data.toList w w' := by
  obtain ⟨i0, hi, hz0, hz1, hz2⟩ := info_parts infoByteB
  have HI := Lib.hid hi; have HZ0 := Lib.hid hz0; have HZ1 := Lib.hid hz1; have HZ2 := Lib.hid hz2
  clear hi hz0 hz1 hz2
  have HC := Lib.hid (copyCheck_any B b v l w h)
  have hblt := h.lt
  have hbB := h.base
  clear h
  go_enter Tryz.func132, Tryz.ntmps132
  go_wp2_with fail
  refine HC.out.mono ?_
  rintro e w1 ⟨rfl, hh, hb, hsz, hk⟩
  have z1 : w.heap.size ≤ w1.heap.size := by omega
  clear hsz
  have HB := Lib.hid hb
  have HK := Lib.hid hk
  have HH := Lib.hid hh
  have c0 : w1.cell? ⟨b, 0, none⟩ = some (.pointer (some ⟨b, 0, none⟩)) := by rw [Lib.cell_of_heap hh]; rfl
  have c1 : w1.cell? ⟨b, 1, none⟩ = some v := by rw [Lib.cell_of_heap hh]; rfl
  clear hb hk hh HC
  have k3 := Lib.hid (show l.length + x.size ≤ maxLen from by unfold maxLen; omega)
  have k4 := Lib.hid (show l.length + x.size ≤ 140737488355328 from by omega)
  have k5 := Lib.hid (show B ≤ w1.heap.size from by omega)
  go_wp2_with (at_builtin; refine wpList_append_str_lies _ rfl (.tmp 12) (.tmp 13) 98 9 rfl B 5 i0 Tryz.underlying98 Tryz.underlying9 HI.out HZ0.out HZ1.out HZ2.out v l.length (byV l) rfl HB.out.row x rfl k3.out k4.out k5.out ?_; intro v' w2 hown' hg hnil hat; obtain ⟨A', n', c', rfl⟩ := row_slice hown'; have HO := Lib.hid hown'; have HG := Lib.hid hg; have HAT := Lib.hid hat; have HN := Lib.hid hnil; have hh2 := (hg.block b (by omega) (fun e => HB.out.apart e.symm)).trans HH.out; have d1 : w2.cell? ⟨b, 1, none⟩ = some v := (by rw [Lib.cell_of_heap hh2]; rfl); have f1 : w2.frozen? ⟨b, 1, none⟩ = false := Lib.frozen_of_heap hh2 1; have HH2 := Lib.hid hh2; clear hown' hg hat hh2 hnil)
  go_ret2
  refine ⟨rfl, _, bld_put (l' := l ++ x.data.toList) hbB HH2.out (by rw [List.length_append, byV_append, ← byV_cells, ← Lib.size_eq]; exact HO.out) ?_, ?_, (HK.out.grown HG.out).setCell 1 _⟩
  · intro h0
    have h1 : l = [] := (List.append_eq_nil_iff.1 h0).1
    have h2 : x.size = 0 := by rw [Lib.size_eq, (List.append_eq_nil_iff.1 h0).2]; rfl
    exact HN.out.2 ⟨HB.out.nil h1, h2⟩
  · intro g2 hg2
    rcases HAT.out g2 hg2 with h | h
    · exact .inl h
    · right; omega

theorem KeptBut.freeze {b g n : Nat} {v : Value} {w w' : World} (h : KeptBut b v w w') (hv : v.ownBlock = some g) : KeptBut b v w (w'.freeze ⟨g, 0, none⟩ n) := by
  unfold World.freeze
  split
  · exact h
  · refine ⟨h.os, h.tape, h.output, by simpa using h.size, fun k hk hb hk2 => ?_⟩
    have hne : g ≠ k := fun e => hk2 (by rw [hv, e])
    have e := h.block k hk hb hk2
    simp [Array.getElem?_modify, hne, e]

theorem freeze_other (w : World) (g n b : Nat) (h : g ≠ b) : (w.freeze ⟨g, 0, none⟩ n).heap[b]? = w.heap[b]? := by
  unfold World.freeze
  split
  · rfl
  · simp [Array.getElem?_modify, h]

theorem cellsByteB : Tryz.prog.cellsOf 5 = 1 := by kernel_rfl

set_option maxHeartbeats 1000000 in
set_option maxRecDepth 100000 in
theorem String_some (B b : Nat) (v : Value) (l : List UInt8) (w : World) (h : BldAt w B b v l) (h0 : l ≠ []) :
    Calls Tryz.prog 137 #[.pointer (some ⟨b, 0, none⟩)] w fun e w' => e = .returned (.string ⟨l.toArray⟩) ∧ KeptBut b v w w' ∧ w'.heap[b]? = w.heap[b]? := by
  obtain ⟨p, _, hbk⟩ := h.head
  have hown := h.row
  have hl0 : l.length ≠ 0 := by simpa using h0
  obtain ⟨g, cap, cur, rfl, hbg, hg, hnc, hcm, hcs, htake⟩ : ∃ g cap cur, v = .slice (some ⟨g, 0, none⟩) l.length cap ∧ B ≤ g ∧ w.heap[g]? = some (.cells cur 5 (0, 0)) ∧ l.length ≤ cap ∧ cap ≤ maxLen ∧ cur.size = cap * 1 ∧ cur.toList.take (l.length * 1) = byV l := by
    rcases hown.2 with ⟨_, hz⟩ | ⟨g, cap, cur, hv, r⟩
    · exact absurd hz hl0
    · exact ⟨g, cap, cur, hv, r⟩
  have c1 : w.drew.cell? ⟨b, 1, none⟩ = some (.slice (some ⟨g, 0, none⟩) l.length cap) := by
    have : w.drew.heap[b]? = some (.cells #[p, .slice (some ⟨g, 0, none⟩) l.length cap] 143 (0, 0)) := hbk
    rw [Lib.cell_of_heap this]; rfl
  have hSD : (Builtin.unsafeSliceData_ #[98] 173 #[.slice (some ⟨g, 0, none⟩) l.length cap]).run Tryz.prog w.drew = .ok (.pointer (some ⟨g, 0, none⟩)) w.drew :=
    Lib.run_unsafeSliceData_row _ _ _ _ _ _ (by omega)
  have hUS : (Builtin.unsafeString_ #[173, 3] 9 #[.pointer (some ⟨g, 0, none⟩), .int .i64 l.length]).run Tryz.prog w.drew = .ok (.string ⟨l.toArray⟩) (w.drew.freeze ⟨g, 0, none⟩ l.length) := by
    refine Lib.run_unsafeString_row w.drew 173 3 9 5 Tryz.underlying173 cellsByteB g cur.size (by have hg' : w.drew.heap[g]? = some (.cells cur 5 (0, 0)) := hg; simp [World.shape?, hg']) l h0 (by omega) (by unfold maxLen at hcm; omega) ?_
    intro j x hx
    exact hown.cells (g := g) rfl j (.int .u8 x.toNat) (by simp [byV, hx])
  have hgb : g ≠ b := fun e => h.apart (by rw [← e]; rfl)
  have HK := Lib.hid (And.intro ((KeptBut.refl b (.slice (some ⟨g, 0, none⟩) l.length cap) w).drew.freeze (n := l.length) (g := g) rfl) (freeze_other w.drew g l.length b hgb))
  clear htake hcs hcm hg hbg hown hbk h hl0
  go_enter Tryz.func137, Tryz.ntmps137
  go_wp2
  go_region
  all_goals (go_wp2; go_ret; exact ⟨rfl, HK.out⟩)

set_option maxHeartbeats 1000000 in
set_option maxRecDepth 100000 in
theorem String_none (B b : Nat) (v : Value) (w : World) (h : BldAt w B b v []) :
    Calls Tryz.prog 137 #[.pointer (some ⟨b, 0, none⟩)] w fun e w' => e = .returned (.string ⟨#[]⟩) ∧ KeptBut b v w w' ∧ w'.heap[b]? = w.heap[b]? := by
  obtain ⟨p, _, hbk⟩ := h.head
  obtain rfl := h.nil rfl
  have c1 : w.drew.cell? ⟨b, 1, none⟩ = some (.slice none 0 0) := by
    have : w.drew.heap[b]? = some (.cells #[p, .slice none 0 0] 143 (0, 0)) := hbk
    rw [Lib.cell_of_heap this]; rfl
  have hSD : (Builtin.unsafeSliceData_ #[98] 173 #[.slice none 0 0]).run Tryz.prog w.drew = .ok (.pointer none) w.drew := rfl
  have hUS : (Builtin.unsafeString_ #[173, 3] 9 #[.pointer none, .int .i64 0]).run Tryz.prog w.drew = .ok (.string .empty) w.drew := Lib.run_unsafeString_none w.drew 173 3 9 none
  have HK := Lib.hid (And.intro (KeptBut.refl b (.slice none 0 0) w).drew (show w.drew.heap[b]? = w.heap[b]? from rfl))
  clear hbk h
  go_enter Tryz.func137, Tryz.ntmps137
  go_wp2
  go_region
  all_goals (go_wp2; go_ret; exact ⟨rfl, HK.out⟩)

theorem String_both (B b : Nat) (v : Value) (l : List UInt8) (w : World) (h : BldAt w B b v l) :
    Calls Tryz.prog 137 #[.pointer (some ⟨b, 0, none⟩)] w fun e w' => e = .returned (.string ⟨l.toArray⟩) ∧ KeptBut b v w w' ∧ w'.heap[b]? = w.heap[b]? := by
  by_cases h0 : l = []
  · subst h0; exact String_none B b v w h
  · exact String_some B b v l w h h0

theorem String_any (B b : Nat) (v : Value) (l : List UInt8) (w : World) (h : BldAt w B b v l) :
    Calls Tryz.prog 137 #[.pointer (some ⟨b, 0, none⟩)] w fun e w' => e = .returned (.string ⟨l.toArray⟩) ∧ KeptBut b v w w' :=
  (String_both B b v l w h).mono fun e w' ⟨h1, h2, _⟩ => ⟨h1, h2⟩

/-- A builder that is made. -/
theorem bld_new (w : World) (B : Nat) (hB : B ≤ w.heap.size) : BldAt (w.alloc (.cells #[.pointer none, .slice none 0 0] 143)) B w.heap.size (.slice none 0 0) [] :=
  ⟨hB, ⟨_, .inl rfl, heap_alloc_new w _⟩, World.ownsRow_nil _ _ _ _, by simp [Value.ownBlock], fun _ => rfl⟩

theorem BldAt.alloc {w : World} {B b : Nat} {v : Value} {l : List UInt8} (h : BldAt w B b v l) (o : Obj) : BldAt (w.alloc o) B b v l := by
  obtain ⟨p, hp, hh⟩ := h.head
  exact ⟨h.base, ⟨p, hp, (Below.heap_alloc w o b h.lt).trans hh⟩, h.row.alloc o, h.apart, h.nil⟩

end Go.Proofs.YtcbhkcdphbffpaaGreatDoor

namespace Go.Proofs.YtcbhkcdphbffpaaGreatDoor
open Go.RowKit
set_option linter.unusedSimpArgs false
set_option linter.unusedVariables false

/-- A cursor in block g at place m; builder bo holds T, builder bg holds G; of what was in w but g nothing has turned. -/
def Two (w : World) (g : Nat) (s : ByteArray) (bo bg m : Nat) (T G : List UInt8) (wr : World) : Prop :=
  ∃ vo vg, Cur wr g s m ∧ BldAt wr w.heap.size bo vo T ∧ BldAt wr w.heap.size bg vg G ∧ (∀ k, vo.ownBlock = some k → vg.ownBlock ≠ some k ∧ k ≠ bg) ∧ (∀ k, vg.ownBlock = some k → vo.ownBlock ≠ some k ∧ k ≠ bo) ∧ bo ≠ bg ∧ But g w wr ∧ g < w.heap.size

theorem BldAt.but {w w' : World} {B b g : Nat} {v : Value} {l : List UInt8} (h : BldAt w B b v l) (hb : But g w w') (hg : g < B) : BldAt w' B b v l := by
  obtain ⟨p, hp, hh⟩ := h.head
  have hne : ∀ k, B ≤ k → k < w.heap.size → w'.heap[k]? = w.heap[k]? := fun k h1 h2 => hb.block k h2 (fun e => by injection e; omega)
  refine ⟨h.base, ⟨p, hp, (hne b h.base h.lt).trans hh⟩, ?_, h.apart, h.nil⟩
  obtain ⟨q1, q2⟩ := h.row
  refine ⟨q1, ?_⟩
  rcases q2 with q2 | ⟨g', cap', cur, q2, q3, q4, q5⟩
  · exact .inl q2
  · exact .inr ⟨g', cap', cur, q2, q3, (hne g' q3 (Array.getElem?_eq_some_iff.1 q4).1).trans q4, q5⟩

theorem Cur.kept {w w' : World} {B b g : Nat} {v : Value} {l : List UInt8} {s : ByteArray} {m : Nat} (h : Cur w g s m) (hb : BldAt w B b v l) (hk : KeptBut b v w w') (hg : g < B) : Cur w' g s m :=
  (hk.block g h.lt (by have := hb.base; omega) (fun e => by have := (hb.row.lt g e).1; omega)).trans h

theorem But.kept {w0 w w' : World} {b g : Nat} {v : Value} {l : List UInt8} (h : But g w0 w) (hb : BldAt w w0.heap.size b v l) (hk : KeptBut b v w w') : But g w0 w' :=
  ⟨hk.os.trans h.os, hk.tape.trans h.tape, hk.output.trans h.output, Nat.le_trans h.size hk.size, fun k h1 h2 => (hk.block k (Nat.lt_of_lt_of_le h1 h.size) (by have := hb.base; omega) (fun e => by have := (hb.row.lt k e).1; omega)).trans (h.block k h1 h2)⟩

theorem Two.start {w : World} {g : Nat} {s : ByteArray} {m : Nat} (h : Cur w g s m) :
    Two w g s w.heap.size (w.heap.size + 1) m [] [] ((w.alloc (.cells #[.pointer none, .slice none 0 0] 143)).alloc (.cells #[.pointer none, .slice none 0 0] 143)) := by
  have h2 := bld_new (w.alloc (.cells #[.pointer none, .slice none 0 0] 143)) w.heap.size (by simp)
  simp only [World.size_alloc] at h2
  exact ⟨_, _, (h.alloc _).alloc _, (bld_new w _ (Nat.le_refl _)).alloc _, h2, by simp [Value.ownBlock], by simp [Value.ownBlock], by omega, ((But.refl _ _).alloc _).alloc _, h.lt⟩

theorem Two.cur {w wr : World} {g bo bg m : Nat} {s : ByteArray} {T G : List UInt8} (h : Two w g s bo bg m T G wr) : Cur wr g s m := by
  obtain ⟨vo, vg, h1, _⟩ := h
  exact h1

theorem Two.moved {w wr w2 : World} {g bo bg m m2 : Nat} {s : ByteArray} {T G : List UInt8} (h : Two w g s bo bg m T G wr) (hm : Moved g s m2 wr w2) : Two w g s bo bg m2 T G w2 := by
  obtain ⟨vo, vg, h1, h2, h3, h4, h5, h6, h7, h8⟩ := h
  exact ⟨vo, vg, hm.1, h2.but hm.2 h8, h3.but hm.2 h8, h4, h5, h6, h7.trans hm.2, h8⟩

theorem Two.outWrote {w wr w2 : World} {g bo bg m : Nat} {s : ByteArray} {T G x : List UInt8} {vo vg : Value} (h1 : Cur wr g s m) (h2 : BldAt wr w.heap.size bo vo T) (h3 : BldAt wr w.heap.size bg vg G)
    (h4 : ∀ k, vo.ownBlock = some k → vg.ownBlock ≠ some k ∧ k ≠ bg) (h5 : ∀ k, vg.ownBlock = some k → vo.ownBlock ≠ some k ∧ k ≠ bo) (h6 : bo ≠ bg) (h7 : But g w wr) (h8 : g < w.heap.size)
    (hw : Wrote w.heap.size bo vo T x wr w2) : Two w g s bo bg m (T ++ x) G w2 := by
  obtain ⟨v', hb, hrow, hk⟩ := hw
  refine ⟨v', vg, h1.kept h2 hk h8, hb, h3.other h2 hk (Ne.symm h6) h5 (fun e => (h4 bg e).2 rfl), ?_, ?_, h6, h7.kept h2 hk, h8⟩
  · intro k hv
    rcases hrow k hv with h | h
    · exact h4 k h
    · refine ⟨fun e => ?_, ?_⟩
      · have := (h3.row.lt k e).2; omega
      · have := h3.lt; omega
  · intro k hv
    refine ⟨fun e => ?_, (h5 k hv).2⟩
    rcases hrow k e with h | h
    · exact (h5 k hv).1 h
    · have := (h3.row.lt k hv).2; omega

theorem Two.swap {w wr : World} {g bo bg m : Nat} {s : ByteArray} {T G : List UInt8} (h : Two w g s bo bg m T G wr) : Two w g s bg bo m G T wr := by
  obtain ⟨vo, vg, h1, h2, h3, h4, h5, h6, h7, h8⟩ := h
  exact ⟨vg, vo, h1, h3, h2, h5, h4, h6.symm, h7, h8⟩

theorem outByte {w wr : World} {g bo bg m : Nat} {s : ByteArray} {T G : List UInt8} (h : Two w g s bo bg m T G wr) (x : UInt8) (hT : T.length ≤ 10000000) :
    Calls Tryz.prog 165 #[.pointer (some ⟨bo, 0, none⟩), .int .u8 (x.toNat : Int)] wr fun e w' => e = .returned .nilIface ∧ Two w g s bo bg m (T ++ [x]) G w' := by
  obtain ⟨vo, vg, h1, h2, h3, h4, h5, h6, h7, h8⟩ := h
  refine (WriteByte_any w.heap.size bo vo T x wr h2 hT h7.size).mono ?_
  rintro e w' ⟨rfl, hw⟩
  exact ⟨rfl, Two.outWrote h1 h2 h3 h4 h5 h6 h7 h8 hw⟩

theorem outStr {w wr : World} {g bo bg m : Nat} {s : ByteArray} {T G : List UInt8} (h : Two w g s bo bg m T G wr) (x : ByteArray) (hT : T.length ≤ 10000000) (hx : x.size ≤ 10000000) :
    Calls Tryz.prog 132 #[.pointer (some ⟨bo, 0, none⟩), .string x] wr fun e w' => e = .returned (.tuple #[.int .i64 x.size, .nilIface]) ∧ Two w g s bo bg m (T ++ x.data.toList) G w' := by
  obtain ⟨vo, vg, h1, h2, h3, h4, h5, h6, h7, h8⟩ := h
  refine (WriteString_any w.heap.size bo vo T x wr h2 hT hx h7.size).mono ?_
  rintro e w' ⟨rfl, hw⟩
  exact ⟨rfl, Two.outWrote h1 h2 h3 h4 h5 h6 h7 h8 hw⟩

theorem goneByte {w wr : World} {g bo bg m : Nat} {s : ByteArray} {T G : List UInt8} (h : Two w g s bo bg m T G wr) (x : UInt8) (hG : G.length ≤ 10000000) :
    Calls Tryz.prog 165 #[.pointer (some ⟨bg, 0, none⟩), .int .u8 (x.toNat : Int)] wr fun e w' => e = .returned .nilIface ∧ Two w g s bo bg m T (G ++ [x]) w' :=
  (outByte h.swap x hG).mono fun e w' ⟨he, ht⟩ => ⟨he, ht.swap⟩

theorem goneStr {w wr : World} {g bo bg m : Nat} {s : ByteArray} {T G : List UInt8} (h : Two w g s bo bg m T G wr) (x : ByteArray) (hG : G.length ≤ 10000000) (hx : x.size ≤ 10000000) :
    Calls Tryz.prog 132 #[.pointer (some ⟨bg, 0, none⟩), .string x] wr fun e w' => e = .returned (.tuple #[.int .i64 x.size, .nilIface]) ∧ Two w g s bo bg m T (G ++ x.data.toList) w' :=
  (outStr h.swap x hG hx).mono fun e w' ⟨he, ht⟩ => ⟨he, ht.swap⟩

/-- One of the two is read, the other one stands. -/
def One (w : World) (g : Nat) (s : ByteArray) (bg m : Nat) (G : List UInt8) (wr : World) : Prop :=
  ∃ vg, Cur wr g s m ∧ BldAt wr w.heap.size bg vg G ∧ But g w wr ∧ g < w.heap.size

theorem outString {w wr : World} {g bo bg m : Nat} {s : ByteArray} {T G : List UInt8} (h : Two w g s bo bg m T G wr) :
    Calls Tryz.prog 137 #[.pointer (some ⟨bo, 0, none⟩)] wr fun e w' => e = .returned (.string ⟨T.toArray⟩) ∧ One w g s bg m G w' := by
  obtain ⟨vo, vg, h1, h2, h3, h4, h5, h6, h7, h8⟩ := h
  refine (String_any w.heap.size bo vo T wr h2).mono ?_
  rintro e w' ⟨rfl, hk⟩
  exact ⟨rfl, vg, h1.kept h2 hk h8, h3.other h2 hk (Ne.symm h6) h5 (fun e => (h4 bg e).2 rfl), h7.kept h2 hk, h8⟩

theorem oneString {w wr : World} {g bg m : Nat} {s : ByteArray} {G : List UInt8} (h : One w g s bg m G wr) :
    Calls Tryz.prog 137 #[.pointer (some ⟨bg, 0, none⟩)] wr fun e w' => e = .returned (.string ⟨G.toArray⟩) ∧ Moved g s m w w' := by
  obtain ⟨vg, h1, h3, h7, h8⟩ := h
  refine (String_any w.heap.size bg vg G wr h3).mono ?_
  rintro e w' ⟨rfl, hk⟩
  exact ⟨rfl, h1.kept h3 hk h8, h7.kept h3 hk⟩

end Go.Proofs.YtcbhkcdphbffpaaGreatDoor

namespace Go.Proofs.YtcbhkcdphbffpaaGreatDoor
open Go.RowKit
set_option linter.unusedSimpArgs false
set_option linter.unusedVariables false

theorem ext_join (s : ByteArray) (k m n : Nat) (h1 : k ≤ m) (h2 : m ≤ n) (h3 : n ≤ s.size) : (s.extract k m).data.toList ++ (s.extract m n).data.toList = (s.extract k n).data.toList := by
  have hl : n ≤ s.data.toList.length := by rw [← Lib.size_eq]; exact h3
  simp only [ByteArray.data_extract, Array.toList_extract, List.extract_eq_take_drop]
  generalize s.data.toList = l at *
  have e : (l.drop k).take (n - k) = (l.drop k).take (m - k) ++ ((l.drop k).drop (m - k)).take (n - m) := by
    rw [show n - k = (m - k) + (n - m) by omega, List.take_add]
  rw [e, List.drop_drop, show k + (m - k) = m by omega]

theorem ext_snoc (s : ByteArray) (k m : Nat) (h1 : k ≤ m) (h2 : m < s.size) : (s.extract k m).data.toList ++ [s[m]] = (s.extract k (m + 1)).data.toList := by
  rw [← ext_join s k m (m + 1) h1 (by omega) (by omega)]
  congr 1
  have hl : m < s.data.toList.length := by rw [← Lib.size_eq]; exact h2
  simp only [ByteArray.data_extract, Array.toList_extract, List.extract_eq_take_drop]
  rw [show m + 1 - m = 1 by omega, List.drop_eq_getElem_cons hl]
  simp
  rfl

theorem ext_length (s : ByteArray) (k m : Nat) (h2 : m ≤ s.size) : (s.extract k m).data.toList.length = m - k := by
  rw [← Lib.size_eq, extract_size]; omega

theorem Peek0_yes (g : Nat) (s : ByteArray) (k : Nat) (w : World) (h : Cur w g s k) (hi : k < s.size) (hs : s.size ≤ maxLen) :
    Calls Tryz.prog 134 #[.pointer (some ⟨g, 0, none⟩), .int .i64 0] w fun e w' => e = .returned (.tuple #[.int .u8 (s[k].toNat : Int), .bool true]) ∧ Moved g s k w w' :=
  (Peek_yes g s k 0 w h hi hs).mono fun e w' ⟨he, hd⟩ => ⟨he, moved_drew h hd⟩

theorem Peek0_no (g : Nat) (s : ByteArray) (w : World) (h : Cur w g s s.size) (hs : s.size ≤ maxLen) :
    Calls Tryz.prog 134 #[.pointer (some ⟨g, 0, none⟩), .int .i64 0] w fun e w' => e = .returned (.tuple #[.int .u8 0, .bool false]) ∧ Moved g s s.size w w' :=
  (Peek_no g s s.size 0 w h (Nat.le_refl _) (.inr (by omega)) hs).mono fun e w' ⟨he, hd⟩ => ⟨he, moved_drew h hd⟩

theorem toArr (s : ByteArray) (k m : Nat) : (⟨(s.extract k m).data.toList.toArray⟩ : ByteArray) = s.extract k m := by
  show (⟨(s.extract k m).data.toList.toArray⟩ : ByteArray) = ⟨(s.extract k m).data⟩
  rw [Array.toArray_toList]

/-- Where a cursor is, read off the world. -/
def curAt (w : World) (g : Nat) : Nat := match w.cell? ⟨g, 1, none⟩ with | some v => (intOf v).toNat | none => 0

theorem Cur.at_ {w : World} {g : Nat} {s : ByteArray} {m : Nat} (h : Cur w g s m) : curAt w g = m := by
  unfold curAt
  rw [h.gone]
  simp [intOf]

theorem prefB_quote (s : ByteArray) (k : Nat) (h : k < s.size) : prefB (restB s k) ⟨#[34]⟩ = (s[k] == 34) := by
  have hr : (restB s k).data.toList = s[k] :: dropB s (k + 1) := by
    rw [← dropB_cons s k h]
    unfold dropB restB
    rw [ByteArray.data_extract, Array.toList_extract, List.extract_eq_take_drop, List.take_of_length_le (by rw [List.length_drop, ← Lib.size_eq]; omega)]
  unfold prefB Lib.hasPrefix
  rw [hr]
  show [34].isPrefixOf _ = _
  simp only [List.isPrefixOf, Bool.and_true]
  exact Bool.eq_iff_iff.2 ⟨fun h => by simp at h ⊢; exact h.symm, fun h => by simp at h ⊢; exact h.symm⟩

/-- What holds at the head of a round. -/
def Coll (w : World) (g : Nat) (s : ByteArray) (k bo bg : Nat) (wr : World) : Prop :=
  ∃ (m : Nat) (T : List UInt8), k + 1 ≤ m ∧ m ≤ s.size ∧ T ++ (readL (dropB s m)).1 = (readL (dropB s (k + 1))).1 ∧ m + (readL (dropB s m)).2 = k + 1 + (readL (dropB s (k + 1))).2 ∧ T.length ≤ m ∧ Two w g s bo bg m T (s.extract k m).data.toList wr

set_option maxHeartbeats 4000000 in
set_option maxRecDepth 100000 in
theorem collect_gives (g : Nat) (s : ByteArray) (k : Nat) (w : World) (h : Cur w g s k) (hk : k < s.size) (hq : s[k] = 34) (hs : s.size ≤ 100000) :
    Calls Tryz.prog 135 #[.pointer (some ⟨g, 0, none⟩)] w fun e w' => e = .returned (.tuple #[.string ⟨(readL (dropB s (k + 1))).1.toArray⟩, .string (s.extract k (k + 1 + (readL (dropB s (k + 1))).2))]) ∧ Moved g s (k + 1 + (readL (dropB s (k + 1))).2) w w' := by
  have hsm : s.size ≤ maxLen := by unfold maxLen; omega
  have HT0 := Lib.hid (Two.start h)
  have HSK : Hid (∀ (w1 : World), Cur w1 g s k → Calls Tryz.prog 105 #[.pointer (some ⟨g, 0, none⟩), .string ⟨#[34]⟩] w1 fun e w' => e = .returned (.bool true) ∧ Moved g s (k + 1) w1 w') :=
    Lib.hid (fun w1 h1 => Skip_yes ⟨#[34]⟩ g s k w1 h1 (by omega) hsm (by rw [prefB_quote s k hk, hq]; rfl))
  have HA := Lib.hid (fun (w1 : World) (h1 : Cur w1 g s (k + 1)) => At_any g s (k + 1) w1 h1)
  have HQ := Lib.hid hq
  clear hq h
  go_enter Tryz.func135, Tryz.ntmps135
  go_upto_region 2 with fail
  generalize hW : (w.alloc (.cells #[.pointer none, .slice none 0 0] 143)).alloc (.cells #[.pointer none, .slice none 0 0] 143) = W at *
  clear hW
  generalize hR : readL (dropB s (k + 1)) = R at *
  have HR := Lib.hid hR
  clear hR
  obtain ⟨bo, hbo⟩ : ∃ bo, w.heap.size = bo := ⟨_, rfl⟩
  have HBO := Lib.hid hbo
  obtain ⟨bg, hbg⟩ : ∃ bg, bo + 1 = bg := ⟨_, rfl⟩
  rw [hbo] at HT0 ⊢
  rw [hbg] at HT0 ⊢
  clear hbo hbg
  go_wp2_with fail
  refine (HSK.out _ HT0.out.cur).mono ?_
  rintro e w1 ⟨rfl, hm1⟩
  have HT1 := Lib.hid (HT0.out.moved hm1)
  clear hm1 HT0
  go_wp2_with (first | (go_at_call 147; refine (HA.out _ HT1.out.cur).mono ?_; rintro e w' ⟨rfl, rfl⟩) | (go_at_call 146; (with_reducible refine (Check_yes _ _ _).mono ?_); rintro e w' ⟨rfl, rfl⟩))
  refine (goneByte HT1.out 34 (by simp)).mono ?_
  rintro e w2 ⟨rfl, ht2⟩
  have HT2 := Lib.hid ht2
  clear ht2 HT1
  have HSTART : Hid (Coll w g s k bo bg w2) := Lib.hid ⟨k + 1, [], Nat.le_refl _, by omega, by rw [HR.out]; rfl, by rw [HR.out], by simp, by
    have e : (s.extract k (k + 1)).data.toList = [34] := by
      rw [← ext_snoc s k k (Nat.le_refl _) hk, HQ.out]
      simp
    rw [e]; exact HT2.out⟩
  clear HT2
  go_wp2_with fail
  go_loopw [6] (fun _ wr => Coll w g s k bo bg wr) (fun _ wr => s.size - curAt wr g)
  case atStart => exact HSTART.out
  case round =>
    clear HSTART
    obtain ⟨m, T, hkm, hms, hr1, hr2, hTm, ht⟩ := hrel
    have HT := Lib.hid ht
    have H1 := Lib.hid hr1
    have H2 := Lib.hid hr2
    have hcur0 := Lib.hid ht.cur.at_
    obtain ⟨n, hn⟩ : ∃ n, n = spanN (goesOn quoStops) (restB s m).data.toList := ⟨_, rfl⟩
    obtain ⟨d1, d2, d3, d4⟩ := dropB_span s m hms n hn
    have HU : Hid (∀ (w1 : World), Cur w1 g s m → Calls Tryz.prog 133 #[.pointer (some ⟨g, 0, none⟩), .string ⟨#[34, 92]⟩] w1 fun e w' => e = .returned (.string (s.extract m (m + n))) ∧ Moved g s (m + n) w1 w') :=
      Lib.hid (fun w1 h1 => by have := Until_gives quoStops g s m w1 h1 hms hsm; rw [← hn] at this; exact this)
    have HSP := Lib.hid (readL_span _ (dropB s (m + n)) d3)
    have HD2 := Lib.hid d2
    have HD4 := Lib.hid d4
    have HLX := Lib.hid (ext_length s m (m + n) d1)
    have HLG := Lib.hid (ext_length s k m hms)
    clear ht hr1 hr2 hn d2 d3 d4
    go_wp2_with fail
    refine (HU.out _ HT.out.cur).mono ?_
    rintro e w3 ⟨rfl, hm3⟩
    have HT3 := Lib.hid (HT.out.moved hm3)
    clear hm3 HT HU
    have hxz : (s.extract m (m + n)).size ≤ 10000000 := by rw [Lib.size_eq, HLX.out]; omega
    go_wp2_with fail
    refine (outStr HT3.out (s.extract m (m + n)) (by omega) hxz).mono ?_
    rintro e w4 ⟨rfl, ht4⟩
    have HT4 := Lib.hid ht4
    clear ht4 HT3
    go_wp2_with fail
    refine (goneStr HT4.out (s.extract m (m + n)) (by rw [HLG.out]; omega) hxz).mono ?_
    rintro e w5 ⟨rfl, ht5⟩
    rw [ext_join s k m (m + n) (by omega) (by omega) d1] at ht5
    have HT5 := Lib.hid ht5
    clear ht5 HT4
    obtain ⟨q, hq⟩ : ∃ q, m + n = q := ⟨_, rfl⟩
    obtain ⟨U, hU⟩ : ∃ U, T ++ (s.extract m (m + n)).data.toList = U := ⟨_, rfl⟩
    have hUl : U.length ≤ q := by rw [← hU, List.length_append, HLX.out]; omega
    have hqR : U ++ (readL (dropB s q)).1 = R.1 ∧ q + (readL (dropB s q)).2 = k + 1 + R.2 := by
      have h1 := H1.out
      have h2 := H2.out
      rw [HD2.out, HSP.out, HR.out] at h1 h2
      dsimp only at h1 h2
      rw [← hU, ← hq, List.append_assoc]
      refine ⟨h1, ?_⟩
      rw [HLX.out] at h2
      omega
    rw [hU, hq] at HT5
    rw [hq] at HD4 d1
    obtain ⟨g1, g2⟩ := hqR
    have G1 := Lib.hid g1
    have G2 := Lib.hid g2
    have hkq : k + 1 ≤ q := by omega
    have hmq : m ≤ q := by omega
    clear hU g1 g2 H1 H2 HD2 HSP HLX HLG hxz hTm
    go_wp2_with fail
    by_cases hend : q = s.size
    · subst hend
      refine (Peek0_no g s _ HT5.out.cur hsm).mono ?_
      rintro e w6 ⟨rfl, hm6⟩
      have HT6 := Lib.hid (HT5.out.moved hm6)
      have HE : Hid (U = R.1 ∧ s.size = k + 1 + R.2) := Lib.hid (by
        have a := G1.out
        have b := G2.out
        rw [dropB_end] at a b
        simp [readL] at a b
        exact ⟨a, b⟩)
      clear hm6 HT5 G1 G2
      go_wp2_with fail
      refine (outString HT6.out).mono ?_
      rintro e w7 ⟨rfl, h7⟩
      have H7 := Lib.hid h7
      clear h7
      go_wp2_with fail
      refine (oneString H7.out).mono ?_
      rintro e w8 ⟨rfl, h8⟩
      rw [toArr]
      have H8 := Lib.hid h8
      clear h8
      go_wp2_with fail
      go_ret2
      rw [HR.out, ← HE.out.1, ← HE.out.2]
      exact ⟨rfl, H8.out⟩
    · have hql : q < s.size := by omega
      clear hend
      refine (Peek0_yes g s q _ HT5.out.cur hql hsm).mono ?_
      rintro e w6 ⟨rfl, hm6⟩
      have HT6 := Lib.hid (HT5.out.moved hm6)
      clear hm6 HT5
      have HX := Lib.hid (dropB_cons s q hql)
      have HES := Lib.hid (ext_snoc s k q (by omega) hql)
      have HEL := Lib.hid (ext_length s k q (by omega))
      have HN := Lib.hid (fun (w1 : World) (h1 : Cur w1 g s q) => Next_gives g s q w1 h1 hql hsm)
      have hb := HD4.out hql
      generalize s[q] = b at *
      have hb34 : ((34 : UInt8).toNat : Int) = 34 := rfl
      have hb92 : ((92 : UInt8).toNat : Int) = 92 := rfl
      rcases hb with rfl | rfl
      · rw [hb34] at HN ⊢
        go_wp2_with fail
        refine (HN.out _ HT6.out.cur).mono ?_
        rintro e w7 ⟨rfl, hm7⟩
        have HT7 := Lib.hid (HT6.out.moved hm7)
        clear hm7 HT6
        go_wp2_with fail
        refine (goneByte HT7.out 34 (by rw [HEL.out]; omega)).mono ?_
        rintro e w8 ⟨rfl, ht8⟩
        rw [HES.out] at ht8
        have HT8 := Lib.hid ht8
        have HE : Hid (U = R.1 ∧ q + 1 = k + 1 + R.2) := Lib.hid (by
          have a := G1.out
          have b := G2.out
          rw [HX.out, readL_quote] at a b
          simp at a b
          exact ⟨a, b⟩)
        clear ht8 HT7 G1 G2
        go_wp2_with fail
        refine (outString HT8.out).mono ?_
        rintro e w9 ⟨rfl, h7⟩
        have H7 := Lib.hid h7
        clear h7
        go_wp2_with fail
        refine (oneString H7.out).mono ?_
        rintro e w10 ⟨rfl, h8⟩
        rw [toArr]
        have H8 := Lib.hid h8
        clear h8
        go_wp2_with fail
        go_ret2
        rw [HR.out, ← HE.out.1, ← HE.out.2]
        exact ⟨rfl, H8.out⟩
      · rw [hb92] at HN ⊢
        go_wp2_with fail
        refine (HN.out _ HT6.out.cur).mono ?_
        rintro e w7 ⟨rfl, hm7⟩
        have HT7 := Lib.hid (HT6.out.moved hm7)
        clear hm7 HT6
        go_wp2_with fail
        refine (goneByte HT7.out 92 (by rw [HEL.out]; omega)).mono ?_
        rintro e w8 ⟨rfl, ht8⟩
        rw [HES.out] at ht8
        have HT8 := Lib.hid ht8
        clear ht8 HT7
        go_wp2_with fail
        by_cases hend : q + 1 = s.size
        · rw [hend] at HT8
          refine (Peek0_no g s _ HT8.out.cur hsm).mono ?_
          rintro e w9 ⟨rfl, hm9⟩
          have HT9 := Lib.hid (HT8.out.moved hm9)
          have HE : Hid ((U ++ [92]) ++ (readL (dropB s s.size)).1 = R.1 ∧ s.size + (readL (dropB s s.size)).2 = k + 1 + R.2) := Lib.hid (by
            have a := G1.out
            have b := G2.out
            rw [HX.out, hend, dropB_end, readL_slash_end] at a b
            rw [dropB_end]
            simp [readL] at a b ⊢
            exact ⟨a, by omega⟩)
          clear hm9 HT8 G1 G2
          go_wp2_with fail
          refine (outByte HT9.out 92 (by omega)).mono ?_
          rintro e w10 ⟨rfl, ht10⟩
          have HT10 := Lib.hid ht10
          clear ht10
          go_wp2_with fail
          go_roundw
          case rel => exact ⟨s.size, U ++ [92], by omega, Nat.le_refl _, by rw [HR.out]; exact HE.out.1, by rw [HR.out]; exact HE.out.2, by simp; omega, HT10.out⟩
          case measure => rw [HT10.out.cur.at_, hcur0.out]; omega
        · have hq2 : q + 1 < s.size := by omega
          clear hend
          refine (Peek0_yes g s (q + 1) _ HT8.out.cur hq2 hsm).mono ?_
          rintro e w9 ⟨rfl, hm9⟩
          have HT9 := Lib.hid (HT8.out.moved hm9)
          have HX2 := Lib.hid (dropB_cons s (q + 1) hq2)
          have HES2 := Lib.hid (ext_snoc s k (q + 1) (by omega) hq2)
          have HEL2 := Lib.hid (ext_length s k (q + 1) (by omega))
          have HN2 := Lib.hid (fun (w1 : World) (h1 : Cur w1 g s (q + 1)) => Next_gives g s (q + 1) w1 h1 hq2 hsm)
          generalize s[q + 1] = c at *
          have HE : Hid ((U ++ [c]) ++ (readL (dropB s (q + 1 + 1))).1 = R.1 ∧ (q + 1 + 1) + (readL (dropB s (q + 1 + 1))).2 = k + 1 + R.2) := Lib.hid (by
            have a := G1.out
            have b := G2.out
            rw [HX.out, HX2.out, readL_slash] at a b
            simp at a b ⊢
            exact ⟨a, by omega⟩)
          clear hm9 HT8 G1 G2
          go_wp2_with fail
          refine (HN2.out _ HT9.out.cur).mono ?_
          rintro e w10 ⟨rfl, hm10⟩
          have HT10 := Lib.hid (HT9.out.moved hm10)
          clear hm10 HT9
          go_wp2_with fail
          refine (outByte HT10.out c (by omega)).mono ?_
          rintro e w11 ⟨rfl, ht11⟩
          have HT11 := Lib.hid ht11
          clear ht11 HT10
          go_wp2_with fail
          refine (goneByte HT11.out c (by rw [HEL2.out]; omega)).mono ?_
          rintro e w12 ⟨rfl, ht12⟩
          rw [HES2.out] at ht12
          have HT12 := Lib.hid ht12
          clear ht12 HT11
          go_wp2_with fail
          go_roundw
          case rel => exact ⟨q + 1 + 1, U ++ [c], by omega, by omega, by rw [HR.out]; exact HE.out.1, by rw [HR.out]; exact HE.out.2, by simp; omega, HT12.out⟩
          case measure => rw [HT12.out.cur.at_, hcur0.out]; omega

theorem collect_throws (g : Nat) (s : ByteArray) (k : Nat) (w : World) (h : Cur w g s k) (hk : k ≤ s.size) (hq : ∀ (hlt : k < s.size), s[k] ≠ 34) (hs : s.size ≤ 100000) :
    Calls Tryz.prog 135 #[.pointer (some ⟨g, 0, none⟩)] w fun e w' => e = .panicked [{ v := faultV k 2, recovered := false }] ∧ Moved g s k w w' := by
  have hsm : s.size ≤ maxLen := by unfold maxLen; omega
  have hp : prefB (restB s k) ⟨#[34]⟩ = false := by
    by_cases hlt : k < s.size
    · rw [prefB_quote s k hlt]
      rw [beq_eq_false_iff_ne]
      exact hq hlt
    · cases hx : prefB (restB s k) ⟨#[34]⟩
      · rfl
      · have := prefB_size hx
        rw [restB_size s k hk] at this
        have e : (⟨#[34]⟩ : ByteArray).size = 1 := rfl
        omega
  have HT0 := Lib.hid (Two.start h)
  have HSK := Lib.hid (fun (w1 : World) (h1 : Cur w1 g s k) => Skip_no ⟨#[34]⟩ g s k w1 h1 hk hsm hp)
  have HA := Lib.hid (fun (w1 : World) (h1 : Cur w1 g s k) => At_any g s k w1 h1)
  have H2 : Hid (thrownCode 2 = 2) := Lib.hid rfl
  clear hq h hp
  go_enter Tryz.func135, Tryz.ntmps135
  go_upto_region 2 with fail
  generalize hW : (w.alloc (.cells #[.pointer none, .slice none 0 0] 143)).alloc (.cells #[.pointer none, .slice none 0 0] 143) = W at *
  clear hW
  go_wp2_with fail
  refine (HSK.out _ HT0.out.cur).mono ?_
  rintro e w1 ⟨rfl, hm1⟩
  have HT1 := Lib.hid (HT0.out.moved hm1)
  clear hm1 HT0
  go_wp2_with (first | (go_at_call 147; refine (HA.out _ HT1.out.cur).mono ?_; rintro e w' ⟨rfl, rfl⟩) | (go_at_call 146; (with_reducible refine (Check_no _ _ _).mono ?_); rintro e w' ⟨rfl, rfl⟩; rw [H2.out]))
  obtain ⟨vo, vg, h1, _, _, _, _, _, h7, _⟩ := HT1.out
  exact ⟨rfl, rfl, h1, h7⟩

/-- What is handed on of what is taken. -/
def takenB (s : ByteArray) (k : Nat) (x : Bool) : ByteArray := if x then ⟨(readL (dropB s (k + 1))).1.toArray⟩ else s.extract k (k + 1 + (readL (dropB s (k + 1))).2)

theorem Collect_gives (g : Nat) (s : ByteArray) (k : Nat) (x : Bool) (w : World) (h : Cur w g s k) (hk : k < s.size) (hq : s[k] = 34) (hs : s.size ≤ 100000) :
    Calls Tryz.prog 208 #[.pointer (some ⟨g, 0, none⟩), .bool x] w fun e w' => e = .returned (.string (takenB s k x)) ∧ Moved g s (k + 1 + (readL (dropB s (k + 1))).2) w w' := by
  have C := Lib.hid (collect_gives g s k w h hk hq hs)
  unfold takenB
  generalize readL (dropB s (k + 1)) = R at *
  clear h
  cases x
  all_goals
    go_enter Tryz.func208, Tryz.ntmps208
    go_wp2_with fail
    refine C.out.mono ?_
    rintro e w1 ⟨rfl, hm⟩
    have HM := Lib.hid hm
    clear hm
    go_wp2_with fail
    go_ret
    exact ⟨by first | rfl | simp, HM.out⟩

theorem Collect_throws (g : Nat) (s : ByteArray) (k : Nat) (x : Bool) (w : World) (h : Cur w g s k) (hk : k ≤ s.size) (hq : ∀ (hlt : k < s.size), s[k] ≠ 34) (hs : s.size ≤ 100000) :
    Calls Tryz.prog 208 #[.pointer (some ⟨g, 0, none⟩), .bool x] w fun e w' => e = .panicked [{ v := faultV k 2, recovered := false }] ∧ Moved g s k w w' := by
  have C := Lib.hid (collect_throws g s k w h hk hq hs)
  clear h
  go_enter Tryz.func208, Tryz.ntmps208
  go_wp2_with (go_at_call 135; refine C.out.mono ?_; rintro e w1 ⟨rfl, hm⟩)
  exact ⟨rfl, rfl, hm⟩

end Go.Proofs.YtcbhkcdphbffpaaGreatDoor

namespace Go.Proofs.YtcbhkcdphbffpaaGreatDoor
open Go.RowKit
set_option linter.unusedSimpArgs false
set_option linter.unusedVariables false

/-- One byte as a text. -/
theorem one_text {P : Program} (src dst e : TypeId) (b : UInt8) (hs : P.underlying src = some (.slice e)) (he : P.underlying e = some (.int .u8)) (hd : P.underlying dst = some .string) (w : World) :
    (convert src dst (.slice (some ⟨w.heap.size, 0, none⟩) 1 1)).run P (w.alloc (.cells #[.int .u8 (b.toNat : Int)] e)) = .ok (.string ⟨#[b]⟩) (w.alloc (.cells #[.int .u8 (b.toNat : Int)] e)) := by
  refine run_convert_bytes_back (w.alloc (.cells #[.int .u8 (b.toNat : Int)] e)) src dst e ⟨w.heap.size, 0, none⟩ 1 [b] hs he hd ?_
  intro j hj
  simp at hj
  subst hj
  simp [go_sem, Addr.add]

set_option maxHeartbeats 2000000 in
set_option maxRecDepth 20000 in
theorem rRead_any (s : ByteArray) (w : World) (hk : 0 < s.size) (hs : s.size ≤ 100000) :
    Calls Tryz.prog 116 #[.string s] w fun e w' => e = .returned (.tuple #[.string ⟨(readL (dropB s 1)).1.toArray⟩, .int .i64 ((1 + (readL (dropB s 1)).2 : Nat) : Int)]) ∧ Below w.heap.size w w' := by
  generalize hR : readL (dropB s 1) = R at *
  have HR := Lib.hid hR
  clear hR
  go_enter Tryz.func116, Tryz.ntmps116
  go_wp2_with fail
  go_loopw [4, 5] (fun t i wr => ∃ (m : Nat) (T : List UInt8), 1 ≤ m ∧ m ≤ s.size ∧ T ++ (readL (dropB s m)).1 = R.1 ∧ m + (readL (dropB s m)).2 = 1 + R.2 ∧ T.length ≤ m ∧ i = .int .i64 m ∧ t = .string ⟨T.toArray⟩ ∧ Below w.heap.size w wr) (fun _ i _ => s.size - (intOf i).toNat)
  case atStart => exact ⟨1, [], Nat.le_refl _, hk, by rw [HR.out]; rfl, by rw [HR.out], by simp, rfl, rfl, Below.refl _ _⟩
  case round =>
    obtain ⟨m, T, hm1, hms, h1, h2, hTm, rfl, rfl, hb⟩ := hrel
    have H1 := Lib.hid h1
    have H2 := Lib.hid h2
    have HB := Lib.hid hb
    have hTs : (⟨T.toArray⟩ : ByteArray).size ≤ 100000 := by rw [Lib.size_eq]; simp; omega
    clear h1 h2 hb
    by_cases hlt : m < s.size
    · have hidx := fun w => index_byte 9 Tryz.underlying9 s m hlt w
      have HX := Lib.hid (dropB_cons s m hlt)
      have hconv := fun (b : UInt8) => one_text (P := Tryz.prog) 98 9 5 b Tryz.underlying98 Tryz.underlying5 Tryz.underlying9 wr
      have hsnoc : ∀ b : UInt8, (⟨T.toArray⟩ : ByteArray) ++ ⟨#[b]⟩ = ⟨(T ++ [b]).toArray⟩ := fun b => by
        apply ByteArray.ext
        rw [ByteArray.data_append]
        simp
      have HSN := Lib.hid hsnoc
      clear hsnoc
      by_cases h34 : s[m] = 34
      · have HE : Hid (T = R.1 ∧ m + 1 = 1 + R.2) := Lib.hid (by
          have a := H1.out
          have b := H2.out
          rw [HX.out, h34, readL_quote] at a b
          simp at a b
          exact ⟨a, by omega⟩)
        rw [h34] at hidx
        have e34 : ((34 : UInt8).toNat : Int) = 34 := rfl
        rw [e34] at hidx
        clear h34 hconv
        go_wp2
        go_ret2
        rw [← HE.out.1, ← HE.out.2]
        exact ⟨rfl, HB.out⟩
      · have hn34 : ((s[m].toNat : Int) == 34) = false := by
          rw [beq_eq_false_iff_ne]
          intro h
          apply h34
          exact UInt8.toNat_inj.1 (by have : (34 : UInt8).toNat = 34 := rfl; omega)
        by_cases h92 : s[m] = 92
        · by_cases hlt2 : m + 1 < s.size
          · have HX2 := Lib.hid (dropB_cons s (m + 1) hlt2)
            have hidx2 : ∀ w : World, (Instr.index 9 (.string s) (.int .i64 ((m : Int) + 1))).run Tryz.prog w = .ok (.int .u8 (s[m + 1].toNat : Int)) w := fun w => index_byte 9 Tryz.underlying9 s (m + 1) hlt2 w
            have HE : Hid ((T ++ [s[m + 1]]) ++ (readL (dropB s (m + 1 + 1))).1 = R.1 ∧ (m + 1 + 1) + (readL (dropB s (m + 1 + 1))).2 = 1 + R.2) := Lib.hid (by
              have a := H1.out
              have b := H2.out
              rw [HX.out, HX2.out, h92, readL_slash] at a b
              simp at a b ⊢
              exact ⟨a, by omega⟩)
            rw [h92] at hidx
            have e92 : ((92 : UInt8).toNat : Int) = 92 := rfl
            rw [e92] at hidx
            clear h92 h34 hn34
            have hcv := hconv s[m + 1]
            have hsz1 : (⟨#[s[m + 1]]⟩ : ByteArray).size = 1 := rfl
            have HS2 := Lib.hid (HSN.out s[m + 1])
            generalize s[m + 1] = c at *
            clear hconv
            generalize (⟨T.toArray⟩ : ByteArray) = tb at *
            generalize hcb : (⟨#[c]⟩ : ByteArray) = cb at *
            clear hcb
            go_wp2
            go_roundw
            case rel => exact ⟨m + 1 + 1, T ++ [c], by omega, by omega, HE.out.1, HE.out.2, by simp; omega, by go_num, by rw [HS2.out], HB.out.alloc HB.out.size _⟩
            case measure => simp [intOf]; omega
          · have hend : m + 1 = s.size := by omega
            have HE : Hid ((T ++ [92]) ++ (readL (dropB s (m + 1))).1 = R.1 ∧ (m + 1) + (readL (dropB s (m + 1))).2 = 1 + R.2) := Lib.hid (by
              have a := H1.out
              have b := H2.out
              rw [HX.out, h92, hend, dropB_end, readL_slash_end] at a b
              rw [hend, dropB_end]
              simp [readL] at a b ⊢
              exact ⟨a, by omega⟩)
            have hnlt : decide ((m : Int) + 1 < (s.size : Int)) = false := decide_eq_false (by omega)
            rw [h92] at hidx
            have e92 : ((92 : UInt8).toNat : Int) = 92 := rfl
            rw [e92] at hidx
            clear h92 h34 hn34 hlt2 hend
            have hcv := hconv 92
            rw [e92] at hcv
            have hsz1 : (⟨#[92]⟩ : ByteArray).size = 1 := rfl
            have HS2 := Lib.hid (HSN.out 92)
            clear hconv e92
            generalize (⟨T.toArray⟩ : ByteArray) = tb at *
            generalize hcb : (⟨#[92]⟩ : ByteArray) = cb at *
            clear hcb
            go_wp2
            go_roundw
            case rel => exact ⟨m + 1, T ++ [92], by omega, by omega, HE.out.1, HE.out.2, by simp; omega, by go_num, by rw [HS2.out], HB.out.alloc HB.out.size _⟩
            case measure => simp [intOf]; omega
        · have HE : Hid ((T ++ [s[m]]) ++ (readL (dropB s (m + 1))).1 = R.1 ∧ (m + 1) + (readL (dropB s (m + 1))).2 = 1 + R.2) := Lib.hid (by
            have a := H1.out
            have b := H2.out
            rw [HX.out, readL_plain _ _ h34 h92] at a b
            simp at a b ⊢
            exact ⟨a, by omega⟩)
          have hn92 : ((s[m].toNat : Int) == 92) = false := by
            rw [beq_eq_false_iff_ne]
            intro h
            apply h92
            exact UInt8.toNat_inj.1 (by have : (92 : UInt8).toNat = 92 := rfl; omega)
          have hcv := hconv s[m]
          have hsz1 : (⟨#[s[m]]⟩ : ByteArray).size = 1 := rfl
          have HS2 := Lib.hid (HSN.out s[m])
          clear hconv h34 h92 HX
          generalize s[m] = c at *
          generalize (⟨T.toArray⟩ : ByteArray) = tb at *
          generalize hcb : (⟨#[c]⟩ : ByteArray) = cb at *
          clear hcb
          go_wp2
          go_roundw
          case rel => exact ⟨m + 1, T ++ [c], by omega, by omega, HE.out.1, HE.out.2, by simp; omega, by go_num, by rw [HS2.out], HB.out.alloc HB.out.size _⟩
          case measure => simp [intOf]; omega
    · obtain rfl : m = s.size := by omega
      have HE : Hid (T = R.1 ∧ s.size = 1 + R.2) := Lib.hid (by
        have a := H1.out
        have b := H2.out
        rw [dropB_end] at a b
        simp [readL] at a b
        exact ⟨a, b⟩)
      go_wp2
      go_ret2
      rw [← HE.out.1, ← HE.out.2]
      exact ⟨rfl, HB.out⟩

end Go.Proofs.YtcbhkcdphbffpaaGreatDoor

namespace Go.Proofs.YtcbhkcdphbffpaaGreatDoor
open Go.RowKit
set_option linter.unusedSimpArgs false
set_option linter.unusedVariables false

/-- A builder of the call's own. -/
def Bl (w : World) (b : Nat) (l : List UInt8) (wr : World) : Prop := ∃ v, BldAt wr w.heap.size b v l ∧ Below w.heap.size w wr

theorem Bl.start (w : World) : Bl w w.heap.size [] (w.alloc (.cells #[.pointer none, .slice none 0 0] 143)) := ⟨_, bld_new w _ (Nat.le_refl _), below_box _ _⟩

theorem blByte {w wr : World} {b : Nat} {l : List UInt8} (h : Bl w b l wr) (x : UInt8) (hl : l.length ≤ 10000000) :
    Calls Tryz.prog 165 #[.pointer (some ⟨b, 0, none⟩), .int .u8 (x.toNat : Int)] wr fun e w' => e = .returned .nilIface ∧ Bl w b (l ++ [x]) w' := by
  obtain ⟨v, h1, h2⟩ := h
  refine (WriteByte_any w.heap.size b v l x wr h1 hl h2.size).mono ?_
  rintro e w' ⟨rfl, v', hb, _, hk⟩
  exact ⟨rfl, v', hb, h2.trans (hk.below h1 h2.size)⟩

theorem blStr {w wr : World} {b : Nat} {l : List UInt8} (h : Bl w b l wr) (x : ByteArray) (hl : l.length ≤ 10000000) (hx : x.size ≤ 10000000) :
    Calls Tryz.prog 132 #[.pointer (some ⟨b, 0, none⟩), .string x] wr fun e w' => e = .returned (.tuple #[.int .i64 x.size, .nilIface]) ∧ Bl w b (l ++ x.data.toList) w' := by
  obtain ⟨v, h1, h2⟩ := h
  refine (WriteString_any w.heap.size b v l x wr h1 hl hx h2.size).mono ?_
  rintro e w' ⟨rfl, v', hb, _, hk⟩
  exact ⟨rfl, v', hb, h2.trans (hk.below h1 h2.size)⟩

theorem blString {w wr : World} {b : Nat} {l : List UInt8} (h : Bl w b l wr) :
    Calls Tryz.prog 137 #[.pointer (some ⟨b, 0, none⟩)] wr fun e w' => e = .returned (.string ⟨l.toArray⟩) ∧ Below w.heap.size w w' := by
  obtain ⟨v, h1, h2⟩ := h
  refine (String_any w.heap.size b v l wr h1).mono ?_
  rintro e w' ⟨rfl, hk⟩
  exact ⟨rfl, h2.trans (hk.below h1 h2.size)⟩

/-- A text with what must be behind a backslash there. -/
def escL (l : List UInt8) : List UInt8 := l.flatMap fun b => if b = 34 ∨ b = 92 then [92, b] else [b]

def serL (l : List UInt8) : List UInt8 := (34 :: escL l) ++ [34]

theorem escL_snoc (l : List UInt8) (b : UInt8) : escL (l ++ [b]) = escL l ++ (if b = 34 ∨ b = 92 then [92, b] else [b]) := by simp [escL]

theorem escL_length (l : List UInt8) : (escL l).length ≤ 2 * l.length := by
  induction l with
  | nil => simp [escL]
  | cons b l ih =>
    have e : escL (b :: l) = (if b = 34 ∨ b = 92 then [92, b] else [b]) ++ escL l := by simp only [escL, List.flatMap_cons]
    rw [e, List.length_append, List.length_cons]
    have : (if b = 34 ∨ b = 92 then [92, b] else [b]).length ≤ 2 := by split <;> simp
    omega

theorem take_snocB (s : ByteArray) (k : Nat) (h : k < s.size) : s.data.toList.take (k + 1) = s.data.toList.take k ++ [s[k]] := by
  rw [List.take_succ_eq_append_getElem (by rw [← Lib.size_eq]; exact h)]; rfl

theorem ne_int {b : UInt8} {n : Nat} (hn : n < 256) (h : b ≠ UInt8.ofNat n) : ((b.toNat : Int) == (n : Int)) = false := by
  rw [beq_eq_false_iff_ne]
  intro e
  apply h
  apply UInt8.toNat_inj.1
  rw [UInt8.toNat_ofNat']
  omega

end Go.Proofs.YtcbhkcdphbffpaaGreatDoor
