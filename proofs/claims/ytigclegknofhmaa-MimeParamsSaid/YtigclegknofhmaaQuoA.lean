/-
  Walks of package quoted: two texts that are collected while a cursor goes on.
-/
import Derived.Test.YtigclegknofhmaaQuoPlain
import Derived.Test.YtigclegknofhmaaBuild
import Derived.Deep.RegionWith
namespace Go.Proofs.Ytigclegknofhmaa
open Go.RowKit
set_option linter.unusedSimpArgs false
set_option linter.unusedVariables false

/-- A cursor in block g at place m; builder bo holds T, builder bg holds G; of what was in w but g nothing has turned. -/
def Two (w : World) (g : Nat) (s : ByteArray) (bo bg m : Nat) (T G : List UInt8) (wr : World) : Prop :=
  ∃ vo vg, Cur wr g s m ∧ BldAt wr w.heap.size bo vo T ∧ BldAt wr w.heap.size bg vg G ∧ (∀ k, vo.ownBlock = some k → vg.ownBlock ≠ some k ∧ k ≠ bg) ∧ (∀ k, vg.ownBlock = some k → vo.ownBlock ≠ some k ∧ k ≠ bo) ∧ bo ≠ bg ∧ But g w wr ∧ g < w.heap.size

theorem BldAt.but {w w' : World} {B b g : Nat} {v : Value} {l : List UInt8} (h : BldAt w B b v l) (hb : But g w w') (hg : g < B) : BldAt w' B b v l := by
  obtain ⟨p, hp, hh⟩ := h.head
  have hne : ∀ k, B ≤ k → k < w.heap.size → w'.heap[k]? = w.heap[k]? := fun k h1 h2 => hb.block k h2 (fun e => by injection e; omega)
  refine ⟨h.base, ⟨p, hp, (hne b h.base h.lt).trans hh⟩, ?_, h.apart, h.nil⟩
  obtain ⟨q1, q2⟩ := h.row
  refine ⟨q1, ?_⟩
  rcases q2 with q2 | ⟨g', cap', cur, q2, q3, q4, q5⟩
  · exact .inl q2
  · exact .inr ⟨g', cap', cur, q2, q3, (hne g' q3 (Array.getElem?_eq_some_iff.1 q4).1).trans q4, q5⟩

theorem Cur.kept {w w' : World} {B b g : Nat} {v : Value} {l : List UInt8} {s : ByteArray} {m : Nat} (h : Cur w g s m) (hb : BldAt w B b v l) (hk : KeptBut b v w w') (hg : g < B) : Cur w' g s m :=
  (hk.block g h.lt (by have := hb.base; omega) (fun e => by have := (hb.row.lt g e).1; omega)).trans h

theorem But.kept {w0 w w' : World} {b g : Nat} {v : Value} {l : List UInt8} (h : But g w0 w) (hb : BldAt w w0.heap.size b v l) (hk : KeptBut b v w w') : But g w0 w' :=
  ⟨hk.os.trans h.os, hk.tape.trans h.tape, hk.output.trans h.output, Nat.le_trans h.size hk.size, fun k h1 h2 => (hk.block k (Nat.lt_of_lt_of_le h1 h.size) (by have := hb.base; omega) (fun e => by have := (hb.row.lt k e).1; omega)).trans (h.block k h1 h2)⟩

theorem Two.start {w : World} {g : Nat} {s : ByteArray} {m : Nat} (h : Cur w g s m) :
    Two w g s w.heap.size (w.heap.size + 1) m [] [] ((w.alloc (.cells #[.pointer none, .slice none 0 0] 73)).alloc (.cells #[.pointer none, .slice none 0 0] 73)) := by
  have h2 := bld_new (w.alloc (.cells #[.pointer none, .slice none 0 0] 73)) w.heap.size (by simp)
  simp only [World.size_alloc] at h2
  exact ⟨_, _, (h.alloc _).alloc _, (bld_new w _ (Nat.le_refl _)).alloc _, h2, by simp [Value.ownBlock], by simp [Value.ownBlock], by omega, ((But.refl _ _).alloc _).alloc _, h.lt⟩

theorem Two.cur {w wr : World} {g bo bg m : Nat} {s : ByteArray} {T G : List UInt8} (h : Two w g s bo bg m T G wr) : Cur wr g s m := by
  obtain ⟨vo, vg, h1, _⟩ := h
  exact h1

theorem Two.moved {w wr w2 : World} {g bo bg m m2 : Nat} {s : ByteArray} {T G : List UInt8} (h : Two w g s bo bg m T G wr) (hm : Moved g s m2 wr w2) : Two w g s bo bg m2 T G w2 := by
  obtain ⟨vo, vg, h1, h2, h3, h4, h5, h6, h7, h8⟩ := h
  exact ⟨vo, vg, hm.1, h2.but hm.2 h8, h3.but hm.2 h8, h4, h5, h6, h7.trans hm.2, h8⟩

theorem Two.outWrote {w wr w2 : World} {g bo bg m : Nat} {s : ByteArray} {T G x : List UInt8} {vo vg : Value} (h1 : Cur wr g s m) (h2 : BldAt wr w.heap.size bo vo T) (h3 : BldAt wr w.heap.size bg vg G)
    (h4 : ∀ k, vo.ownBlock = some k → vg.ownBlock ≠ some k ∧ k ≠ bg) (h5 : ∀ k, vg.ownBlock = some k → vo.ownBlock ≠ some k ∧ k ≠ bo) (h6 : bo ≠ bg) (h7 : But g w wr) (h8 : g < w.heap.size)
    (hw : Wrote w.heap.size bo vo T x wr w2) : Two w g s bo bg m (T ++ x) G w2 := by
  obtain ⟨v', hb, hrow, hk⟩ := hw
  refine ⟨v', vg, h1.kept h2 hk h8, hb, h3.other h2 hk (Ne.symm h6) h5 (fun e => (h4 bg e).2 rfl), ?_, ?_, h6, h7.kept h2 hk, h8⟩
  · intro k hv
    rcases hrow k hv with h | h
    · exact h4 k h
    · refine ⟨fun e => ?_, ?_⟩
      · have := (h3.row.lt k e).2; omega
      · have := h3.lt; omega
  · intro k hv
    refine ⟨fun e => ?_, (h5 k hv).2⟩
    rcases hrow k e with h | h
    · exact (h5 k hv).1 h
    · have := (h3.row.lt k hv).2; omega

theorem Two.swap {w wr : World} {g bo bg m : Nat} {s : ByteArray} {T G : List UInt8} (h : Two w g s bo bg m T G wr) : Two w g s bg bo m G T wr := by
  obtain ⟨vo, vg, h1, h2, h3, h4, h5, h6, h7, h8⟩ := h
  exact ⟨vg, vo, h1, h3, h2, h5, h4, h6.symm, h7, h8⟩

theorem outByte {w wr : World} {g bo bg m : Nat} {s : ByteArray} {T G : List UInt8} (h : Two w g s bo bg m T G wr) (x : UInt8) (hT : T.length ≤ 10000000) :
    Calls Try.prog 43 #[.pointer (some ⟨bo, 0, none⟩), .int .u8 (x.toNat : Int)] wr fun e w' => e = .returned .nilIface ∧ Two w g s bo bg m (T ++ [x]) G w' := by
  obtain ⟨vo, vg, h1, h2, h3, h4, h5, h6, h7, h8⟩ := h
  refine (WriteByte_any w.heap.size bo vo T x wr h2 hT h7.size).mono ?_
  rintro e w' ⟨rfl, hw⟩
  exact ⟨rfl, Two.outWrote h1 h2 h3 h4 h5 h6 h7 h8 hw⟩

theorem outStr {w wr : World} {g bo bg m : Nat} {s : ByteArray} {T G : List UInt8} (h : Two w g s bo bg m T G wr) (x : ByteArray) (hT : T.length ≤ 10000000) (hx : x.size ≤ 10000000) :
    Calls Try.prog 69 #[.pointer (some ⟨bo, 0, none⟩), .string x] wr fun e w' => e = .returned (.tuple #[.int .i64 x.size, .nilIface]) ∧ Two w g s bo bg m (T ++ x.data.toList) G w' := by
  obtain ⟨vo, vg, h1, h2, h3, h4, h5, h6, h7, h8⟩ := h
  refine (WriteString_any w.heap.size bo vo T x wr h2 hT hx h7.size).mono ?_
  rintro e w' ⟨rfl, hw⟩
  exact ⟨rfl, Two.outWrote h1 h2 h3 h4 h5 h6 h7 h8 hw⟩

theorem goneByte {w wr : World} {g bo bg m : Nat} {s : ByteArray} {T G : List UInt8} (h : Two w g s bo bg m T G wr) (x : UInt8) (hG : G.length ≤ 10000000) :
    Calls Try.prog 43 #[.pointer (some ⟨bg, 0, none⟩), .int .u8 (x.toNat : Int)] wr fun e w' => e = .returned .nilIface ∧ Two w g s bo bg m T (G ++ [x]) w' :=
  (outByte h.swap x hG).mono fun e w' ⟨he, ht⟩ => ⟨he, ht.swap⟩

theorem goneStr {w wr : World} {g bo bg m : Nat} {s : ByteArray} {T G : List UInt8} (h : Two w g s bo bg m T G wr) (x : ByteArray) (hG : G.length ≤ 10000000) (hx : x.size ≤ 10000000) :
    Calls Try.prog 69 #[.pointer (some ⟨bg, 0, none⟩), .string x] wr fun e w' => e = .returned (.tuple #[.int .i64 x.size, .nilIface]) ∧ Two w g s bo bg m T (G ++ x.data.toList) w' :=
  (outStr h.swap x hG hx).mono fun e w' ⟨he, ht⟩ => ⟨he, ht.swap⟩

/-- One of the two is read, the other one stands. -/
def One (w : World) (g : Nat) (s : ByteArray) (bg m : Nat) (G : List UInt8) (wr : World) : Prop :=
  ∃ vg, Cur wr g s m ∧ BldAt wr w.heap.size bg vg G ∧ But g w wr ∧ g < w.heap.size

theorem outString {w wr : World} {g bo bg m : Nat} {s : ByteArray} {T G : List UInt8} (h : Two w g s bo bg m T G wr) :
    Calls Try.prog 44 #[.pointer (some ⟨bo, 0, none⟩)] wr fun e w' => e = .returned (.string ⟨T.toArray⟩) ∧ One w g s bg m G w' := by
  obtain ⟨vo, vg, h1, h2, h3, h4, h5, h6, h7, h8⟩ := h
  refine (String_any w.heap.size bo vo T wr h2).mono ?_
  rintro e w' ⟨rfl, hk⟩
  exact ⟨rfl, vg, h1.kept h2 hk h8, h3.other h2 hk (Ne.symm h6) h5 (fun e => (h4 bg e).2 rfl), h7.kept h2 hk, h8⟩

theorem oneString {w wr : World} {g bg m : Nat} {s : ByteArray} {G : List UInt8} (h : One w g s bg m G wr) :
    Calls Try.prog 44 #[.pointer (some ⟨bg, 0, none⟩)] wr fun e w' => e = .returned (.string ⟨G.toArray⟩) ∧ Moved g s m w w' := by
  obtain ⟨vg, h1, h3, h7, h8⟩ := h
  refine (String_any w.heap.size bg vg G wr h3).mono ?_
  rintro e w' ⟨rfl, hk⟩
  exact ⟨rfl, h1.kept h3 hk h8, h7.kept h3 hk⟩

end Go.Proofs.Ytigclegknofhmaa
