/-
  Lemmas of this claim, part 9: the texts MimeL, MimeM, CombC, MimeOpen, HeadG, HeadA, HeadB, SniA, one behind the other.
-/
import Derived.Test.YtdkkbibdjagjjaaM8
import Derived.Deep.CutBlock
import Derived.Deep.Slices
import Derived.Lib.SmallJoins
import Derived.Deep.RegionWith
import Derived.Deep.RegionHeld3
import Derived.Deep.Onto

namespace Go.Proofs.Ytdkkbibdjagjjaa
open Go.RowKit
set_option linter.unusedSimpArgs false
set_option linter.unusedVariables false

/-- The world in which the document's answer reads a text's parameters. -/
structure ParV (W w : World) (R F : Nat) (T U : ByteArray) (ps : Pars) (v : Value) (wr : World) : Prop where
  bF : wr.heap[F]? = some (.cells #[.string T, .string U, v] 33 (0, 0))
  row : wr.ownsRow W.heap.size 52 2 v ps.length (rowQ ps)
  below : Below w.heap.size w wr
  bR : wr.heap[R]? = some (.cells #[.string ⟨#[]⟩, .string ⟨#[]⟩, .slice none 0 0] 33 (0, 0))
  size : W.heap.size ≤ wr.heap.size
  FW : F < W.heap.size
  RW : R < W.heap.size
  ne3 : R ≠ F
  wF : w.heap.size ≤ F
  wR : w.heap.size ≤ R
  wW : w.heap.size ≤ W.heap.size

theorem ParV.belowOn {W w wr w2 : World} {R F : Nat} {T U : ByteArray} {ps : Pars} {v : Value} (h : ParV W w R F T U ps v wr) (hb : Below wr.heap.size wr w2) : ParV W w R F T U ps v w2 :=
  { h with
    bF := (hb.block _ (by have := h.FW; have := h.size; omega)).trans h.bF
    row := row_stands h.row (fun j _ hj => hb.block j hj)
    below := h.below.trans (hb.mono h.below.size)
    bR := (hb.block _ (by have := h.RW; have := h.size; omega)).trans h.bR
    size := Nat.le_trans h.size hb.size }

theorem ParV.sub {W w wr : World} {R F : Nat} {T U : ByteArray} {ps : Pars} {v : Value} (h : ParV W w R F T U ps v wr) (U2 : ByteArray) : ParV W w R F T U2 ps v (wr.setCell ⟨F, 1, none⟩ (.string U2)) := by
  have hF := h.bF
  have hR := h.bR
  have hne3 : F ≠ R := Ne.symm h.ne3
  exact { h with
    bF := by simp [World.setCell, Array.getElem?_modify, hF]
    row := row_stands h.row (fun j hj _ => by
      have h1 := (h.row.lt j hj).1
      have h2 := h.FW
      have h3 : F ≠ j := by omega
      simp [World.setCell, Array.getElem?_modify, h3])
    below := h.below.setCell h.wF _
    bR := by simp [World.setCell, Array.getElem?_modify, hne3, hR]
    size := by simpa using h.size }

theorem ParV.more {W w wr w2 : World} {R F : Nat} {T U : ByteArray} {ps : Pars} {v v2 : Value} {p : List UInt8 × List UInt8} (h : ParV W w R F T U ps v wr) (hg : wr.grownBy w2 v.ownBlock)
    (ho : w2.ownsRow W.heap.size 52 2 v2 (ps.length + 1) (rowQ ps ++ parCells p)) : ParV W w R F T U (ps ++ [p]) v2 (w2.setCell ⟨F, 2, none⟩ v2) := by
  have hv : ∀ i, i < W.heap.size → some i ≠ v.ownBlock := fun i hi e => by have := (h.row.lt i e.symm).1; omega
  have hF2 := (hg.block F (by have := h.FW; have := h.size; omega) (hv _ h.FW)).trans h.bF
  have hR2 := (hg.block R (by have := h.RW; have := h.size; omega) (hv _ h.RW)).trans h.bR
  have hne : v2.ownBlock ≠ some F := fun e => by have := (ho.lt F e).1; have := h.FW; omega
  obtain ⟨x1, x2⟩ := row_laid hF2 ho hne
  have hne3 : F ≠ R := Ne.symm h.ne3
  exact { h with
    bF := x1
    row := by rw [rowQ_snoc, List.length_append]; exact x2
    below := (h.below.grown hg h.below.size (fun j hj => by have := (h.row.lt j hj).1; have := h.wW; omega)).setCell h.wF _
    bR := by simp [World.setCell, Array.getElem?_modify, hne3, hR2]
    size := by simpa using Nat.le_trans h.size hg.size }

theorem bt_take (p : UInt8 → Bool) (l : List UInt8) : (bt l).extract 0 (spanN p l) = bt (l.takeWhile p) := by
  have := ext_bt (bt l) 0 (spanN p l)
  rw [Nat.zero_add, dropB_zero, bt_list, span_take] at this
  exact this

theorem bt_drop (n : Nat) (l : List UInt8) : (bt l).extract n (bt l).size = bt (l.drop n) := by
  apply bytes_ext
  rw [bt_list, ByteArray.data_extract, Array.toList_extract, List.extract_eq_take_drop, bt_list]
  rw [List.take_of_length_le (by rw [List.length_drop, bt_size]; omega)]

theorem bt_rest (p : UInt8 → Bool) (l : List UInt8) : (bt l).extract (spanN p l) (bt l).size = bt (l.dropWhile p) := by
  rw [bt_drop, span_drop]

theorem drop_head (p : UInt8 → Bool) (l : List UInt8) : l.dropWhile p = [] ∨ ∃ b r, l.dropWhile p = b :: r ∧ p b = false := by
  have hh := List.head?_dropWhile_not p l
  cases hx : l.dropWhile p with
  | nil => exact .inl rfl
  | cons b r =>
    rw [hx] at hh
    simp only [List.head?_cons] at hh
    exact .inr ⟨b, r, rfl, by simpa using hh⟩

theorem span_full (p : UInt8 → Bool) (l : List UInt8) : ((spanN p l : Int) == ((bt l).size : Int)) = (l.dropWhile p).isEmpty := by
  have h1 := span_drop p l
  have h2 : (l.drop (spanN p l)).length = (l.dropWhile p).length := by rw [h1]
  rw [List.length_drop] at h2
  have h3 := spanN_le p l
  rw [bt_size]
  cases hx : l.dropWhile p with
  | nil => rw [hx] at h2; simp at h2; simp; omega
  | cons b r => rw [hx] at h2; simp at h2 ⊢; omega

theorem semi_head (l : List UInt8) : l.dropWhile nsemi = [] ∨ ∃ r, l.dropWhile nsemi = 59 :: r := by
  rcases drop_head nsemi l with h | ⟨b, r, h, hb⟩
  · exact .inl h
  · refine .inr ⟨r, ?_⟩
    unfold nsemi at hb
    simp at hb
    rw [h, hb]

theorem valL_head (r : List UInt8) : (valL r).2.2 = [] ∨ ∃ t, (valL r).2.2 = 59 :: t := by
  unfold valL
  split
  · exact semi_head _
  · exact semi_head _

/-- What holds at the head of a round of the document's answer. -/
def RefL (W w : World) (R F : Nat) (T U : ByteArray) (Z : Pars) (q : Value) (wr : World) : Prop :=
  ∃ l ps v, q = .string (bt l) ∧ ParV W w R F T U ps v wr ∧ parsL ps l = Z ∧ (l = [] ∨ ∃ r, l = 59 :: r) ∧ ps.length + l.length ≤ 1100 ∧ SizesP ps

end Go.Proofs.Ytdkkbibdjagjjaa

namespace Go.Proofs.Ytdkkbibdjagjjaa
open Go.RowKit
set_option linter.unusedSimpArgs false
set_option linter.unusedVariables false

def livL : List UInt8 := [32, 84, 101, 120, 116, 47, 72, 84, 77, 76, 59, 67, 104, 97, 114, 115, 101, 116, 61, 34, 117, 116, 102, 45, 56, 34, 32]

def livM : MimeL := ⟨[116, 101, 120, 116], [104, 116, 109, 108], [([99, 104, 97, 114, 115, 101, 116], [117, 116, 102, 45, 56])]⟩

theorem liv_parse : parseR livL = (livM, 0) := by
  unfold parseR parseL
  dsimp only
  rw [show trimL isWhite livL = [84, 101, 120, 116, 47, 72, 84, 77, 76, 59, 67, 104, 97, 114, 115, 101, 116, 61, 34, 117, 116, 102, 45, 56, 34] from by decide +kernel]
  rw [show List.dropWhile nslash ([84, 101, 120, 116, 47, 72, 84, 77, 76, 59, 67, 104, 97, 114, 115, 101, 116, 61, 34, 117, 116, 102, 45, 56, 34] : List UInt8) = [47, 72, 84, 77, 76, 59, 67, 104, 97, 114, 115, 101, 116, 61, 34, 117, 116, 102, 45, 56, 34] from by decide +kernel]
  rw [show List.takeWhile nslash ([84, 101, 120, 116, 47, 72, 84, 77, 76, 59, 67, 104, 97, 114, 115, 101, 116, 61, 34, 117, 116, 102, 45, 56, 34] : List UInt8) = [84, 101, 120, 116] from by decide +kernel]
  rw [List.tail_cons]
  rw [show List.takeWhile nsemi ([72, 84, 77, 76, 59, 67, 104, 97, 114, 115, 101, 116, 61, 34, 117, 116, 102, 45, 56, 34] : List UInt8) = [72, 84, 77, 76] from by decide +kernel]
  rw [show List.dropWhile nsemi ([72, 84, 77, 76, 59, 67, 104, 97, 114, 115, 101, 116, 61, 34, 117, 116, 102, 45, 56, 34] : List UInt8) = [59, 67, 104, 97, 114, 115, 101, 116, 61, 34, 117, 116, 102, 45, 56, 34] from by decide +kernel]
  rw [parsL_semi]
  rw [show parmStep ([67, 104, 97, 114, 115, 101, 116, 61, 34, 117, 116, 102, 45, 56, 34] : List UInt8) = ([99, 104, 97, 114, 115, 101, 116], [117, 116, 102, 45, 56], true, []) from by decide +kernel]
  rw [show (trimEnd isWhite ([72, 84, 77, 76] : List UInt8)) = [72, 84, 77, 76] from by decide +kernel]
  rw [show addP [] (([99, 104, 97, 114, 115, 101, 116], [117, 116, 102, 45, 56], true, []) : List UInt8 × List UInt8 × Bool × List UInt8) = [([99, 104, 97, 114, 115, 101, 116], [117, 116, 102, 45, 56])] from by decide +kernel]
  rw [parsL_nil, if_neg (by decide +kernel)]
  rfl

end Go.Proofs.Ytdkkbibdjagjjaa

namespace Go.Proofs.Ytdkkbibdjagjjaa
open Go.RowKit
set_option linter.unusedSimpArgs false
set_option linter.unusedVariables false

/-- What comes is a row of texts, with room for them. -/
def GivesStrC (l : List ByteArray) (w : World) (e : Ending) (w' : World) : Prop :=
  ∃ A c, e = .returned (.slice A l.length c) ∧ StrsIn w' A l ∧ l.length ≤ c ∧ Below w.heap.size w w'

theorem strs_of_ownC {w : World} {B : Nat} {e : TypeId} {v : Value} {n : Nat} {l : List ByteArray} (h : w.ownsRow B e 1 v n (rowS l)) (hn : n = l.length) : ∃ A c, v = .slice A l.length c ∧ StrsIn w A l ∧ l.length ≤ c := by
  obtain ⟨A, c, hv, hA⟩ := strs_of_own h hn
  refine ⟨A, c, hv, hA, ?_⟩
  subst hn
  rcases h.2 with ⟨h1, h0⟩ | ⟨g, cap, cur, h1, hB, hg, hc, _⟩
  · omega
  · rw [hv] at h1
    injection h1 with _ _ e3
    omega

/-- Some texts, somewhat cut. -/
def fewS (m : Nat) (l : List ByteArray) : List ByteArray := (l.take m).map (fun s => cutB s 120)

theorem fewS_sizes (m : Nat) (l : List ByteArray) : (fewS m l).length ≤ m ∧ ∀ s ∈ fewS m l, s.size ≤ 120 := by
  unfold fewS
  constructor
  · rw [List.length_map, List.length_take]; omega
  · intro s hs
    obtain ⟨x, _, rfl⟩ := List.mem_map.1 hs
    rw [cutB_size]; omega

theorem fewS_snoc (l : List ByteArray) (n : Nat) (h : n < l.length) : rowS ((l.take (n + 1)).map (fun s => cutB s 120)) = rowS ((l.take n).map (fun s => cutB s 120)) ++ [.string (cutB l[n] 120)] := by
  rw [← List.take_append_getElem h, List.map_append, ← rowS_snoc]
  rfl

end Go.Proofs.Ytdkkbibdjagjjaa

namespace Go.Proofs.Ytdkkbibdjagjjaa
open Go.RowKit
set_option linter.unusedSimpArgs false
set_option linter.unusedVariables false

theorem choose_ltP {α : Type} [Inhabited α] {n : Nat} {p : Nat → α → Prop} (h : ∀ i, i < n → ∃ x, p i x) : ∃ f : Nat → α, ∀ i, i < n → p i (f i) := by
  classical
  exact ⟨fun i => if hi : i < n then (h i hi).choose else default, fun i hi => by simp only [hi, dif_pos]; exact (h i hi).choose_spec⟩

open Go.ChangeShapes Go.WideShapes Go.Deep in
/-- A slice of structs of two texts, opened. -/
theorem open_parsV {H : Type} {enc : TypeId × Value → H} {P : Program} {w : World} {base : Nat} {spare : Nat → Bool} {held : Bool} {t e ts : TypeId} {f0 f1 : Field} {v : Value} {n : Nat} {y : DataW H × List MemPlace}
    (ht : P.underlying t = some (.slice e)) (he : P.underlying e = some (.struct #[f0, f1])) (ce : P.cellsOf e = 2) (o0 : f0.offset = 0) (o1 : f1.offset = 1)
    (t0 : f0.type = ts) (t1 : f1.type = ts) (cs : P.cellsOf ts = 1) (hs : P.underlying ts = some .string)
    (h : DataW.trod enc P w base spare held n t [v] = some y) :
    ∃ A c ps, v = .slice A ps.length c ∧ ParsIn w w.heap.size A ps ∧ (∀ p ∈ ps, (bt p.1).size ≤ maxLen ∧ (bt p.2).size ≤ maxLen) ∧ ps.length ≤ maxLen := by
  rcases open_slice ht h with ⟨h0, _⟩ | ⟨a, len, cap, m, n', D, Pl, hc, hb, hl, hm, hmm, _, hx⟩
  · simp at h0
    subst h0
    exact ⟨none, 0, [], rfl, .inl rfl, fun p hp => by simp at hp, Nat.zero_le _⟩
  simp at hc
  subst hc
  have hlm : len ≤ m := by rw [hmm]; split <;> omega
  have each : ∀ i, i < len → ∃ p : List UInt8 × List UInt8, w.cell? (a.add (i * 2)) = some (.string (bt p.1)) ∧ w.cell? (a.add (i * 2 + 1)) = some (.string (bt p.2)) ∧ (bt p.1).size ≤ maxLen ∧ (bt p.2).size ≤ maxLen := by
    intro i hi
    obtain ⟨cs', h1, h2⟩ := hx i (by omega)
    rw [ce] at h1
    obtain ⟨_, hlen, hcell⟩ := World.cells?_some h1
    obtain ⟨xs, k, hk, hxy, _, hxl, hf⟩ := DataW.trod_struct he h2
    match xs, hxl, cs', hlen with
    | [y0, y1], _, [v0, v1], _ =>
      have g0 := hf 0 f0 rfl
      have g1 := hf 1 f1 rfl
      simp [o0, o1, t0, t1, cs] at g0 g1
      have e0 := hcell 0 (by omega)
      have e1 := hcell 1 (by omega)
      rw [add_add] at e0 e1
      obtain ⟨b0, q0, _, s0⟩ := DataW.trod_string hs g0
      obtain ⟨b1, q1, _, s1⟩ := DataW.trod_string hs g1
      simp at q0 q1
      subst q0 q1
      exact ⟨(b0.data.toList, b1.data.toList), by rw [list_bt]; simpa using e0, by rw [list_bt]; simpa using e1, s0, s1⟩
  obtain ⟨f, hfs⟩ := choose_ltP each
  refine ⟨some a, cap, (List.range len).map f, by simp, ?_, ?_, by simp; omega⟩
  · by_cases hz : len = 0
    · subst hz; exact .inl rfl
    right
    have h0 := (hfs 0 (by omega)).1
    rw [Nat.zero_mul, show a.add 0 = a from rfl] at h0
    obtain ⟨b, off, sp⟩ := a
    have hsp : sp = none := by
      cases sp with
      | none => rfl
      | some k =>
        simp only [World.cell?] at h0
        split at h0 <;> simp at h0
    subst hsp
    refine ⟨b, off, rfl, lt_of_cell h0, fun i hi => ?_⟩
    have hi' : i < len := by simpa using hi
    obtain ⟨h1, h2, _⟩ := hfs i hi'
    simp only [List.getElem_map, List.getElem_range]
    have hadd : ∀ k, (⟨b, off, none⟩ : Addr).add k = ⟨b, off + k, none⟩ := fun k => by
      unfold Addr.add
      split
      · rename_i hk; subst hk; rfl
      · rfl
    rw [hadd] at h1 h2
    exact ⟨h1, h2⟩
  · intro p hp
    simp only [List.mem_map, List.mem_range] at hp
    obtain ⟨i, hi, rfl⟩ := hp
    exact (hfs i hi).2.2

end Go.Proofs.Ytdkkbibdjagjjaa

namespace Go.Proofs.Ytdkkbibdjagjjaa
end Go.Proofs.Ytdkkbibdjagjjaa

namespace Go.Proofs.Ytdkkbibdjagjjaa
open Go.RowKit
set_option linter.unusedSimpArgs false
set_option linter.unusedVariables false

theorem infoHead : (Try.prog.info? 42).map (fun i => (i.zero, i.size, i.bytes)) = some (some (.agg #[.string ByteArray.empty, .string ByteArray.empty]), 2, 32) := by kernel_rfl

def fewH (p : List UInt8 × List UInt8) : List UInt8 × List UInt8 := (p.1.take 30, p.2.take 100)

/-- Headers, somewhat cut. -/
def fewHs (n : Nat) (l : Pars) : Pars := (l.take n).map fewH

theorem fewH_snoc (l : Pars) (n : Nat) (h : n < l.length) : rowQ ((l.take (n + 1)).map fewH) = rowQ ((l.take n).map fewH) ++ parCells (fewH l[n]) := by
  rw [← rowQ_snoc]
  congr 1
  rw [← List.take_append_getElem h, List.map_append]
  rfl

theorem fewHs_idem (n : Nat) (l : Pars) : fewHs n (fewHs n l) = fewHs n l := by
  unfold fewHs
  rw [← List.map_take, List.take_take, Nat.min_self, List.map_map]
  apply List.map_congr_left
  intro p _
  simp [fewH, List.take_take]

theorem fewHs_sizes (n : Nat) (l : Pars) : (fewHs n l).length ≤ n ∧ ∀ p ∈ fewHs n l, p.1.length ≤ 30 ∧ p.2.length ≤ 100 := by
  unfold fewHs
  refine ⟨by simp; omega, ?_⟩
  intro p hp
  simp only [List.mem_map] at hp
  obtain ⟨q, _, rfl⟩ := hp
  simp [fewH]
  omega

set_option maxHeartbeats 4000000 in
set_option maxRecDepth 20000 in
theorem Few22_any (l : Pars) (m : Nat) (A : Option Addr) (c : Nat) (w : World) (hm : m ≤ 1000) (hlm : l.length ≤ maxLen) (hps : ∀ p ∈ l, (bt p.1).size ≤ maxLen ∧ (bt p.2).size ≤ maxLen) (hA : ParsIn w w.heap.size A l) :
    Calls Try.prog 6 #[.slice A l.length c, .int .i64 m] w fun e w' => ∃ A2 c2, e = .returned (.slice A2 (fewHs m l).length c2) ∧ ParsAt w' w'.heap.size A2 (fewHs m l) ∧ Below w.heap.size w w' := by
  obtain ⟨i0, hi, hz0, hz1, hz2⟩ := info_parts infoHead
  have HI := Lib.hid hi; have HZ0 := Lib.hid hz0; have HZ1 := Lib.hid hz1; have HZ2 := Lib.hid hz2
  clear hi hz0 hz1 hz2
  have HPS := Lib.hid hps
  have HA := Lib.hid hA
  clear hA hps
  go_enter Try.func6, Try.ntmps6
  go_wp2
  go_loopw [5, 6] (fun v i wr => ∃ n : Nat, n ≤ l.length ∧ n ≤ m ∧ i = .int .i64 n ∧ wr.ownsRow w.heap.size 42 2 v n (rowQ ((l.take n).map fewH)) ∧ Below w.heap.size w wr) (fun _ i _ => m - (intOf i).toNat)
  case atStart => exact ⟨0, Nat.zero_le _, Nat.zero_le _, rfl, by simpa [rowQ] using World.ownsRow_lit (base := w.heap.size) (e := 42) (size := 2) w #[] 0 (Nat.le_refl _) (Nat.zero_le _) rfl, (Below.refl _ _).alloc (Nat.le_refl _) _⟩
  case round =>
    obtain ⟨n, hn, hnm, rfl, hrow, hb⟩ := hrel
    by_cases hlt : n < l.length ∧ n < m
    · obtain ⟨hlt1, hlt2⟩ := hlt
      rcases HA.out.below hb with hnil | ⟨g, off, rfl, hg, hcs⟩
      · rw [hnil] at hlt1; simp at hlt1
      obtain ⟨c0, c1⟩ := hcs n hlt1
      have hz := hb.size
      have HB := Lib.hid hb
      have HROW := Lib.hid hrow
      have hsz := HPS.out l[n] (List.getElem_mem _)
      have C30 : Hid (∀ w, Calls Try.prog 14 #[.string (bt l[n].1), .int .i64 30] w fun e w' => e = .returned (.string (bt (l[n].1.take 30))) ∧ w = w') := Lib.hid (fun w => by have := Cut_any (bt l[n].1) 30 w hsz.1 (by decide); rw [cut_bt] at this; exact this)
      have C100 : Hid (∀ w, Calls Try.prog 14 #[.string (bt l[n].2), .int .i64 100] w fun e w' => e = .returned (.string (bt (l[n].2.take 100))) ∧ w = w') := Lib.hid (fun w => by have := Cut_any (bt l[n].2) 100 w hsz.2 (by decide); rw [cut_bt] at this; exact this)
      clear hcs hb hrow hsz
      have K0 : Hid ((wr.alloc (.cells #[.string (bt (l[n].1.take 30)), .string (bt (l[n].2.take 100))] 42)).drew.ownsRow w.heap.size 42 2 u5 n (rowQ ((l.take n).map fewH))) := Lib.hid (HROW.out.alloc _)
      have K1 : Hid (∀ (j : Nat) (u : Value), (parCells (fewH l[n]))[j]? = some u → (wr.alloc (.cells #[.string (bt (l[n].1.take 30)), .string (bt (l[n].2.take 100))] 42)).drew.cell? ((⟨wr.heap.size, 0, none⟩ : Addr).add j) = some u) := Lib.hid (par_cells_new wr (fewH l[n]) 42)
      have K2 := Lib.hid (show ∀ u ∈ parCells (fewH l[n]), u.oneCell' = true from by intro u hu; simp [parCells] at hu; rcases hu with rfl | rfl <;> rfl)
      have K3 := Lib.hid (show n + 1 ≤ maxLen from by unfold maxLen; omega)
      have K4 := Lib.hid (show (n + 1) * 32 ≤ 140737488355328 from by omega)
      have K5 : Hid (w.heap.size ≤ (wr.alloc (.cells #[.string (bt (l[n].1.take 30)), .string (bt (l[n].2.take 100))] 42)).drew.heap.size) := Lib.hid (by simp; omega)
      have K6 : Hid ((wr.alloc (.cells #[.string (bt (l[n].1.take 30)), .string (bt (l[n].2.take 100))] 42)).drew.heap.size = wr.heap.size + 1) := Lib.hid (by simp)
      go_upto_region 5 with fail
      refine wp_region_N 17 (fun w' => w'.cell? ⟨g, off + n * 2, none⟩ = some (.string (bt l[n].1)) ∧ w'.cell? ⟨g, off + n * 2 + 1, none⟩ = some (.string (bt l[n].2))) (by kernel_rfl) (by kernel_rfl) ⟨c0, c1⟩ ?_
      (refine NJ.take (i := 0) (v := ?_) rfl rfl (by kernel_rfl) (by kernel_rfl) (by kernel_rfl) (by kernel_rfl) (fun _ _ _ h => h) (Or.inl ⟨by rfl, ?_⟩) ?_; rotate_left; (focus (intro wS hSw; (try dsimp only at hSw); go_simp; first | done | with_reducible rfl)); (try simp only [Act.put, List.getElem_toArray, List.getElem_cons_zero, List.getElem_cons_succ, List.setIfInBounds_toArray, List.set_cons_zero, List.set_cons_succ]))
      (refine NJ.take (i := 1) (v := ?_) rfl rfl (by kernel_rfl) (by kernel_rfl) (by kernel_rfl) (by kernel_rfl) (fun _ _ _ h => h) (Or.inl ⟨by rfl, ?_⟩) ?_; rotate_left; (focus (intro wS hSw; (try dsimp only at hSw); go_simp; first | done | with_reducible rfl)); (try simp only [Act.put, List.getElem_toArray, List.getElem_cons_zero, List.getElem_cons_succ, List.setIfInBounds_toArray, List.set_cons_zero, List.set_cons_succ]))
      (refine NJ.take (i := 2) (v := ?_) rfl rfl (by kernel_rfl) (by kernel_rfl) (by kernel_rfl) (by kernel_rfl) (fun _ _ _ h => h) (Or.inl ⟨by rfl, ?_⟩) ?_; rotate_left; (focus (intro wS hSw; (try dsimp only at hSw); go_simp; first | done | with_reducible rfl)); (try simp only [Act.put, List.getElem_toArray, List.getElem_cons_zero, List.getElem_cons_succ, List.setIfInBounds_toArray, List.set_cons_zero, List.set_cons_succ]))
      (refine NJ.take (i := 3) (v := ?_) rfl rfl (by kernel_rfl) (by kernel_rfl) (by kernel_rfl) (by kernel_rfl) (fun _ _ _ h => h) (Or.inl ⟨by rfl, ?_⟩) ?_; rotate_left; (focus (intro wS hSw; (try dsimp only at hSw); go_simp; first | done | with_reducible rfl)); (try simp only [Act.put, List.getElem_toArray, List.getElem_cons_zero, List.getElem_cons_succ, List.setIfInBounds_toArray, List.set_cons_zero, List.set_cons_succ]))
      (refine NJ.take (i := 4) (v := ?_) rfl rfl (by kernel_rfl) (by kernel_rfl) (by kernel_rfl) (by kernel_rfl) (fun _ _ _ h => h) (Or.inl ⟨by rfl, ?_⟩) ?_; rotate_left; (focus (intro wS hSw; (try dsimp only at hSw); go_simp; first | done | with_reducible rfl)); (try simp only [Act.put, List.getElem_toArray, List.getElem_cons_zero, List.getElem_cons_succ, List.setIfInBounds_toArray, List.set_cons_zero, List.set_cons_succ]))
      (refine NJ.take (i := 5) (v := ?_) rfl rfl (by kernel_rfl) (by kernel_rfl) (by kernel_rfl) (by kernel_rfl) (fun _ _ _ h => h) (Or.inl ⟨by rfl, ?_⟩) ?_; rotate_left; (focus (intro wS hSw; (try dsimp only at hSw); go_simp; first | done | with_reducible rfl)); (try simp only [Act.put, List.getElem_toArray, List.getElem_cons_zero, List.getElem_cons_succ, List.setIfInBounds_toArray, List.set_cons_zero, List.set_cons_succ]))
      (refine NJ.take (i := 7) (v := ?_) rfl rfl (by kernel_rfl) (by kernel_rfl) (by kernel_rfl) (by kernel_rfl) (fun _ _ _ h => h) (Or.inl ⟨by rfl, ?_⟩) ?_; rotate_left; (focus (intro wS hSw; (try dsimp only at hSw); go_simp; first | done | with_reducible rfl)); (try simp only [Act.put, List.getElem_toArray, List.getElem_cons_zero, List.getElem_cons_succ, List.setIfInBounds_toArray, List.set_cons_zero, List.set_cons_succ]))
      (refine NJ.take (i := 8) (v := ?_) rfl rfl (by kernel_rfl) (by kernel_rfl) (by kernel_rfl) (by kernel_rfl) (fun _ _ _ h => h) (Or.inl ⟨by rfl, ?_⟩) ?_; rotate_left; (focus (intro wS hSw; (try dsimp only at hSw); go_simp; first | done | with_reducible rfl)); (try simp only [Act.put, List.getElem_toArray, List.getElem_cons_zero, List.getElem_cons_succ, List.setIfInBounds_toArray, List.set_cons_zero, List.set_cons_succ]))
      (refine NJ.take (i := 9) (v := ?_) rfl rfl (by kernel_rfl) (by kernel_rfl) (by kernel_rfl) (by kernel_rfl) (fun _ _ _ h => h) (Or.inl ⟨by rfl, ?_⟩) ?_; rotate_left; (focus (intro wS hSw; (try dsimp only at hSw); go_simp; first | done | with_reducible rfl)); (try simp only [Act.put, List.getElem_toArray, List.getElem_cons_zero, List.getElem_cons_succ, List.setIfInBounds_toArray, List.set_cons_zero, List.set_cons_succ]))
      (refine NJ.take (i := 10) (v := ?_) rfl rfl (by kernel_rfl) (by kernel_rfl) (by kernel_rfl) (by kernel_rfl) (fun _ _ _ h => h) (Or.inl ⟨by rfl, ?_⟩) ?_; rotate_left; (focus (intro wS hSw; (try dsimp only at hSw); go_simp; first | done | with_reducible rfl)); (try simp only [Act.put, List.getElem_toArray, List.getElem_cons_zero, List.getElem_cons_succ, List.setIfInBounds_toArray, List.set_cons_zero, List.set_cons_succ]))
      (refine NJ.take (i := 11) (v := ?_) rfl rfl (by kernel_rfl) (by kernel_rfl) (by kernel_rfl) (by kernel_rfl) (fun _ _ _ h => h) (Or.inl ⟨by rfl, ?_⟩) ?_; rotate_left; (focus (intro wS hSw; (try dsimp only at hSw); go_simp; first | done | with_reducible rfl)); (try simp only [Act.put, List.getElem_toArray, List.getElem_cons_zero, List.getElem_cons_succ, List.setIfInBounds_toArray, List.set_cons_zero, List.set_cons_succ]))
      (refine NJ.step (i := 6) rfl rfl (by kernel_rfl) (fun hSat K hK => ?_); go_simp; (go_at_call 14; (with_reducible refine (C30.out _).mono ?_); rintro e w' ⟨rfl, rfl⟩); go_wp2_with fail; refine hK.out _ _ ?_ ?_; (focus (exact hSat)); clear hK hSat K; (try simp only [Act.put, List.getElem_toArray, List.getElem_cons_zero, List.getElem_cons_succ, List.setIfInBounds_toArray, List.set_cons_zero, List.set_cons_succ]))
      (refine NJ.step (i := 12) rfl rfl (by kernel_rfl) (fun hSat K hK => ?_); go_simp; (go_at_call 14; (with_reducible refine (C100.out _).mono ?_); rintro e w' ⟨rfl, rfl⟩); go_wp2_with fail; refine hK.out _ _ ?_ ?_; (focus (exact hSat)); clear hK hSat K; (try simp only [Act.put, List.getElem_toArray, List.getElem_cons_zero, List.getElem_cons_succ, List.setIfInBounds_toArray, List.set_cons_zero, List.set_cons_succ]))
      (refine NJ.take (i := 13) (v := ?_) rfl rfl (by kernel_rfl) (by kernel_rfl) (by kernel_rfl) (by kernel_rfl) (fun _ _ _ h => h) (Or.inl ⟨by rfl, ?_⟩) ?_; rotate_left; (focus (intro wS hSw; (try dsimp only at hSw); go_simp; first | done | with_reducible rfl)); (try simp only [Act.put, List.getElem_toArray, List.getElem_cons_zero, List.getElem_cons_succ, List.setIfInBounds_toArray, List.set_cons_zero, List.set_cons_succ]))
      (refine NJ.step (i := 14) rfl rfl (by kernel_rfl) (fun hSat K hK => ?_); go_simp; refine hK.out _ _ ?_ ?_; (focus (first | exact hSat | go_keep)); clear hK hSat K; (try simp only [Act.put, List.getElem_toArray, List.getElem_cons_zero, List.getElem_cons_succ, List.setIfInBounds_toArray, List.set_cons_zero, List.set_cons_succ]))
      refine NJ.step (i := 15) rfl rfl (by kernel_rfl) (fun hSat K hK => ?_)
      refine step_append_lies _ rfl (.tmp 19) (.tmp 33) 22 rfl w.heap.size 42 i0 (.agg #[.string ByteArray.empty, .string ByteArray.empty]) 2 32 Try.underlying22 HI.out HZ0.out HZ1.out HZ2.out rfl (by decide) u5 n (rowQ ((l.take n).map fewH)) rfl K0.out ⟨wr.heap.size, 0, none⟩ 1 1 (parCells (fewH l[n])) rfl rfl K1.out K2.out (by decide) K3.out K4.out K5.out (wr.heap.size + 1) K6.out ?_
      intro g3 c3 w2 hown hgrow hat hlt3
      have HO := Lib.hid hown
      have HBW2 := Lib.hid (((HB.out.alloc hz (.cells #[.string (bt (l[n].1.take 30)), .string (bt (l[n].2.take 100))] 42)).drew).grown hgrow (by rw [K6.out]; omega) (fun j hj => (HROW.out.lt j hj).1))
      have t3 : w2.cell? ⟨g, off + n * 2, none⟩ = some (.string (bt l[n].1)) := (cell_below HBW2.out hg).trans ((cell_below HB.out hg).symm.trans c0)
      have t4 : w2.cell? ⟨g, off + n * 2 + 1, none⟩ = some (.string (bt l[n].2)) := (cell_below HBW2.out hg).trans ((cell_below HB.out hg).symm.trans c1)
      clear hown hgrow
      refine hK.out _ _ ⟨t3, t4⟩ ?_
      clear hK hSat K
      (try simp only [Act.put, List.getElem_toArray, List.getElem_cons_zero, List.getElem_cons_succ, List.setIfInBounds_toArray, List.set_cons_zero, List.set_cons_succ])
      (refine NJ.take (i := 16) (v := ?_) rfl rfl (by kernel_rfl) (by kernel_rfl) (by kernel_rfl) (by kernel_rfl) (fun _ _ _ h => h) (Or.inl ⟨by rfl, ?_⟩) ?_; rotate_left; (focus (intro wS hSw; (try dsimp only at hSw); go_simp; first | done | with_reducible rfl)); (try simp only [Act.put, List.getElem_toArray, List.getElem_cons_zero, List.getElem_cons_succ, List.setIfInBounds_toArray, List.set_cons_zero, List.set_cons_succ]))
      refine NJ.done (by kernel_rfl) (fun hSat => ?_)
      clear hSat t3 t4 c0 c1
      go_wp2_with fail
      go_roundw
      case rel => exact ⟨n + 1, by omega, by omega, by go_num, by rw [fewH_snoc l n hlt1]; exact HO.out, HBW2.out⟩
      case measure => simp [intOf]; omega
    · have ht : l.take n = l.take m := by
        by_cases h6 : n = m
        · rw [h6]
        · have : n = l.length := by omega
          rw [List.take_of_length_le (by omega), List.take_of_length_le (by omega)]
      rw [ht] at hrow
      have hlen : n = ((l.take m).map fewH).length := by
        rw [← ht, List.length_map, List.length_take]; omega
      obtain ⟨A2, c2, hv, hA2⟩ := pars_of_own hrow hlen
      have HL := Lib.hid hlen
      have HP := Lib.hid hA2
      have HB := Lib.hid hb
      rw [← hlen] at hv
      subst hv
      clear hrow hlen hA2 hb ht
      by_cases h1 : n < l.length
      · have h2 : ¬ n < m := fun h2 => hlt ⟨h1, h2⟩
        go_wp2_with fail
        go_ret
        exact ⟨A2, c2, by unfold fewHs; rw [← HL.out]; rfl, HP.out, HB.out⟩
      · go_wp2_with fail
        go_ret
        exact ⟨A2, c2, by unfold fewHs; rw [← HL.out]; rfl, HP.out, HB.out⟩

end Go.Proofs.Ytdkkbibdjagjjaa

namespace Go.Proofs.Ytdkkbibdjagjjaa
open Go.RowKit
set_option linter.unusedSimpArgs false
set_option linter.unusedVariables false

/-- A header has a name. -/
def isName (name : ByteArray) (p : List UInt8 × List UInt8) : Bool := lowerL p.1 == lowerL name.data.toList

/-- The values of a name. -/
def getL (name : ByteArray) (l : Pars) : List ByteArray := (l.filter (isName name)).map (fun p => bt p.2)

theorem getL_snoc (name : ByteArray) (l : Pars) (k : Nat) (h : k < l.length) : getL name (l.take (k + 1)) = getL name (l.take k) ++ (if isName name l[k] = true then [bt l[k].2] else []) := by
  unfold getL
  rw [← List.take_append_getElem h, List.filter_append, List.map_append]
  congr 1
  by_cases hn : isName name l[k] = true
  · rw [List.filter_cons, if_pos hn, if_pos hn]; rfl
  · rw [List.filter_cons, if_neg hn, if_neg hn]; rfl

theorem getL_len (name : ByteArray) (l : Pars) : (getL name l).length ≤ l.length := by
  unfold getL
  rw [List.length_map]
  exact List.length_filter_le _ _

theorem entersNamed1 : Enters 95 := fun args w => MuLone.run_callFunc_enter Try.func95 (by kernel_rfl) rfl args w

theorem named1_any (p : List UInt8 × List UInt8) (name : ByteArray) (b : Nat) (w : World) (h1 : p.1.length ≤ 1000) (h2 : name.size ≤ 1000) (c0 : w.cell? ⟨b, 0, none⟩ = some (.string name)) :
    Calls Try.prog 95 #[.agg #[.string (bt p.1), .string (bt p.2)], .pointer (some ⟨b, 0, none⟩)] w fun e w' => e = .returned (.bool (isName name p)) ∧ Below w.heap.size w w' := by
  have HS := Lib.hid (fun w => Same_any (bt p.1) name w (by rw [bt_size]; unfold maxLen; omega) (by unfold maxLen; omega))
  rw [bt_list] at HS
  have hb : b < w.heap.size := lt_of_cell c0
  have hne : w.heap.size ≠ b := by omega
  unfold isName
  generalize (lowerL p.1 == lowerL name.data.toList) = q at *
  go_enter Try.func95, Try.ntmps95
  go_wp2_with (go_at_call 39; refine Calls.mono (HS.out _) ?_; rintro e w' ⟨rfl, hd⟩)
  go_ret
  exact ⟨rfl, (below_box w _).trans (hd.below _)⟩

theorem named_any (name : ByteArray) (w : World) :
    Calls Try.prog 71 #[.string name] w fun e w' => e = .returned (.func (.func 95) #[] #[.pointer (some ⟨w.heap.size, 0, none⟩)]) ∧ w.alloc (.cells #[.string name] 9) = w' := by
  have hmf : ∀ (fn : Fn) (first cap : Array Value) (w : World), (Instr.makeFunc fn first cap).run Try.prog w = .ok (.func fn first cap) w := fun _ _ _ _ => rfl
  go_enter Try.func71, Try.ntmps71
  go_wp2_with fail
  go_ret
  exact ⟨rfl, rfl⟩

set_option maxHeartbeats 4000000 in
set_option maxRecDepth 20000 in
theorem get_any (name : ByteArray) (l : Pars) (A : Option Addr) (c : Nat) (w : World) (hl : l.length ≤ 1000) (hps : ∀ p ∈ l, p.1.length ≤ 1000) (hn : name.size ≤ 1000) (hA : ParsIn w w.heap.size A l) :
    Calls Try.prog 48 #[.string name, .slice A l.length c] w fun e w' => ∃ A2 c2, e = .returned (.slice A2 (getL name l).length c2) ∧ StrsIn w' A2 (getL name l) ∧ Below w.heap.size w w' ∧ (getL name l).length ≤ c2 := by
  obtain ⟨i0, hi, hz0, hz1, hz2⟩ := info_parts infoStrT
  have HI := Lib.hid hi; have HZ0 := Lib.hid hz0; have HZ1 := Lib.hid hz1; have HZ2 := Lib.hid hz2
  clear hi hz0 hz1 hz2
  have hcf := entersNamed1
  unfold Enters at hcf
  have HPS := Lib.hid hps
  have HBW := Lib.hid (below_box w (.cells #[.string name] 9))
  have HA := Lib.hid ((hA.below HBW.out).more HBW.out.size)
  have cn : (w.alloc (.cells #[.string name] 9)).cell? ⟨w.heap.size, 0, none⟩ = some (.string name) := by simp [go_sem]
  have HCN := Lib.hid cn
  have hzw : w.heap.size < (w.alloc (.cells #[.string name] 9)).heap.size := by simp
  clear hA hps cn
  go_enter Try.func48, Try.ntmps48
  go_wp2_with (go_at_call 71; refine Calls.mono (named_any _ _) ?_; rintro e w' ⟨rfl, rfl⟩)
  generalize w.alloc (.cells #[.string name] 9) = W at *
  go_loopw [5, 13] (fun v i wr => ∃ k : Nat, k ≤ l.length ∧ i = .int .i64 k ∧ wr.ownsRow W.heap.size 9 1 v (getL name (l.take k)).length (rowS (getL name (l.take k))) ∧ Below W.heap.size W wr) (fun _ i _ => l.length - (intOf i).toNat)
  case atStart => exact ⟨0, Nat.zero_le _, rfl, by simpa [getL, rowS] using World.ownsRow_nil W W.heap.size 9 1, Below.refl _ _⟩
  case round =>
    obtain ⟨k, hk, rfl, hrow, hb⟩ := hrel
    by_cases hlt : k < l.length
    · rcases HA.out.below hb with hnil | ⟨g, off, rfl, hg, hcs⟩
      · rw [hnil] at hlt; simp at hlt
      obtain ⟨c0, c1⟩ := hcs k hlt
      have hz := hb.size
      have HB := Lib.hid hb
      have HROW := Lib.hid hrow
      have hsn := Lib.hid (getL_snoc name l k hlt)
      have hlen := getL_len name (l.take k)
      rw [List.length_take] at hlen
      have HBX := Lib.hid (below_box wr (.cells #[.string (bt l[k].1), .string (bt l[k].2)] 42))
      have hcn2 : (wr.alloc (.cells #[.string (bt l[k].1), .string (bt l[k].2)] 42)).cell? ⟨w.heap.size, 0, none⟩ = some (.string name) := (cell_below HBX.out (by omega)).trans ((cell_below HB.out hzw).trans HCN.out)
      have HN1 := Lib.hid (named1_any l[k] name w.heap.size _ (HPS.out l[k] (List.getElem_mem _)) hn hcn2)
      have hbx : (wr.alloc (.cells #[.string (bt l[k].1), .string (bt l[k].2)] 42)).heap[wr.heap.size]? = some (.cells #[.string (bt l[k].1), .string (bt l[k].2)] 42 (0, 0)) := heap_alloc_new wr _
      clear hcs hb hrow hcn2
      go_upto_region 6 with fail
      have hzx : wr.heap.size < (wr.alloc (.cells #[.string (bt l[k].1), .string (bt l[k].2)] 42)).heap.size := by simp
      have HROW1 := Lib.hid (HROW.out.alloc (.cells #[.string (bt l[k].1), .string (bt l[k].2)] 42))
      generalize wr.alloc (.cells #[.string (bt l[k].1), .string (bt l[k].2)] 42) = W1 at *
      have x0 := (Lib.cell_of_heap hbx (j := 0))
      have x1 := (Lib.cell_of_heap hbx (j := 1))
      simp at x0 x1
      go_wp2_with fail
      refine HN1.out.mono ?_
      rintro e w2 ⟨rfl, hb2⟩
      have HB2 := Lib.hid ((HB.out.trans (HBX.out.mono hz)).trans (hb2.mono (by have := HBX.out.size; omega)))
      have HROW2 := Lib.hid (row_stands HROW1.out (fun j _ hj => hb2.block j hj))
      have y1 := (cell_below hb2 hzx).trans x1
      have hz2 := HB2.out.size
      clear hb2 x0 x1 hbx HN1 HROW1 HBX HCN
      cases hin : isName name l[k]
      · have HSN : Hid (getL name (l.take (k + 1)) = getL name (l.take k)) := Lib.hid (by rw [hsn.out, if_neg (by rw [hin]; simp), List.append_nil])
        clear hsn hin
        go_wp2_with fail
        go_roundw
        case rel => exact ⟨k + 1, by omega, by go_num, by rw [HSN.out]; exact HROW2.out, HB2.out⟩
        case measure => simp [intOf]; omega
      · have HSN : Hid (getL name (l.take (k + 1)) = getL name (l.take k) ++ [bt l[k].2]) := Lib.hid (by rw [hsn.out, if_pos hin])
        have k0 := Lib.hid (HROW2.out.alloc (.cells #[.string (bt l[k].2)] 9))
        have k1 : Hid (∀ (j : Nat) (u : Value), ([.string (bt l[k].2)] : List Value)[j]? = some u → (w2.alloc (.cells #[.string (bt l[k].2)] 9)).cell? ((⟨w2.heap.size, 0, none⟩ : Addr).add j) = some u) := Lib.hid (cell_one_new _ _ _)
        have k2 := Lib.hid (show ∀ u ∈ ([.string (bt l[k].2)] : List Value), u.oneCell' = true from by intro u hu; simp at hu; subst hu; rfl)
        have k3 := Lib.hid (show (getL name (l.take k)).length + 1 ≤ maxLen from by unfold maxLen; omega)
        have k4 := Lib.hid (show ((getL name (l.take k)).length + 1) * 16 ≤ 140737488355328 from by omega)
        have k5 : Hid (W.heap.size ≤ (w2.alloc (.cells #[.string (bt l[k].2)] 9)).heap.size) := Lib.hid (by simp; omega)
        clear hsn hin
        go_wp2_with (at_builtin; refine wpList_append_lies _ rfl (.tmp 20) (.tmp 23) 25 rfl W.heap.size 9 i0 (.string ByteArray.empty) 1 16 Try.underlying25 HI.out HZ0.out HZ1.out HZ2.out rfl (by decide) _ _ _ rfl k0.out ⟨w2.heap.size, 0, none⟩ 1 1 _ rfl rfl k1.out k2.out (by decide) k3.out k4.out k5.out _ rfl ?_; intro g3 c3 w3 hown hgrow hat hlt3; have HO := Lib.hid hown; have HB3 := Lib.hid ((HB2.out.alloc hz2 (.cells #[.string (bt l[k].2)] 9)).grown hgrow (by simp; omega) (fun j hj => (HROW2.out.lt j hj).1)); clear hown hgrow hat hlt3)
        go_roundw
        case rel => exact ⟨k + 1, by omega, by go_num, by rw [HSN.out, rowS_snoc, List.length_append]; exact HO.out, HB3.out⟩
        case measure => simp [intOf]; omega
    · obtain rfl : k = l.length := by omega
      rw [List.take_of_length_le (Nat.le_refl _)] at hrow
      obtain ⟨A2, c2, hv, hA2, hc2⟩ := strs_of_ownC hrow rfl
      have HP := Lib.hid (And.intro hA2 hc2)
      have HB := Lib.hid hb
      clear hrow hA2 hb hc2
      subst hv
      go_wp2_with fail
      go_ret
      exact ⟨A2, c2, rfl, HP.out.1, HBW.out.trans (HB.out.mono (by omega)), HP.out.2⟩

theorem Get_any (name : ByteArray) (l : Pars) (A : Option Addr) (c : Nat) (w : World) (hl : l.length ≤ 1000) (hps : ∀ p ∈ l, p.1.length ≤ 1000) (hn : name.size ≤ 1000) (hA : ParsIn w w.heap.size A l) :
    Calls Try.prog 47 #[.string name, .slice A l.length c] w fun e w' => ∃ A2 c2, e = .returned (.slice A2 (getL name l).length c2) ∧ StrsIn w' A2 (getL name l) ∧ Below w.heap.size w w' ∧ (getL name l).length ≤ c2 := by
  have HG := Lib.hid (get_any name l A c w hl hps hn hA)
  clear hl hps hn hA
  go_enter Try.func47, Try.ntmps47
  go_wp2_with fail
  refine HG.out.mono ?_
  rintro e w2 ⟨A2, c2, rfl, h1, h2, h3⟩
  have H := Lib.hid (And.intro h1 (And.intro h2 h3))
  clear h1 h2 h3
  go_wp2_with fail
  go_ret
  exact ⟨A2, c2, rfl, H.out.1, H.out.2.1, H.out.2.2⟩

theorem lowerB_eq (a b : ByteArray) : ((lowerB a).toList == (lowerB b).toList) = (lowerL a.data.toList == lowerL b.data.toList) := by
  rw [Lib.toList_data, Lib.toList_data, lowerB_data, lowerB_data]

theorem rIs22_any (p : List UInt8 × List UInt8) (name : ByteArray) (w : World) (h1 : p.1.length ≤ 1000) (h2 : name.size ≤ 1000) :
    Calls Try.prog 19 #[.agg #[.string (bt p.1), .string (bt p.2)], .string name] w fun e w' => e = .returned (.bool (isName name p)) ∧ Below w.heap.size w w' := by
  have HL := Lib.hid (fun w => rLower_any (bt p.1) w (by rw [bt_size]; unfold maxLen; omega) (by rw [bt_size]; omega))
  have HM := Lib.hid (fun w => rLower_any name w (by unfold maxLen; omega) (by omega))
  have hq := lowerB_eq (bt p.1) name
  rw [bt_list] at hq
  unfold isName
  generalize (lowerL p.1 == lowerL name.data.toList) = q at *
  generalize lowerB (bt p.1) = X at *
  generalize lowerB name = Y at *
  go_enter Try.func19, Try.ntmps19
  go_wp2_with fail
  refine (HL.out _).mono ?_
  rintro e w2 ⟨rfl, hb2⟩
  go_wp2_with fail
  refine (HM.out _).mono ?_
  rintro e w3 ⟨rfl, hb3⟩
  go_wp2_with fail
  go_ret
  exact ⟨rfl, ((below_box w _).trans (hb2.mono (by simp))).trans (hb3.mono (by have := hb2.size; simp at this; omega))⟩

set_option maxHeartbeats 4000000 in
set_option maxRecDepth 20000 in
theorem rGet22_any (name : ByteArray) (l : Pars) (A : Option Addr) (c : Nat) (w : World) (hl : l.length ≤ 1000) (hps : ∀ p ∈ l, p.1.length ≤ 1000) (hn : name.size ≤ 1000) (hA : ParsIn w w.heap.size A l) :
    Calls Try.prog 23 #[.string name, .slice A l.length c] w fun e w' => ∃ A2 c2, e = .returned (.slice A2 (getL name l).length c2) ∧ StrsIn w' A2 (getL name l) ∧ Below w.heap.size w w' := by
  obtain ⟨i0, hi, hz0, hz1, hz2⟩ := info_parts infoStrT
  have HI := Lib.hid hi; have HZ0 := Lib.hid hz0; have HZ1 := Lib.hid hz1; have HZ2 := Lib.hid hz2
  clear hi hz0 hz1 hz2
  have HPS := Lib.hid hps
  have HA := Lib.hid hA
  clear hA hps
  go_enter Try.func23, Try.ntmps23
  go_wp2
  go_loopw [5, 6] (fun v i wr => ∃ k : Nat, k ≤ l.length ∧ i = .int .i64 k ∧ wr.ownsRow w.heap.size 9 1 v (getL name (l.take k)).length (rowS (getL name (l.take k))) ∧ Below w.heap.size w wr) (fun _ i _ => l.length - (intOf i).toNat)
  case atStart => exact ⟨0, Nat.zero_le _, rfl, by simpa [getL, rowS] using World.ownsRow_lit (base := w.heap.size) (e := 9) (size := 1) w #[] 0 (Nat.le_refl _) (Nat.zero_le _) rfl, (Below.refl _ _).alloc (Nat.le_refl _) _⟩
  case round =>
    obtain ⟨k, hk, rfl, hrow, hb⟩ := hrel
    by_cases hlt : k < l.length
    · rcases HA.out.below hb with hnil | ⟨g, off, rfl, hg, hcs⟩
      · rw [hnil] at hlt; simp at hlt
      obtain ⟨c0, c1⟩ := hcs k hlt
      have hz := hb.size
      have HB := Lib.hid hb
      have HROW := Lib.hid hrow
      have hsn := Lib.hid (getL_snoc name l k hlt)
      have hlen := getL_len name (l.take k)
      rw [List.length_take] at hlen
      have HN1 := Lib.hid (rIs22_any l[k] name wr (HPS.out l[k] (List.getElem_mem _)) hn)
      clear hcs hb hrow
      go_wp2_with fail
      refine HN1.out.mono ?_
      rintro e w2 ⟨rfl, hb2⟩
      have HB2 := Lib.hid (HB.out.trans (hb2.mono hz))
      have HROW2 := Lib.hid (row_stands HROW.out (fun j _ hj => hb2.block j hj))
      have d1 := (cell_below hb2 (Nat.lt_of_lt_of_le hg hz)).trans c1
      have hz2 := HB2.out.size
      clear hb2 c0 c1 HN1
      cases hin : isName name l[k]
      · have HSN : Hid (getL name (l.take (k + 1)) = getL name (l.take k)) := Lib.hid (by rw [hsn.out, if_neg (by rw [hin]; simp), List.append_nil])
        clear hsn hin
        go_wp2_with fail
        go_roundw
        case rel => exact ⟨k + 1, by omega, by go_num, by rw [HSN.out]; exact HROW2.out, HB2.out⟩
        case measure => simp [intOf]; omega
      · have HSN : Hid (getL name (l.take (k + 1)) = getL name (l.take k) ++ [bt l[k].2]) := Lib.hid (by rw [hsn.out, if_pos hin])
        have k0 := Lib.hid (HROW2.out.alloc (.cells #[.string (bt l[k].2)] 9))
        have k1 : Hid (∀ (j : Nat) (u : Value), ([.string (bt l[k].2)] : List Value)[j]? = some u → (w2.alloc (.cells #[.string (bt l[k].2)] 9)).cell? ((⟨w2.heap.size, 0, none⟩ : Addr).add j) = some u) := Lib.hid (cell_one_new _ _ _)
        have k2 := Lib.hid (show ∀ u ∈ ([.string (bt l[k].2)] : List Value), u.oneCell' = true from by intro u hu; simp at hu; subst hu; rfl)
        have k3 := Lib.hid (show (getL name (l.take k)).length + 1 ≤ maxLen from by unfold maxLen; omega)
        have k4 := Lib.hid (show ((getL name (l.take k)).length + 1) * 16 ≤ 140737488355328 from by omega)
        have k5 : Hid (w.heap.size ≤ (w2.alloc (.cells #[.string (bt l[k].2)] 9)).heap.size) := Lib.hid (by simp; omega)
        clear hsn hin
        go_wp2_with (at_builtin; refine wpList_append_lies _ rfl (.tmp 20) (.tmp 26) 25 rfl w.heap.size 9 i0 (.string ByteArray.empty) 1 16 Try.underlying25 HI.out HZ0.out HZ1.out HZ2.out rfl (by decide) _ _ _ rfl k0.out ⟨w2.heap.size, 0, none⟩ 1 1 _ rfl rfl k1.out k2.out (by decide) k3.out k4.out k5.out _ rfl ?_; intro g3 c3 w3 hown hgrow hat hlt3; have HO := Lib.hid hown; have HB3 := Lib.hid ((HB2.out.alloc hz2 (.cells #[.string (bt l[k].2)] 9)).grown hgrow (by simp; omega) (fun j hj => (HROW2.out.lt j hj).1)); clear hown hgrow hat hlt3)
        go_roundw
        case rel => exact ⟨k + 1, by omega, by go_num, by rw [HSN.out, rowS_snoc, List.length_append]; exact HO.out, HB3.out⟩
        case measure => simp [intOf]; omega
    · obtain rfl : k = l.length := by omega
      rw [List.take_of_length_le (Nat.le_refl _)] at hrow
      obtain ⟨A2, c2, hv, hA2⟩ := strs_of_own hrow rfl
      have HP := Lib.hid hA2
      have HB := Lib.hid hb
      clear hrow hA2 hb
      subst hv
      go_wp2_with fail
      go_ret
      exact ⟨A2, c2, rfl, HP.out, HB.out⟩

end Go.Proofs.Ytdkkbibdjagjjaa

namespace Go.Proofs.Ytdkkbibdjagjjaa
open Go.RowKit
set_option linter.unusedSimpArgs false
set_option linter.unusedVariables false

def optName : ByteArray := ⟨#[88, 45, 67, 111, 110, 116, 101, 110, 116, 45, 84, 121, 112, 101, 45, 79, 112, 116, 105, 111, 110, 115]⟩
def optSmall : ByteArray := ⟨#[120, 45, 99, 111, 110, 116, 101, 110, 116, 45, 116, 121, 112, 101, 45, 111, 112, 116, 105, 111, 110, 115]⟩
def sniffT : ByteArray := ⟨#[110, 111, 115, 110, 105, 102, 102]⟩

theorem getL_opt (l : Pars) : getL optName l = getL optSmall l := by
  unfold getL isName
  rw [show lowerL optName.data.toList = lowerL optSmall.data.toList from by decide +kernel]

/-- What is said of sniffing. -/
def sniL (l : Pars) : List ByteArray := valuesL (getL optName l)

def isSniff (v : ByteArray) : Bool := lowerL v.data.toList == lowerL sniffT.data.toList

/-- Nothing may be sniffed. -/
def noSniff (l : Pars) : Bool := match sniL l with
  | [] => false
  | v :: _ => isSniff v

/-- Headers that are few and not long. -/
structure FewP (l : Pars) : Prop where
  n : l.length ≤ 10
  p : ∀ p ∈ l, p.1.length ≤ 1000 ∧ p.2.length ≤ 100

theorem FewP.get {l : Pars} (h : FewP l) (name : ByteArray) : (getL name l).length ≤ 10 ∧ ∀ s ∈ getL name l, s.size ≤ 100 := by
  refine ⟨Nat.le_trans (getL_len name l) h.n, fun s hs => ?_⟩
  unfold getL at hs
  obtain ⟨p, hp, rfl⟩ := List.mem_map.1 hs
  rw [bt_size]
  exact (h.p p (List.mem_filter.1 hp).1).2

theorem fewHs_few (l : Pars) : FewP (fewHs 10 l) := by
  obtain ⟨h1, h2⟩ := fewHs_sizes 10 l
  exact ⟨h1, fun p hp => ⟨Nat.le_trans (h2 p hp).1 (by omega), (h2 p hp).2⟩⟩

theorem Combined_none (name : ByteArray) (l : Pars) (A : Option Addr) (c : Nat) (w : World) (hl : FewP l) (hn : name.size ≤ 1000) (hA : ParsIn w w.heap.size A l) (h0 : getL name l = []) :
    Calls Try.prog 35 #[.string name, .slice A l.length c] w fun e w' => e = .returned (.tuple #[.string ⟨#[]⟩, .bool false]) ∧ Below w.heap.size w w' := by
  have HG := Lib.hid (get_any name l A c w (Nat.le_trans hl.n (by omega)) (fun p hp => (hl.p p hp).1) hn hA)
  rw [h0] at HG
  clear hl hA h0
  go_enter Try.func35, Try.ntmps35
  go_wp2_with fail
  refine HG.out.mono ?_
  rintro e w2 ⟨A2, c2, rfl, h1, h2, h3⟩
  have H := Lib.hid h2
  clear h1 h2 h3
  go_wp2_with fail
  go_ret2
  exact ⟨rfl, H.out⟩

theorem Combined_some (name : ByteArray) (l : Pars) (A : Option Addr) (c : Nat) (w : World) (hl : FewP l) (hn : name.size ≤ 1000) (hA : ParsIn w w.heap.size A l) (h0 : getL name l ≠ []) :
    Calls Try.prog 35 #[.string name, .slice A l.length c] w fun e w' => e = .returned (.tuple #[.string (bt (joinL (getL name l))), .bool true]) ∧ Below w.heap.size w w' := by
  have HG := Lib.hid (get_any name l A c w (Nat.le_trans hl.n (by omega)) (fun p hp => (hl.p p hp).1) hn hA)
  obtain ⟨g1, g2⟩ := hl.get name
  have h0i : ((getL name l).length : Int) ≠ 0 := fun h => h0 (List.eq_nil_of_length_eq_zero (by omega))
  have h0b : (((getL name l).length : Int) == 0) = false := beq_eq_false_iff_ne.2 h0i
  have HJ := Lib.hid (fun (A2 : Option Addr) (c2 : Nat) (w2 : World) (h1 : StrsIn w2 A2 (getL name l)) (h3 : (getL name l).length ≤ c2) => CJoin_any (getL name l) A2 c2 w2 h1 h3 (by omega) (fun s hs => Nat.le_trans (g2 s hs) (by omega)))
  generalize bt (joinL (getL name l)) = J at *
  generalize getL name l = v at *
  clear hl hA h0 g1 g2 h0i
  go_enter Try.func35, Try.ntmps35
  go_wp2_with fail
  refine HG.out.mono ?_
  rintro e w2 ⟨A2, c2, rfl, h1, h2, h3⟩
  have H := Lib.hid h2
  have HJ2 := Lib.hid (HJ.out A2 c2 w2 h1 h3)
  clear h1 h2 h3 HJ
  go_wp2_with fail
  refine HJ2.out.mono ?_
  rintro e w3 ⟨rfl, hb3⟩
  have HB := Lib.hid (H.out.trans (hb3.mono H.out.size))
  clear hb3
  go_wp2_with fail
  go_ret2
  exact ⟨rfl, HB.out⟩

theorem sni_room {l : Pars} (h : FewP l) : (bt (joinL (getL optName l))).size ≤ 100000 := by
  obtain ⟨g1, g2⟩ := h.get optName
  rw [bt_size]
  have h1 := join_len (getL optName l) 100 g2
  have h3 := Nat.mul_le_mul_right (100 + 2) g1
  omega

theorem sni_some {l : Pars} (h : getL optName l ≠ []) : sniL l = splitB (bt (joinL (getL optName l))) := by
  unfold sniL valuesL
  rw [if_neg h]

theorem sni_none {l : Pars} (h : getL optName l = []) : sniL l = [] := by
  unfold sniL valuesL
  rw [if_pos h]

theorem svalues_any (l : Pars) (A : Option Addr) (c : Nat) (w : World) (hl : FewP l) (hA : ParsIn w w.heap.size A l) :
    Calls Try.prog 22 #[.slice A l.length c] w fun e w' => GivesStrs (sniL l) w e w' := by
  by_cases h0 : getL optName l = []
  · rw [sni_none h0]
    have HC := Lib.hid (Combined_none optName l A c w hl (by decide) hA h0)
    unfold optName at HC
    clear hA h0 hl
    go_enter Try.func22, Try.ntmps22
    go_wp2_with fail
    refine HC.out.mono ?_
    rintro e w2 ⟨rfl, hb⟩
    go_wp2_with fail
    go_ret
    exact ⟨none, 0, rfl, .inl rfl, hb⟩
  · rw [sni_some h0]
    have HC := Lib.hid (Combined_some optName l A c w hl (by decide) hA h0)
    have hr := sni_room hl
    generalize bt (joinL (getL optName l)) = J at *
    have HS := Lib.hid (fun w => Split_gives J w hr)
    unfold optName at HC
    clear hA h0 hl
    go_enter Try.func22, Try.ntmps22
    go_wp2_with fail
    refine HC.out.mono ?_
    rintro e w2 ⟨rfl, hb⟩
    have HB := Lib.hid hb
    clear hb
    go_wp2_with fail
    refine (HS.out _).mono ?_
    rintro e w3 ⟨A2, c2, rfl, hA2, hb2⟩
    have H2 := Lib.hid (And.intro hA2 (HB.out.trans (hb2.mono HB.out.size)))
    clear hA2 hb2
    go_wp2_with fail
    go_ret
    exact ⟨A2, c2, rfl, H2.out.1, H2.out.2⟩

theorem sValues_any (l : Pars) (A : Option Addr) (c : Nat) (w : World) (hl : FewP l) (hA : ParsIn w w.heap.size A l) :
    Calls Try.prog 8 #[.slice A l.length c] w fun e w' => GivesStrs (sniL l) w e w' := by
  have HV := Lib.hid (svalues_any l A c w hl hA)
  clear hl hA
  go_enter Try.func8, Try.ntmps8
  go_wp2_with fail
  refine HV.out.mono ?_
  rintro e w2 ⟨A2, c2, rfl, hA2, hb2⟩
  have H2 := Lib.hid (And.intro hA2 hb2)
  clear hA2 hb2
  go_wp2_with fail
  go_ret
  exact ⟨A2, c2, rfl, H2.out.1, H2.out.2⟩

theorem rsValues_any (l : Pars) (A : Option Addr) (c : Nat) (w : World) (hl : FewP l) (hA : ParsIn w w.heap.size A l) :
    Calls Try.prog 9 #[.slice A l.length c] w fun e w' => GivesStrs (sniL l) w e w' := by
  have HG := Lib.hid (rGet22_any optSmall l A c w (Nat.le_trans hl.n (by omega)) (fun p hp => (hl.p p hp).1) (by decide) hA)
  rw [← getL_opt] at HG
  unfold optSmall at HG
  obtain ⟨g1, g2⟩ := hl.get optName
  by_cases h0 : getL optName l = []
  · rw [sni_none h0]
    rw [h0] at HG
    clear hA h0 hl g1 g2
    go_enter Try.func9, Try.ntmps9
    go_wp2_with fail
    refine HG.out.mono ?_
    rintro e w2 ⟨A2, c2, rfl, h1, h2⟩
    have H := Lib.hid h2
    clear h1 h2
    go_wp2_with fail
    go_ret
    exact ⟨none, 0, rfl, .inl rfl, H.out⟩
  · rw [sni_some h0]
    have h0i : ((getL optName l).length : Int) ≠ 0 := fun h => h0 (List.eq_nil_of_length_eq_zero (by omega))
    have h0b : (((getL optName l).length : Int) == 0) = false := beq_eq_false_iff_ne.2 h0i
    have hr := sni_room hl
    have HJ := Lib.hid (fun (A2 : Option Addr) (c2 : Nat) (w2 : World) (h1 : StrsIn w2 A2 (getL optName l)) => rJoin11_any (getL optName l) A2 c2 w2 h1 (by omega) (fun s hs => Nat.le_trans (g2 s hs) (by omega)))
    generalize bt (joinL (getL optName l)) = J at *
    generalize getL optName l = v at *
    have HS := Lib.hid (fun w => rSplit_any J w hr)
    clear hl hA h0 g1 g2 h0i
    go_enter Try.func9, Try.ntmps9
    go_wp2_with fail
    refine HG.out.mono ?_
    rintro e w2 ⟨A2, c2, rfl, h1, h2⟩
    have H := Lib.hid h2
    have HJ2 := Lib.hid (HJ.out A2 c2 w2 h1)
    clear h1 h2 HJ
    go_wp2_with fail
    refine HJ2.out.mono ?_
    rintro e w3 ⟨rfl, rfl⟩
    go_wp2_with fail
    refine (HS.out _).mono ?_
    rintro e w4 ⟨A3, c3, rfl, hA3, hb3, _⟩
    have H2 := Lib.hid (And.intro hA3 (H.out.trans (hb3.mono H.out.size)))
    clear hA3 hb3
    go_wp2_with fail
    go_ret
    exact ⟨A3, c3, rfl, H2.out.1, H2.out.2⟩

end Go.Proofs.Ytdkkbibdjagjjaa
