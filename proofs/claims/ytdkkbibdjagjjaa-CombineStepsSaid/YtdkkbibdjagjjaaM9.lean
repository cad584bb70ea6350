/-
  Lemmas of this claim, part 9: the texts MimeL, MimeM, CombC, CombD, one behind the other.
-/
import Derived.Test.YtdkkbibdjagjjaaM8
import Derived.Deep.CutBlock

namespace Go.Proofs.Ytdkkbibdjagjjaa
open Go.RowKit
set_option linter.unusedSimpArgs false
set_option linter.unusedVariables false

/-- The world in which the document's answer reads a text's parameters. -/
structure ParV (W w : World) (R F : Nat) (T U : ByteArray) (ps : Pars) (v : Value) (wr : World) : Prop where
  bF : wr.heap[F]? = some (.cells #[.string T, .string U, v] 33 (0, 0))
  row : wr.ownsRow W.heap.size 52 2 v ps.length (rowQ ps)
  below : Below w.heap.size w wr
  bR : wr.heap[R]? = some (.cells #[.string ⟨#[]⟩, .string ⟨#[]⟩, .slice none 0 0] 33 (0, 0))
  size : W.heap.size ≤ wr.heap.size
  FW : F < W.heap.size
  RW : R < W.heap.size
  ne3 : R ≠ F
  wF : w.heap.size ≤ F
  wR : w.heap.size ≤ R
  wW : w.heap.size ≤ W.heap.size

theorem ParV.belowOn {W w wr w2 : World} {R F : Nat} {T U : ByteArray} {ps : Pars} {v : Value} (h : ParV W w R F T U ps v wr) (hb : Below wr.heap.size wr w2) : ParV W w R F T U ps v w2 :=
  { h with
    bF := (hb.block _ (by have := h.FW; have := h.size; omega)).trans h.bF
    row := row_stands h.row (fun j _ hj => hb.block j hj)
    below := h.below.trans (hb.mono h.below.size)
    bR := (hb.block _ (by have := h.RW; have := h.size; omega)).trans h.bR
    size := Nat.le_trans h.size hb.size }

theorem ParV.sub {W w wr : World} {R F : Nat} {T U : ByteArray} {ps : Pars} {v : Value} (h : ParV W w R F T U ps v wr) (U2 : ByteArray) : ParV W w R F T U2 ps v (wr.setCell ⟨F, 1, none⟩ (.string U2)) := by
  have hF := h.bF
  have hR := h.bR
  have hne3 : F ≠ R := Ne.symm h.ne3
  exact { h with
    bF := by simp [World.setCell, Array.getElem?_modify, hF]
    row := row_stands h.row (fun j hj _ => by
      have h1 := (h.row.lt j hj).1
      have h2 := h.FW
      have h3 : F ≠ j := by omega
      simp [World.setCell, Array.getElem?_modify, h3])
    below := h.below.setCell h.wF _
    bR := by simp [World.setCell, Array.getElem?_modify, hne3, hR]
    size := by simpa using h.size }

theorem ParV.more {W w wr w2 : World} {R F : Nat} {T U : ByteArray} {ps : Pars} {v v2 : Value} {p : List UInt8 × List UInt8} (h : ParV W w R F T U ps v wr) (hg : wr.grownBy w2 v.ownBlock)
    (ho : w2.ownsRow W.heap.size 52 2 v2 (ps.length + 1) (rowQ ps ++ parCells p)) : ParV W w R F T U (ps ++ [p]) v2 (w2.setCell ⟨F, 2, none⟩ v2) := by
  have hv : ∀ i, i < W.heap.size → some i ≠ v.ownBlock := fun i hi e => by have := (h.row.lt i e.symm).1; omega
  have hF2 := (hg.block F (by have := h.FW; have := h.size; omega) (hv _ h.FW)).trans h.bF
  have hR2 := (hg.block R (by have := h.RW; have := h.size; omega) (hv _ h.RW)).trans h.bR
  have hne : v2.ownBlock ≠ some F := fun e => by have := (ho.lt F e).1; have := h.FW; omega
  obtain ⟨x1, x2⟩ := row_laid hF2 ho hne
  have hne3 : F ≠ R := Ne.symm h.ne3
  exact { h with
    bF := x1
    row := by rw [rowQ_snoc, List.length_append]; exact x2
    below := (h.below.grown hg h.below.size (fun j hj => by have := (h.row.lt j hj).1; have := h.wW; omega)).setCell h.wF _
    bR := by simp [World.setCell, Array.getElem?_modify, hne3, hR2]
    size := by simpa using Nat.le_trans h.size hg.size }

theorem bt_take (p : UInt8 → Bool) (l : List UInt8) : (bt l).extract 0 (spanN p l) = bt (l.takeWhile p) := by
  have := ext_bt (bt l) 0 (spanN p l)
  rw [Nat.zero_add, dropB_zero, bt_list, span_take] at this
  exact this

theorem bt_drop (n : Nat) (l : List UInt8) : (bt l).extract n (bt l).size = bt (l.drop n) := by
  apply bytes_ext
  rw [bt_list, ByteArray.data_extract, Array.toList_extract, List.extract_eq_take_drop, bt_list]
  rw [List.take_of_length_le (by rw [List.length_drop, bt_size]; omega)]

theorem bt_rest (p : UInt8 → Bool) (l : List UInt8) : (bt l).extract (spanN p l) (bt l).size = bt (l.dropWhile p) := by
  rw [bt_drop, span_drop]

theorem drop_head (p : UInt8 → Bool) (l : List UInt8) : l.dropWhile p = [] ∨ ∃ b r, l.dropWhile p = b :: r ∧ p b = false := by
  have hh := List.head?_dropWhile_not p l
  cases hx : l.dropWhile p with
  | nil => exact .inl rfl
  | cons b r =>
    rw [hx] at hh
    simp only [List.head?_cons] at hh
    exact .inr ⟨b, r, rfl, by simpa using hh⟩

theorem span_full (p : UInt8 → Bool) (l : List UInt8) : ((spanN p l : Int) == ((bt l).size : Int)) = (l.dropWhile p).isEmpty := by
  have h1 := span_drop p l
  have h2 : (l.drop (spanN p l)).length = (l.dropWhile p).length := by rw [h1]
  rw [List.length_drop] at h2
  have h3 := spanN_le p l
  rw [bt_size]
  cases hx : l.dropWhile p with
  | nil => rw [hx] at h2; simp at h2; simp; omega
  | cons b r => rw [hx] at h2; simp at h2 ⊢; omega

theorem semi_head (l : List UInt8) : l.dropWhile nsemi = [] ∨ ∃ r, l.dropWhile nsemi = 59 :: r := by
  rcases drop_head nsemi l with h | ⟨b, r, h, hb⟩
  · exact .inl h
  · refine .inr ⟨r, ?_⟩
    unfold nsemi at hb
    simp at hb
    rw [h, hb]

theorem valL_head (r : List UInt8) : (valL r).2.2 = [] ∨ ∃ t, (valL r).2.2 = 59 :: t := by
  unfold valL
  split
  · exact semi_head _
  · exact semi_head _

/-- What holds at the head of a round of the document's answer. -/
def RefL (W w : World) (R F : Nat) (T U : ByteArray) (Z : Pars) (q : Value) (wr : World) : Prop :=
  ∃ l ps v, q = .string (bt l) ∧ ParV W w R F T U ps v wr ∧ parsL ps l = Z ∧ (l = [] ∨ ∃ r, l = 59 :: r) ∧ ps.length + l.length ≤ 1000 ∧ SizesP ps

end Go.Proofs.Ytdkkbibdjagjjaa

namespace Go.Proofs.Ytdkkbibdjagjjaa
open Go.RowKit
set_option linter.unusedSimpArgs false
set_option linter.unusedVariables false

def livL : List UInt8 := [32, 84, 101, 120, 116, 47, 72, 84, 77, 76, 59, 67, 104, 97, 114, 115, 101, 116, 61, 34, 117, 116, 102, 45, 56, 34, 32]

def livM : MimeL := ⟨[116, 101, 120, 116], [104, 116, 109, 108], [([99, 104, 97, 114, 115, 101, 116], [117, 116, 102, 45, 56])]⟩

theorem liv_parse : parseR livL = (livM, 0) := by
  unfold parseR parseL
  dsimp only
  rw [show trimL isWhite livL = [84, 101, 120, 116, 47, 72, 84, 77, 76, 59, 67, 104, 97, 114, 115, 101, 116, 61, 34, 117, 116, 102, 45, 56, 34] from by decide +kernel]
  rw [show List.dropWhile nslash ([84, 101, 120, 116, 47, 72, 84, 77, 76, 59, 67, 104, 97, 114, 115, 101, 116, 61, 34, 117, 116, 102, 45, 56, 34] : List UInt8) = [47, 72, 84, 77, 76, 59, 67, 104, 97, 114, 115, 101, 116, 61, 34, 117, 116, 102, 45, 56, 34] from by decide +kernel]
  rw [show List.takeWhile nslash ([84, 101, 120, 116, 47, 72, 84, 77, 76, 59, 67, 104, 97, 114, 115, 101, 116, 61, 34, 117, 116, 102, 45, 56, 34] : List UInt8) = [84, 101, 120, 116] from by decide +kernel]
  rw [List.tail_cons]
  rw [show List.takeWhile nsemi ([72, 84, 77, 76, 59, 67, 104, 97, 114, 115, 101, 116, 61, 34, 117, 116, 102, 45, 56, 34] : List UInt8) = [72, 84, 77, 76] from by decide +kernel]
  rw [show List.dropWhile nsemi ([72, 84, 77, 76, 59, 67, 104, 97, 114, 115, 101, 116, 61, 34, 117, 116, 102, 45, 56, 34] : List UInt8) = [59, 67, 104, 97, 114, 115, 101, 116, 61, 34, 117, 116, 102, 45, 56, 34] from by decide +kernel]
  rw [parsL_semi]
  rw [show parmStep ([67, 104, 97, 114, 115, 101, 116, 61, 34, 117, 116, 102, 45, 56, 34] : List UInt8) = ([99, 104, 97, 114, 115, 101, 116], [117, 116, 102, 45, 56], true, []) from by decide +kernel]
  rw [show (trimEnd isWhite ([72, 84, 77, 76] : List UInt8)) = [72, 84, 77, 76] from by decide +kernel]
  rw [show addP [] (([99, 104, 97, 114, 115, 101, 116], [117, 116, 102, 45, 56], true, []) : List UInt8 × List UInt8 × Bool × List UInt8) = [([99, 104, 97, 114, 115, 101, 116], [117, 116, 102, 45, 56])] from by decide +kernel]
  rw [parsL_nil, if_neg (by decide +kernel)]
  rfl

end Go.Proofs.Ytdkkbibdjagjjaa

namespace Go.Proofs.Ytdkkbibdjagjjaa
open Go.RowKit
set_option linter.unusedSimpArgs false
set_option linter.unusedVariables false

/-- What comes is a row of texts, with room for them. -/
def GivesStrC (l : List ByteArray) (w : World) (e : Ending) (w' : World) : Prop :=
  ∃ A c, e = .returned (.slice A l.length c) ∧ StrsIn w' A l ∧ l.length ≤ c ∧ Below w.heap.size w w'

theorem strs_of_ownC {w : World} {B : Nat} {e : TypeId} {v : Value} {n : Nat} {l : List ByteArray} (h : w.ownsRow B e 1 v n (rowS l)) (hn : n = l.length) : ∃ A c, v = .slice A l.length c ∧ StrsIn w A l ∧ l.length ≤ c := by
  obtain ⟨A, c, hv, hA⟩ := strs_of_own h hn
  refine ⟨A, c, hv, hA, ?_⟩
  subst hn
  rcases h.2 with ⟨h1, h0⟩ | ⟨g, cap, cur, h1, hB, hg, hc, _⟩
  · omega
  · rw [hv] at h1
    injection h1 with _ _ e3
    omega

/-- Some texts, somewhat cut. -/
def fewS (m : Nat) (l : List ByteArray) : List ByteArray := (l.take m).map (fun s => cutB s 120)

theorem fewS_sizes (m : Nat) (l : List ByteArray) : (fewS m l).length ≤ m ∧ ∀ s ∈ fewS m l, s.size ≤ 120 := by
  unfold fewS
  constructor
  · rw [List.length_map, List.length_take]; omega
  · intro s hs
    obtain ⟨x, _, rfl⟩ := List.mem_map.1 hs
    rw [cutB_size]; omega

theorem fewS_snoc (l : List ByteArray) (n : Nat) (h : n < l.length) : rowS ((l.take (n + 1)).map (fun s => cutB s 120)) = rowS ((l.take n).map (fun s => cutB s 120)) ++ [.string (cutB l[n] 120)] := by
  rw [← List.take_append_getElem h, List.map_append, ← rowS_snoc]
  rfl

end Go.Proofs.Ytdkkbibdjagjjaa

namespace Go.Proofs.Ytdkkbibdjagjjaa
open Go.RowKit
set_option linter.unusedSimpArgs false
set_option linter.unusedVariables false

/-- A type in a block. -/
def mimO (m : MimeL) (A : Option Addr) (c : Nat) : Obj := .cells #[.string (bt m.t), .string (bt m.s), .slice A m.ps.length c] 33 (0, 0)

theorem mim_cells {w : World} {g : Nat} {m : MimeL} {A : Option Addr} {c : Nat} (h : w.heap[g]? = some (mimO m A c)) :
    w.cell? ⟨g, 0, none⟩ = some (.string (bt m.t)) ∧ w.cell? ⟨g, 1, none⟩ = some (.string (bt m.s)) ∧ w.cell? ⟨g, 2, none⟩ = some (.slice A m.ps.length c) ∧ (∀ i, w.frozen? ⟨g, i, none⟩ = false) ∧ g < w.heap.size := by
  refine ⟨?_, ?_, ?_, ?_, (Array.getElem?_eq_some_iff.1 h).1⟩
  · rw [Lib.cell_of_heap h]; rfl
  · rw [Lib.cell_of_heap h]; rfl
  · rw [Lib.cell_of_heap h]; rfl
  · exact fun i => Lib.frozen_of_heap h i

theorem mim_none : mimO noM none 0 = .cells #[.string ⟨#[]⟩, .string ⟨#[]⟩, .slice none 0 0] 33 (0, 0) := rfl

/-- A type that comes, its parameters in memory of the callee's own. -/
def GivesMim (m : MimeL) (w : World) (e : Ending) (w' : World) : Prop :=
  ∃ A c, e = .returned (mimV m A c) ∧ ParsAt w' w'.heap.size A m.ps ∧ Below w.heap.size w w' ∧ ∀ g, A = some ⟨g, 0, none⟩ → w.heap.size ≤ g

theorem own_fresh {w1 : World} {B : Nat} {A : Option Addr} {c n : Nat} {l : Pars} (h : w1.ownsRow B 52 2 (.slice A n c) n (rowQ l)) : ∀ g, A = some ⟨g, 0, none⟩ → B ≤ g := by
  intro g hg
  subst hg
  exact (World.ownsRow.lt h g rfl).1

set_option maxRecDepth 20000 in
theorem own_any (m : MimeL) (A : Option Addr) (c : Nat) (w : World) (hm : SizesM m) (hA : ParsAt w w.heap.size A m.ps) :
    Calls Try.prog 42 #[mimV m A c] w fun e w' => GivesMim m w e w' := by
  have HCL := Lib.hid (fun (w1 : World) (hb : Below w.heap.size w w1) => ClonePar_any m.ps A c w1 hm.ps.1 (hA.on hb))
  clear hm hA
  unfold mimV
  go_enter Try.func42, Try.ntmps42
  go_upto_region 1 with fail
  have hP : ((w.alloc (.cells #[.string (bt m.t), .string (bt m.s), .slice A m.ps.length c] 33)).alloc (.cells #[.string ⟨#[]⟩, .string ⟨#[]⟩, .slice none 0 0] 33)).heap[w.heap.size]? = some (mimO m A c) := (Below.heap_alloc _ _ _ (by simp)).trans (heap_alloc_new w _)
  have hQ : ((w.alloc (.cells #[.string (bt m.t), .string (bt m.s), .slice A m.ps.length c] 33)).alloc (.cells #[.string ⟨#[]⟩, .string ⟨#[]⟩, .slice none 0 0] 33)).heap[w.heap.size + 1]? = some (mimO noM none 0) := by
    rw [show w.heap.size + 1 = (w.alloc (.cells #[.string (bt m.t), .string (bt m.s), .slice A m.ps.length c] 33)).heap.size by simp]
    exact heap_alloc_new _ _
  have hb0 : Below w.heap.size w ((w.alloc (.cells #[.string (bt m.t), .string (bt m.s), .slice A m.ps.length c] 33)).alloc (.cells #[.string ⟨#[]⟩, .string ⟨#[]⟩, .slice none 0 0] 33)) := (below_box _ _).alloc (by simp) _
  generalize (w.alloc (.cells #[.string (bt m.t), .string (bt m.s), .slice A m.ps.length c] 33)).alloc (.cells #[.string ⟨#[]⟩, .string ⟨#[]⟩, .slice none 0 0] 33) = W at *
  obtain ⟨p0, p1, p2, pz, plt⟩ := mim_cells hP
  have HC := Lib.hid (HCL.out W hb0)
  have hQlt := (Array.getElem?_eq_some_iff.1 hQ).1
  clear HCL
  go_wp2_with fail
  refine HC.out.mono ?_
  rintro e w1 ⟨v, rfl, ho, hb1⟩
  obtain ⟨A2, c2, rfl, hA2⟩ := parsOf ho
  have hP1 := (hb1.block _ plt).trans hP
  have hQ1 := (hb1.block _ hQlt).trans hQ
  have HF := Lib.hid (own_fresh ho)
  have HA2 := Lib.hid hA2
  have HB := Lib.hid (hb0.trans (hb1.mono hb0.size))
  have hWs := hb0.size
  clear p0 p1 p2 pz ho hA2 hb1 HC hb0
  obtain ⟨p0, p1, p2, pz, plt1⟩ := mim_cells hP1
  obtain ⟨q0, q1, q2, qz, qlt1⟩ := mim_cells hQ1
  clear hP1 hQ1 hP hQ
  go_wp2_with fail
  refine bodyPost_ret (v := mimV m A2 c2) ?_ rfl ?_
  · simp [results, Try.results42, go_sem, q0, q1, q2, mimV]
  · have hfP : ∀ g, A2 = some ⟨g, 0, none⟩ → w.heap.size ≠ g := fun g hg => by have := HF.out g hg; omega
    have hfQ : ∀ g, A2 = some ⟨g, 0, none⟩ → w.heap.size + 1 ≠ g := fun g hg => by have := HF.out g hg; omega
    refine ⟨A2, c2, rfl, ?_, ?_, fun g hg => by have := HF.out g hg; omega⟩
    · exact ((((HA2.out.set hfP _).set hfQ _).set hfQ _).set hfQ _).more (by simp)
    · exact (((HB.out.setCell (by simp) _).setCell (by simp) _).setCell (by simp) _).setCell (by simp) _

theorem Param_set (m : MimeL) (A : Option Addr) (c : Nat) (w : World) (hm : SizesM m) (hA : ParsAt w w.heap.size A m.ps) :
    Calls Try.prog 40 #[mimV m A c, .string ⟨#[99, 104, 97, 114, 115, 101, 116]⟩] w fun e w' => e = .returned (.tuple #[.string (bt (setOf m)), .bool (decide (0 ≤ atL m.ps charL))]) ∧ Below w.heap.size w w' := by
  by_cases h : 0 ≤ atL m.ps charL
  · have hlt := (atL_ge m.ps charL).2
    have := Param_yes m A c ⟨#[99, 104, 97, 114, 115, 101, 116]⟩ w hm hA (atL m.ps charL).toNat (by show atL m.ps charL = _; omega) (by omega)
    rw [decide_eq_true h]
    unfold setOf
    rw [dif_pos h]
    exact this
  · have := Param_no m A c ⟨#[99, 104, 97, 114, 115, 101, 116]⟩ w hm hA (by show atL m.ps charL < 0; omega)
    rw [decide_eq_false h]
    unfold setOf
    rw [dif_neg h]
    exact this

/-- What a step gives. -/
def GivesStep (r : MimeL × List UInt8) (w : World) (e : Ending) (w' : World) : Prop :=
  ∃ A c, e = .returned (.tuple #[mimV r.1 A c, .string (bt r.2)]) ∧ ParsAt w' w'.heap.size A r.1.ps ∧ Below w.heap.size w w' ∧ ∀ g, A = some ⟨g, 0, none⟩ → w.heap.size ≤ g

theorem bt_empty (l : List UInt8) : (bt l).toList.isEmpty = l.isEmpty := by rw [Lib.toList_data]; rfl

set_option maxHeartbeats 4000000 in
set_option maxRecDepth 20000 in
theorem step_any (m n : MimeL) (A A2 : Option Addr) (c c2 : Nat) (set : List UInt8) (w : World) (hm : SizesM m) (hn : SizesM n) (hl : n.ps.length ≤ 999) (hs : set.length ≤ 1000) (hA : ParsAt w w.heap.size A m.ps) (hA2 : ParsAt w w.heap.size A2 n.ps) :
    Calls Try.prog 28 #[mimV m A c, .string (bt set), mimV n A2 c2] w fun e w' => GivesStep (stepL m set n) w e w' := by
  have HPA := Lib.hid (fun (w1 : World) (hb : Below w.heap.size w w1) => Param_set n A2 c2 w1 hn (hA2.on hb))
  have HE1 := Lib.hid (fun (w1 : World) => Essence_par m A c w1 hm)
  have HE2 := Lib.hid (fun (w1 : World) => Essence_par n A2 c2 w1 hn)
  have HOW := Lib.hid (fun (w1 : World) (hb : Below w.heap.size w w1) => own_any n A2 c2 w1 hn (hA2.on hb))
  have HWI := Lib.hid (fun (w1 : World) (hb : Below w.heap.size w w1) => With_own n A2 c2 charL set w1 hn (by decide) hs hl (hA2.on hb))
  have hq := eq_textL (essL m) (essL n)
  have HV : Hid (stepL m set n = if essL m ≠ essL n then (n, setOf n) else if atL n.ps charL < 0 ∧ set ≠ [] ∧ goodL (withM n charL set) = true then (withM n charL set, set) else (n, set)) := Lib.hid rfl
  clear hm hn hl hs hA hA2
  obtain ⟨S, hS⟩ : ∃ S, bt set = S := ⟨_, rfl⟩
  rw [hS] at HWI ⊢
  generalize stepL m set n = R at *
  generalize bt (essL m) = X at *
  generalize bt (essL n) = Y at *
  unfold mimV at HPA HE1 HE2 HOW HWI ⊢
  by_cases he : essL m = essL n
  · have hqe : (X.toList == Y.toList) = true := by rw [hq]; exact beq_iff_eq.2 he
    by_cases hat : 0 ≤ atL n.ps charL
    · have hd : decide (0 ≤ atL n.ps charL) = true := decide_eq_true hat
      rw [hd] at HPA
      have HV : Hid (R = (n, set)) := Lib.hid (by rw [HV.out, if_neg (by simpa using he), if_neg (by omega)])
      clear hq hd
      go_enter Try.func28, Try.ntmps28
      go_upto_region 1 with fail
      have hP : (((w.alloc (.cells #[.string (bt m.t), .string (bt m.s), .slice A m.ps.length c] 33)).alloc (.cells #[.string (bt n.t), .string (bt n.s), .slice A2 n.ps.length c2] 33)).alloc (.cells #[.string ⟨#[]⟩, .string ⟨#[]⟩, .slice none 0 0] 33)).heap[w.heap.size]? = some (mimO m A c) := (Below.heap_alloc _ _ _ (by simp; omega)).trans ((Below.heap_alloc _ _ _ (by simp)).trans (heap_alloc_new w _))
      have hN : (((w.alloc (.cells #[.string (bt m.t), .string (bt m.s), .slice A m.ps.length c] 33)).alloc (.cells #[.string (bt n.t), .string (bt n.s), .slice A2 n.ps.length c2] 33)).alloc (.cells #[.string ⟨#[]⟩, .string ⟨#[]⟩, .slice none 0 0] 33)).heap[w.heap.size + 1]? = some (mimO n A2 c2) := (Below.heap_alloc _ _ _ (by simp)).trans (by
        rw [show w.heap.size + 1 = (w.alloc (.cells #[.string (bt m.t), .string (bt m.s), .slice A m.ps.length c] 33)).heap.size by simp]
        exact heap_alloc_new _ _)
      have hR : (((w.alloc (.cells #[.string (bt m.t), .string (bt m.s), .slice A m.ps.length c] 33)).alloc (.cells #[.string (bt n.t), .string (bt n.s), .slice A2 n.ps.length c2] 33)).alloc (.cells #[.string ⟨#[]⟩, .string ⟨#[]⟩, .slice none 0 0] 33)).heap[w.heap.size + 1 + 1]? = some (mimO noM none 0) := by
        rw [show w.heap.size + 1 + 1 = ((w.alloc (.cells #[.string (bt m.t), .string (bt m.s), .slice A m.ps.length c] 33)).alloc (.cells #[.string (bt n.t), .string (bt n.s), .slice A2 n.ps.length c2] 33)).heap.size by simp]
        exact heap_alloc_new _ _
      have hb : Below w.heap.size w (((w.alloc (.cells #[.string (bt m.t), .string (bt m.s), .slice A m.ps.length c] 33)).alloc (.cells #[.string (bt n.t), .string (bt n.s), .slice A2 n.ps.length c2] 33)).alloc (.cells #[.string ⟨#[]⟩, .string ⟨#[]⟩, .slice none 0 0] 33)) := ((below_box _ _).alloc (by simp) _).alloc (by simp; omega) _
      generalize (((w.alloc (.cells #[.string (bt m.t), .string (bt m.s), .slice A m.ps.length c] 33)).alloc (.cells #[.string (bt n.t), .string (bt n.s), .slice A2 n.ps.length c2] 33)).alloc (.cells #[.string ⟨#[]⟩, .string ⟨#[]⟩, .slice none 0 0] 33)) = W at *
      obtain ⟨p0, p1, p2, pz, plt⟩ := mim_cells hP
      obtain ⟨n0, n1, n2, nz, nlt⟩ := mim_cells hN
      obtain ⟨r0, r1, r2, rz, rlt⟩ := mim_cells hR
      go_wp2_with fail
      refine (HPA.out _ hb).mono ?_
      rintro e w1 ⟨rfl, hbn⟩
      clear p0 p1 p2 pz plt n0 n1 n2 nz nlt r0 r1 r2 rz rlt
      have hP := (hbn.block _ (Array.getElem?_eq_some_iff.1 hP).1).trans hP
      have hN := (hbn.block _ (Array.getElem?_eq_some_iff.1 hN).1).trans hN
      have hR := (hbn.block _ (Array.getElem?_eq_some_iff.1 hR).1).trans hR
      have hb := hb.trans (hbn.mono hb.size)
      clear hbn
      obtain ⟨p0, p1, p2, pz, plt⟩ := mim_cells hP
      obtain ⟨n0, n1, n2, nz, nlt⟩ := mim_cells hN
      obtain ⟨r0, r1, r2, rz, rlt⟩ := mim_cells hR
      go_upto_region 2 with fail
      have hx := @InB.cells w1
      refine wp_region_inb (by kernel_rfl) (by kernel_rfl) ?_; (repeat (first | go_big_quiet_skip | (go_big_quiet_want; go_big_quiet_op; first | go_big_quiet_on | (apply Exists.intro; refine ⟨fun x => ?_, ?_⟩; (· ((first | (go_at_call 41; with_reducible exact inb_call _ (HE1.out _)) | (go_at_call 41; with_reducible exact inb_call _ (HE2.out _))))); go_big_quiet_on)))); refine wpQuiet_nil ?_; intro _ hw'; obtain ⟨⟨wq, hbq⟩, rfl⟩ := hw'
      have hbn := hbq
      clear hx hbq
      clear p0 p1 p2 pz plt n0 n1 n2 nz nlt r0 r1 r2 rz rlt
      have hP := (hbn.block _ (Array.getElem?_eq_some_iff.1 hP).1).trans hP
      have hN := (hbn.block _ (Array.getElem?_eq_some_iff.1 hN).1).trans hN
      have hR := (hbn.block _ (Array.getElem?_eq_some_iff.1 hR).1).trans hR
      have hb := hb.trans (hbn.mono hb.size)
      clear hbn
      obtain ⟨p0, p1, p2, pz, plt⟩ := mim_cells hP
      obtain ⟨n0, n1, n2, nz, nlt⟩ := mim_cells hN
      obtain ⟨r0, r1, r2, rz, rlt⟩ := mim_cells hR
      have HO := Lib.hid (HOW.out _ hb)
      go_wp2_with fail
      refine HO.out.mono ?_
      rintro e w5 ⟨A3, c3, rfl, hA3, hbn, hf⟩
      unfold mimV
      have HF : Hid (∀ g, A3 = some ⟨g, 0, none⟩ → w.heap.size + 1 + 1 < g) := Lib.hid (fun g hg => by have := hf g hg; omega)
      have HA3 := Lib.hid hA3
      clear hA3 hf
      clear p0 p1 p2 pz plt n0 n1 n2 nz nlt r0 r1 r2 rz rlt
      have hP := (hbn.block _ (Array.getElem?_eq_some_iff.1 hP).1).trans hP
      have hN := (hbn.block _ (Array.getElem?_eq_some_iff.1 hN).1).trans hN
      have hR := (hbn.block _ (Array.getElem?_eq_some_iff.1 hR).1).trans hR
      have hb := hb.trans (hbn.mono hb.size)
      clear hbn
      have HB := Lib.hid hb
      obtain ⟨p0, p1, p2, pz, plt⟩ := mim_cells hP
      obtain ⟨n0, n1, n2, nz, nlt⟩ := mim_cells hN
      obtain ⟨r0, r1, r2, rz, rlt⟩ := mim_cells hR
      go_wp2_with fail
      refine bodyPost_ret (v := .tuple #[mimV n A3 c3, .string S]) ?_ rfl ?_
      · simp [results, Try.results28, go_sem, r0, r1, r2, mimV]
      · have hf : ∀ g, A3 = some ⟨g, 0, none⟩ → w.heap.size + 1 + 1 ≠ g := fun g hg => by have := HF.out g hg; omega
        refine ⟨A3, c3, by rw [HV.out, ← hS], ?_, ?_, fun g hg => by have := HF.out g hg; omega⟩
        · rw [HV.out]
          exact (((HA3.out.set hf _).set hf _).set hf _).more (by simp)
        · exact ((HB.out.setCell (show w.heap.size ≤ w.heap.size + 1 + 1 by omega) _).setCell (show w.heap.size ≤ w.heap.size + 1 + 1 by omega) _).setCell (show w.heap.size ≤ w.heap.size + 1 + 1 by omega) _
    · have hd : decide (0 ≤ atL n.ps charL) = false := decide_eq_false hat
      rw [hd] at HPA
      by_cases hse : set = []
      · have HV : Hid (R = (n, set)) := Lib.hid (by rw [HV.out, if_neg (by simpa using he), if_neg (by rintro ⟨_, h, _⟩; exact h hse)])
        have hset : S.toList = [] := by rw [← hS, Lib.toList_data]; exact hse
        have hset2 : S.toList.isEmpty = true := by rw [hset]; rfl
        clear hq hd
        go_enter Try.func28, Try.ntmps28
        go_upto_region 1 with fail
        have hP : (((w.alloc (.cells #[.string (bt m.t), .string (bt m.s), .slice A m.ps.length c] 33)).alloc (.cells #[.string (bt n.t), .string (bt n.s), .slice A2 n.ps.length c2] 33)).alloc (.cells #[.string ⟨#[]⟩, .string ⟨#[]⟩, .slice none 0 0] 33)).heap[w.heap.size]? = some (mimO m A c) := (Below.heap_alloc _ _ _ (by simp; omega)).trans ((Below.heap_alloc _ _ _ (by simp)).trans (heap_alloc_new w _))
        have hN : (((w.alloc (.cells #[.string (bt m.t), .string (bt m.s), .slice A m.ps.length c] 33)).alloc (.cells #[.string (bt n.t), .string (bt n.s), .slice A2 n.ps.length c2] 33)).alloc (.cells #[.string ⟨#[]⟩, .string ⟨#[]⟩, .slice none 0 0] 33)).heap[w.heap.size + 1]? = some (mimO n A2 c2) := (Below.heap_alloc _ _ _ (by simp)).trans (by
          rw [show w.heap.size + 1 = (w.alloc (.cells #[.string (bt m.t), .string (bt m.s), .slice A m.ps.length c] 33)).heap.size by simp]
          exact heap_alloc_new _ _)
        have hR : (((w.alloc (.cells #[.string (bt m.t), .string (bt m.s), .slice A m.ps.length c] 33)).alloc (.cells #[.string (bt n.t), .string (bt n.s), .slice A2 n.ps.length c2] 33)).alloc (.cells #[.string ⟨#[]⟩, .string ⟨#[]⟩, .slice none 0 0] 33)).heap[w.heap.size + 1 + 1]? = some (mimO noM none 0) := by
          rw [show w.heap.size + 1 + 1 = ((w.alloc (.cells #[.string (bt m.t), .string (bt m.s), .slice A m.ps.length c] 33)).alloc (.cells #[.string (bt n.t), .string (bt n.s), .slice A2 n.ps.length c2] 33)).heap.size by simp]
          exact heap_alloc_new _ _
        have hb : Below w.heap.size w (((w.alloc (.cells #[.string (bt m.t), .string (bt m.s), .slice A m.ps.length c] 33)).alloc (.cells #[.string (bt n.t), .string (bt n.s), .slice A2 n.ps.length c2] 33)).alloc (.cells #[.string ⟨#[]⟩, .string ⟨#[]⟩, .slice none 0 0] 33)) := ((below_box _ _).alloc (by simp) _).alloc (by simp; omega) _
        generalize (((w.alloc (.cells #[.string (bt m.t), .string (bt m.s), .slice A m.ps.length c] 33)).alloc (.cells #[.string (bt n.t), .string (bt n.s), .slice A2 n.ps.length c2] 33)).alloc (.cells #[.string ⟨#[]⟩, .string ⟨#[]⟩, .slice none 0 0] 33)) = W at *
        obtain ⟨p0, p1, p2, pz, plt⟩ := mim_cells hP
        obtain ⟨n0, n1, n2, nz, nlt⟩ := mim_cells hN
        obtain ⟨r0, r1, r2, rz, rlt⟩ := mim_cells hR
        go_wp2_with fail
        refine (HPA.out _ hb).mono ?_
        rintro e w1 ⟨rfl, hbn⟩
        clear p0 p1 p2 pz plt n0 n1 n2 nz nlt r0 r1 r2 rz rlt
        have hP := (hbn.block _ (Array.getElem?_eq_some_iff.1 hP).1).trans hP
        have hN := (hbn.block _ (Array.getElem?_eq_some_iff.1 hN).1).trans hN
        have hR := (hbn.block _ (Array.getElem?_eq_some_iff.1 hR).1).trans hR
        have hb := hb.trans (hbn.mono hb.size)
        clear hbn
        obtain ⟨p0, p1, p2, pz, plt⟩ := mim_cells hP
        obtain ⟨n0, n1, n2, nz, nlt⟩ := mim_cells hN
        obtain ⟨r0, r1, r2, rz, rlt⟩ := mim_cells hR
        go_upto_region 2 with fail
        have hx := @InB.cells w1
        refine wp_region_inb (by kernel_rfl) (by kernel_rfl) ?_; (repeat (first | go_big_quiet_skip | (go_big_quiet_want; go_big_quiet_op; first | go_big_quiet_on | (apply Exists.intro; refine ⟨fun x => ?_, ?_⟩; (· ((first | (go_at_call 41; with_reducible exact inb_call _ (HE1.out _)) | (go_at_call 41; with_reducible exact inb_call _ (HE2.out _))))); go_big_quiet_on)))); refine wpQuiet_nil ?_; intro _ hw'; obtain ⟨⟨wq, hbq⟩, rfl⟩ := hw'
        have hbn := hbq
        clear hx hbq
        clear p0 p1 p2 pz plt n0 n1 n2 nz nlt r0 r1 r2 rz rlt
        have hP := (hbn.block _ (Array.getElem?_eq_some_iff.1 hP).1).trans hP
        have hN := (hbn.block _ (Array.getElem?_eq_some_iff.1 hN).1).trans hN
        have hR := (hbn.block _ (Array.getElem?_eq_some_iff.1 hR).1).trans hR
        have hb := hb.trans (hbn.mono hb.size)
        clear hbn
        obtain ⟨p0, p1, p2, pz, plt⟩ := mim_cells hP
        obtain ⟨n0, n1, n2, nz, nlt⟩ := mim_cells hN
        obtain ⟨r0, r1, r2, rz, rlt⟩ := mim_cells hR
        have HO := Lib.hid (HOW.out _ hb)
        go_wp2_with fail
        refine HO.out.mono ?_
        rintro e w5 ⟨A3, c3, rfl, hA3, hbn, hf⟩
        unfold mimV
        have HF : Hid (∀ g, A3 = some ⟨g, 0, none⟩ → w.heap.size + 1 + 1 < g) := Lib.hid (fun g hg => by have := hf g hg; omega)
        have HA3 := Lib.hid hA3
        clear hA3 hf
        clear p0 p1 p2 pz plt n0 n1 n2 nz nlt r0 r1 r2 rz rlt
        have hP := (hbn.block _ (Array.getElem?_eq_some_iff.1 hP).1).trans hP
        have hN := (hbn.block _ (Array.getElem?_eq_some_iff.1 hN).1).trans hN
        have hR := (hbn.block _ (Array.getElem?_eq_some_iff.1 hR).1).trans hR
        have hb := hb.trans (hbn.mono hb.size)
        clear hbn
        have HB := Lib.hid hb
        obtain ⟨p0, p1, p2, pz, plt⟩ := mim_cells hP
        obtain ⟨n0, n1, n2, nz, nlt⟩ := mim_cells hN
        obtain ⟨r0, r1, r2, rz, rlt⟩ := mim_cells hR
        go_wp2_with fail
        refine bodyPost_ret (v := .tuple #[mimV n A3 c3, .string S]) ?_ rfl ?_
        · simp [results, Try.results28, go_sem, r0, r1, r2, mimV]
        · have hf : ∀ g, A3 = some ⟨g, 0, none⟩ → w.heap.size + 1 + 1 ≠ g := fun g hg => by have := HF.out g hg; omega
          refine ⟨A3, c3, by rw [HV.out, ← hS], ?_, ?_, fun g hg => by have := HF.out g hg; omega⟩
          · rw [HV.out]
            exact (((HA3.out.set hf _).set hf _).set hf _).more (by simp)
          · exact ((HB.out.setCell (show w.heap.size ≤ w.heap.size + 1 + 1 by omega) _).setCell (show w.heap.size ≤ w.heap.size + 1 + 1 by omega) _).setCell (show w.heap.size ≤ w.heap.size + 1 + 1 by omega) _
      · have hset : S.toList.isEmpty = false := by rw [← hS, bt_empty, List.isEmpty_eq_false_iff]; exact hse
        cases hg : goodL (withM n charL set)
        · have HV : Hid (R = (n, set)) := Lib.hid (by rw [HV.out, if_neg (by simpa using he), if_neg (by rintro ⟨_, _, h⟩; rw [hg] at h; cases h)])
          obtain ⟨k, hk, hk0⟩ : ∃ k : Int, ((withR n charL set).2 : Int) = k ∧ (k == 0) = false := by
            unfold withR
            rw [hg]
            simp only [Bool.false_eq_true, if_false]
            split
            · exact ⟨7, rfl, rfl⟩
            · exact ⟨2, rfl, rfl⟩
          rw [hk] at HWI
          generalize (withR n charL set).1 = Z at *
          clear hq hd hg hk
          go_enter Try.func28, Try.ntmps28
          go_upto_region 1 with fail
          have hP : (((w.alloc (.cells #[.string (bt m.t), .string (bt m.s), .slice A m.ps.length c] 33)).alloc (.cells #[.string (bt n.t), .string (bt n.s), .slice A2 n.ps.length c2] 33)).alloc (.cells #[.string ⟨#[]⟩, .string ⟨#[]⟩, .slice none 0 0] 33)).heap[w.heap.size]? = some (mimO m A c) := (Below.heap_alloc _ _ _ (by simp; omega)).trans ((Below.heap_alloc _ _ _ (by simp)).trans (heap_alloc_new w _))
          have hN : (((w.alloc (.cells #[.string (bt m.t), .string (bt m.s), .slice A m.ps.length c] 33)).alloc (.cells #[.string (bt n.t), .string (bt n.s), .slice A2 n.ps.length c2] 33)).alloc (.cells #[.string ⟨#[]⟩, .string ⟨#[]⟩, .slice none 0 0] 33)).heap[w.heap.size + 1]? = some (mimO n A2 c2) := (Below.heap_alloc _ _ _ (by simp)).trans (by
            rw [show w.heap.size + 1 = (w.alloc (.cells #[.string (bt m.t), .string (bt m.s), .slice A m.ps.length c] 33)).heap.size by simp]
            exact heap_alloc_new _ _)
          have hR : (((w.alloc (.cells #[.string (bt m.t), .string (bt m.s), .slice A m.ps.length c] 33)).alloc (.cells #[.string (bt n.t), .string (bt n.s), .slice A2 n.ps.length c2] 33)).alloc (.cells #[.string ⟨#[]⟩, .string ⟨#[]⟩, .slice none 0 0] 33)).heap[w.heap.size + 1 + 1]? = some (mimO noM none 0) := by
            rw [show w.heap.size + 1 + 1 = ((w.alloc (.cells #[.string (bt m.t), .string (bt m.s), .slice A m.ps.length c] 33)).alloc (.cells #[.string (bt n.t), .string (bt n.s), .slice A2 n.ps.length c2] 33)).heap.size by simp]
            exact heap_alloc_new _ _
          have hb : Below w.heap.size w (((w.alloc (.cells #[.string (bt m.t), .string (bt m.s), .slice A m.ps.length c] 33)).alloc (.cells #[.string (bt n.t), .string (bt n.s), .slice A2 n.ps.length c2] 33)).alloc (.cells #[.string ⟨#[]⟩, .string ⟨#[]⟩, .slice none 0 0] 33)) := ((below_box _ _).alloc (by simp) _).alloc (by simp; omega) _
          generalize (((w.alloc (.cells #[.string (bt m.t), .string (bt m.s), .slice A m.ps.length c] 33)).alloc (.cells #[.string (bt n.t), .string (bt n.s), .slice A2 n.ps.length c2] 33)).alloc (.cells #[.string ⟨#[]⟩, .string ⟨#[]⟩, .slice none 0 0] 33)) = W at *
          obtain ⟨p0, p1, p2, pz, plt⟩ := mim_cells hP
          obtain ⟨n0, n1, n2, nz, nlt⟩ := mim_cells hN
          obtain ⟨r0, r1, r2, rz, rlt⟩ := mim_cells hR
          go_wp2_with fail
          refine (HPA.out _ hb).mono ?_
          rintro e w1 ⟨rfl, hbn⟩
          clear p0 p1 p2 pz plt n0 n1 n2 nz nlt r0 r1 r2 rz rlt
          have hP := (hbn.block _ (Array.getElem?_eq_some_iff.1 hP).1).trans hP
          have hN := (hbn.block _ (Array.getElem?_eq_some_iff.1 hN).1).trans hN
          have hR := (hbn.block _ (Array.getElem?_eq_some_iff.1 hR).1).trans hR
          have hb := hb.trans (hbn.mono hb.size)
          clear hbn
          obtain ⟨p0, p1, p2, pz, plt⟩ := mim_cells hP
          obtain ⟨n0, n1, n2, nz, nlt⟩ := mim_cells hN
          obtain ⟨r0, r1, r2, rz, rlt⟩ := mim_cells hR
          go_upto_region 2 with fail
          have hx := @InB.cells w1
          refine wp_region_inb (by kernel_rfl) (by kernel_rfl) ?_; (repeat (first | go_big_quiet_skip | (go_big_quiet_want; go_big_quiet_op; first | go_big_quiet_on | (apply Exists.intro; refine ⟨fun x => ?_, ?_⟩; (· ((first | (go_at_call 41; with_reducible exact inb_call _ (HE1.out _)) | (go_at_call 41; with_reducible exact inb_call _ (HE2.out _))))); go_big_quiet_on)))); refine wpQuiet_nil ?_; intro _ hw'; obtain ⟨⟨wq, hbq⟩, rfl⟩ := hw'
          have hbn := hbq
          clear hx hbq
          clear p0 p1 p2 pz plt n0 n1 n2 nz nlt r0 r1 r2 rz rlt
          have hP := (hbn.block _ (Array.getElem?_eq_some_iff.1 hP).1).trans hP
          have hN := (hbn.block _ (Array.getElem?_eq_some_iff.1 hN).1).trans hN
          have hR := (hbn.block _ (Array.getElem?_eq_some_iff.1 hR).1).trans hR
          have hb := hb.trans (hbn.mono hb.size)
          clear hbn
          obtain ⟨p0, p1, p2, pz, plt⟩ := mim_cells hP
          obtain ⟨n0, n1, n2, nz, nlt⟩ := mim_cells hN
          obtain ⟨r0, r1, r2, rz, rlt⟩ := mim_cells hR
          have HRL := Lib.hid rlt
          go_upto_region 5 with fail
          have HW5 := Lib.hid (HWI.out _ hb)
          go_wp2_with fail
          refine HW5.out.mono ?_
          rintro e w4 ⟨A4, c4, rfl, hA4, hbn, hf4⟩
          clear p0 p1 p2 pz plt n0 n1 n2 nz nlt r0 r1 r2 rz rlt
          have hP := (hbn.block _ (Array.getElem?_eq_some_iff.1 hP).1).trans hP
          have hN := (hbn.block _ (Array.getElem?_eq_some_iff.1 hN).1).trans hN
          have hR := (hbn.block _ (Array.getElem?_eq_some_iff.1 hR).1).trans hR
          have hb := hb.trans (hbn.mono hb.size)
          clear hbn
          have hP : (w4.alloc (.cells #[.string (bt Z.t), .string (bt Z.s), .slice A4 Z.ps.length c4] 33)).heap[w.heap.size]? = _ := (Below.heap_alloc _ _ _ (Array.getElem?_eq_some_iff.1 hP).1).trans hP
          have hN : (w4.alloc (.cells #[.string (bt Z.t), .string (bt Z.s), .slice A4 Z.ps.length c4] 33)).heap[w.heap.size + 1]? = _ := (Below.heap_alloc _ _ _ (Array.getElem?_eq_some_iff.1 hN).1).trans hN
          have hR : (w4.alloc (.cells #[.string (bt Z.t), .string (bt Z.s), .slice A4 Z.ps.length c4] 33)).heap[w.heap.size + 1 + 1]? = _ := (Below.heap_alloc _ _ _ (Array.getElem?_eq_some_iff.1 hR).1).trans hR
          have hZ : (w4.alloc (.cells #[.string (bt Z.t), .string (bt Z.s), .slice A4 Z.ps.length c4] 33)).heap[w4.heap.size]? = some (mimO Z A4 c4) := heap_alloc_new w4 _
          have hA5 : ParsAt (w4.alloc (.cells #[.string (bt Z.t), .string (bt Z.s), .slice A4 Z.ps.length c4] 33)) (w4.alloc (.cells #[.string (bt Z.t), .string (bt Z.s), .slice A4 Z.ps.length c4] 33)).heap.size A4 Z.ps := hA4.on (below_box w4 _)
          have hb := hb.alloc hb.size (.cells #[.string (bt Z.t), .string (bt Z.s), .slice A4 Z.ps.length c4] 33)
          go_upto_region 6 with fail
          generalize hz4 : w4.heap.size = gz at *
          generalize w4.alloc (.cells #[.string (bt Z.t), .string (bt Z.s), .slice A4 Z.ps.length c4] 33) = v4 at *
          clear hz4 hA4 HW5
          clear hZ hA5 hf4
          obtain ⟨p0, p1, p2, pz, plt⟩ := mim_cells hP
          obtain ⟨n0, n1, n2, nz, nlt⟩ := mim_cells hN
          obtain ⟨r0, r1, r2, rz, rlt⟩ := mim_cells hR
          have HO := Lib.hid (HOW.out _ hb)
          go_wp2_with fail
          refine HO.out.mono ?_
          rintro e w5 ⟨A3, c3, rfl, hA3, hbn, hf⟩
          unfold mimV
          have HF : Hid (∀ g, A3 = some ⟨g, 0, none⟩ → w.heap.size + 1 + 1 < g) := Lib.hid (fun g hg => by have := hf g hg; omega)
          have HA3 := Lib.hid hA3
          clear hA3 hf
          clear p0 p1 p2 pz plt n0 n1 n2 nz nlt r0 r1 r2 rz rlt
          have hP := (hbn.block _ (Array.getElem?_eq_some_iff.1 hP).1).trans hP
          have hN := (hbn.block _ (Array.getElem?_eq_some_iff.1 hN).1).trans hN
          have hR := (hbn.block _ (Array.getElem?_eq_some_iff.1 hR).1).trans hR
          have hb := hb.trans (hbn.mono hb.size)
          clear hbn
          have HB := Lib.hid hb
          obtain ⟨p0, p1, p2, pz, plt⟩ := mim_cells hP
          obtain ⟨n0, n1, n2, nz, nlt⟩ := mim_cells hN
          obtain ⟨r0, r1, r2, rz, rlt⟩ := mim_cells hR
          go_wp2_with fail
          refine bodyPost_ret (v := .tuple #[mimV n A3 c3, .string S]) ?_ rfl ?_
          · simp [results, Try.results28, go_sem, r0, r1, r2, mimV]
          · have hf : ∀ g, A3 = some ⟨g, 0, none⟩ → w.heap.size + 1 + 1 ≠ g := fun g hg => by have := HF.out g hg; omega
            refine ⟨A3, c3, by rw [HV.out, ← hS], ?_, ?_, fun g hg => by have := HF.out g hg; omega⟩
            · rw [HV.out]
              exact (((HA3.out.set hf _).set hf _).set hf _).more (by simp)
            · exact ((HB.out.setCell (show w.heap.size ≤ w.heap.size + 1 + 1 by omega) _).setCell (show w.heap.size ≤ w.heap.size + 1 + 1 by omega) _).setCell (show w.heap.size ≤ w.heap.size + 1 + 1 by omega) _
        · have HV : Hid (R = (withM n charL set, set)) := Lib.hid (by rw [HV.out, if_neg (by simpa using he), if_pos ⟨by omega, hse, hg⟩])
          have hw : withR n charL set = (withM n charL set, 0) := by unfold withR; rw [hg]; rfl
          rw [show ((withR n charL set).2 : Int) = 0 by rw [hw]; rfl, hw] at HWI
          simp only at HWI
          generalize withM n charL set = Z at *
          clear hq hd hg hw
          go_enter Try.func28, Try.ntmps28
          go_upto_region 1 with fail
          have hP : (((w.alloc (.cells #[.string (bt m.t), .string (bt m.s), .slice A m.ps.length c] 33)).alloc (.cells #[.string (bt n.t), .string (bt n.s), .slice A2 n.ps.length c2] 33)).alloc (.cells #[.string ⟨#[]⟩, .string ⟨#[]⟩, .slice none 0 0] 33)).heap[w.heap.size]? = some (mimO m A c) := (Below.heap_alloc _ _ _ (by simp; omega)).trans ((Below.heap_alloc _ _ _ (by simp)).trans (heap_alloc_new w _))
          have hN : (((w.alloc (.cells #[.string (bt m.t), .string (bt m.s), .slice A m.ps.length c] 33)).alloc (.cells #[.string (bt n.t), .string (bt n.s), .slice A2 n.ps.length c2] 33)).alloc (.cells #[.string ⟨#[]⟩, .string ⟨#[]⟩, .slice none 0 0] 33)).heap[w.heap.size + 1]? = some (mimO n A2 c2) := (Below.heap_alloc _ _ _ (by simp)).trans (by
            rw [show w.heap.size + 1 = (w.alloc (.cells #[.string (bt m.t), .string (bt m.s), .slice A m.ps.length c] 33)).heap.size by simp]
            exact heap_alloc_new _ _)
          have hR : (((w.alloc (.cells #[.string (bt m.t), .string (bt m.s), .slice A m.ps.length c] 33)).alloc (.cells #[.string (bt n.t), .string (bt n.s), .slice A2 n.ps.length c2] 33)).alloc (.cells #[.string ⟨#[]⟩, .string ⟨#[]⟩, .slice none 0 0] 33)).heap[w.heap.size + 1 + 1]? = some (mimO noM none 0) := by
            rw [show w.heap.size + 1 + 1 = ((w.alloc (.cells #[.string (bt m.t), .string (bt m.s), .slice A m.ps.length c] 33)).alloc (.cells #[.string (bt n.t), .string (bt n.s), .slice A2 n.ps.length c2] 33)).heap.size by simp]
            exact heap_alloc_new _ _
          have hb : Below w.heap.size w (((w.alloc (.cells #[.string (bt m.t), .string (bt m.s), .slice A m.ps.length c] 33)).alloc (.cells #[.string (bt n.t), .string (bt n.s), .slice A2 n.ps.length c2] 33)).alloc (.cells #[.string ⟨#[]⟩, .string ⟨#[]⟩, .slice none 0 0] 33)) := ((below_box _ _).alloc (by simp) _).alloc (by simp; omega) _
          generalize (((w.alloc (.cells #[.string (bt m.t), .string (bt m.s), .slice A m.ps.length c] 33)).alloc (.cells #[.string (bt n.t), .string (bt n.s), .slice A2 n.ps.length c2] 33)).alloc (.cells #[.string ⟨#[]⟩, .string ⟨#[]⟩, .slice none 0 0] 33)) = W at *
          obtain ⟨p0, p1, p2, pz, plt⟩ := mim_cells hP
          obtain ⟨n0, n1, n2, nz, nlt⟩ := mim_cells hN
          obtain ⟨r0, r1, r2, rz, rlt⟩ := mim_cells hR
          go_wp2_with fail
          refine (HPA.out _ hb).mono ?_
          rintro e w1 ⟨rfl, hbn⟩
          clear p0 p1 p2 pz plt n0 n1 n2 nz nlt r0 r1 r2 rz rlt
          have hP := (hbn.block _ (Array.getElem?_eq_some_iff.1 hP).1).trans hP
          have hN := (hbn.block _ (Array.getElem?_eq_some_iff.1 hN).1).trans hN
          have hR := (hbn.block _ (Array.getElem?_eq_some_iff.1 hR).1).trans hR
          have hb := hb.trans (hbn.mono hb.size)
          clear hbn
          obtain ⟨p0, p1, p2, pz, plt⟩ := mim_cells hP
          obtain ⟨n0, n1, n2, nz, nlt⟩ := mim_cells hN
          obtain ⟨r0, r1, r2, rz, rlt⟩ := mim_cells hR
          go_upto_region 2 with fail
          have hx := @InB.cells w1
          refine wp_region_inb (by kernel_rfl) (by kernel_rfl) ?_; (repeat (first | go_big_quiet_skip | (go_big_quiet_want; go_big_quiet_op; first | go_big_quiet_on | (apply Exists.intro; refine ⟨fun x => ?_, ?_⟩; (· ((first | (go_at_call 41; with_reducible exact inb_call _ (HE1.out _)) | (go_at_call 41; with_reducible exact inb_call _ (HE2.out _))))); go_big_quiet_on)))); refine wpQuiet_nil ?_; intro _ hw'; obtain ⟨⟨wq, hbq⟩, rfl⟩ := hw'
          have hbn := hbq
          clear hx hbq
          clear p0 p1 p2 pz plt n0 n1 n2 nz nlt r0 r1 r2 rz rlt
          have hP := (hbn.block _ (Array.getElem?_eq_some_iff.1 hP).1).trans hP
          have hN := (hbn.block _ (Array.getElem?_eq_some_iff.1 hN).1).trans hN
          have hR := (hbn.block _ (Array.getElem?_eq_some_iff.1 hR).1).trans hR
          have hb := hb.trans (hbn.mono hb.size)
          clear hbn
          obtain ⟨p0, p1, p2, pz, plt⟩ := mim_cells hP
          obtain ⟨n0, n1, n2, nz, nlt⟩ := mim_cells hN
          obtain ⟨r0, r1, r2, rz, rlt⟩ := mim_cells hR
          have HRL := Lib.hid rlt
          go_upto_region 5 with fail
          have HW5 := Lib.hid (HWI.out _ hb)
          go_wp2_with fail
          refine HW5.out.mono ?_
          rintro e w4 ⟨A4, c4, rfl, hA4, hbn, hf4⟩
          clear p0 p1 p2 pz plt n0 n1 n2 nz nlt r0 r1 r2 rz rlt
          have hP := (hbn.block _ (Array.getElem?_eq_some_iff.1 hP).1).trans hP
          have hN := (hbn.block _ (Array.getElem?_eq_some_iff.1 hN).1).trans hN
          have hR := (hbn.block _ (Array.getElem?_eq_some_iff.1 hR).1).trans hR
          have hb := hb.trans (hbn.mono hb.size)
          clear hbn
          have hP : (w4.alloc (.cells #[.string (bt Z.t), .string (bt Z.s), .slice A4 Z.ps.length c4] 33)).heap[w.heap.size]? = _ := (Below.heap_alloc _ _ _ (Array.getElem?_eq_some_iff.1 hP).1).trans hP
          have hN : (w4.alloc (.cells #[.string (bt Z.t), .string (bt Z.s), .slice A4 Z.ps.length c4] 33)).heap[w.heap.size + 1]? = _ := (Below.heap_alloc _ _ _ (Array.getElem?_eq_some_iff.1 hN).1).trans hN
          have hR : (w4.alloc (.cells #[.string (bt Z.t), .string (bt Z.s), .slice A4 Z.ps.length c4] 33)).heap[w.heap.size + 1 + 1]? = _ := (Below.heap_alloc _ _ _ (Array.getElem?_eq_some_iff.1 hR).1).trans hR
          have hZ : (w4.alloc (.cells #[.string (bt Z.t), .string (bt Z.s), .slice A4 Z.ps.length c4] 33)).heap[w4.heap.size]? = some (mimO Z A4 c4) := heap_alloc_new w4 _
          have hA5 : ParsAt (w4.alloc (.cells #[.string (bt Z.t), .string (bt Z.s), .slice A4 Z.ps.length c4] 33)) (w4.alloc (.cells #[.string (bt Z.t), .string (bt Z.s), .slice A4 Z.ps.length c4] 33)).heap.size A4 Z.ps := hA4.on (below_box w4 _)
          have hb := hb.alloc hb.size (.cells #[.string (bt Z.t), .string (bt Z.s), .slice A4 Z.ps.length c4] 33)
          go_upto_region 6 with fail
          generalize hz4 : w4.heap.size = gz at *
          generalize w4.alloc (.cells #[.string (bt Z.t), .string (bt Z.s), .slice A4 Z.ps.length c4] 33) = v4 at *
          clear hz4 hA4 HW5
          have HF : Hid (∀ g, A4 = some ⟨g, 0, none⟩ → w.heap.size + 1 + 1 < g) := Lib.hid (fun g hg => by have := hf4 g hg; have := HRL.out; omega)
          have HA3 := Lib.hid hA5
          have HB := Lib.hid hb
          obtain ⟨z0, z1, z2, zz, zlt⟩ := mim_cells hZ
          obtain ⟨p0, p1, p2, pz, plt⟩ := mim_cells hP
          obtain ⟨n0, n1, n2, nz, nlt⟩ := mim_cells hN
          obtain ⟨r0, r1, r2, rz, rlt⟩ := mim_cells hR
          clear hA5 hf4
          go_wp2_with fail
          refine bodyPost_ret (v := .tuple #[mimV Z A4 c4, .string S]) ?_ rfl ?_
          · simp [results, Try.results28, go_sem, r0, r1, r2, mimV]
          · have hf : ∀ g, A4 = some ⟨g, 0, none⟩ → w.heap.size + 1 + 1 ≠ g := fun g hg => by have := HF.out g hg; omega
            refine ⟨A4, c4, by rw [HV.out, ← hS], ?_, ?_, fun g hg => by have := HF.out g hg; omega⟩
            · rw [HV.out]
              exact (((HA3.out.set hf _).set hf _).set hf _).more (by simp)
            · exact ((HB.out.setCell (show w.heap.size ≤ w.heap.size + 1 + 1 by omega) _).setCell (show w.heap.size ≤ w.heap.size + 1 + 1 by omega) _).setCell (show w.heap.size ≤ w.heap.size + 1 + 1 by omega) _
  · have hqe : (X.toList == Y.toList) = false := by rw [hq]; exact beq_eq_false_iff_ne.2 he
    have HV : Hid (R = (n, setOf n)) := Lib.hid (by rw [HV.out, if_pos he])
    clear hq
    go_enter Try.func28, Try.ntmps28
    go_upto_region 1 with fail
    have hP : (((w.alloc (.cells #[.string (bt m.t), .string (bt m.s), .slice A m.ps.length c] 33)).alloc (.cells #[.string (bt n.t), .string (bt n.s), .slice A2 n.ps.length c2] 33)).alloc (.cells #[.string ⟨#[]⟩, .string ⟨#[]⟩, .slice none 0 0] 33)).heap[w.heap.size]? = some (mimO m A c) := (Below.heap_alloc _ _ _ (by simp; omega)).trans ((Below.heap_alloc _ _ _ (by simp)).trans (heap_alloc_new w _))
    have hN : (((w.alloc (.cells #[.string (bt m.t), .string (bt m.s), .slice A m.ps.length c] 33)).alloc (.cells #[.string (bt n.t), .string (bt n.s), .slice A2 n.ps.length c2] 33)).alloc (.cells #[.string ⟨#[]⟩, .string ⟨#[]⟩, .slice none 0 0] 33)).heap[w.heap.size + 1]? = some (mimO n A2 c2) := (Below.heap_alloc _ _ _ (by simp)).trans (by
      rw [show w.heap.size + 1 = (w.alloc (.cells #[.string (bt m.t), .string (bt m.s), .slice A m.ps.length c] 33)).heap.size by simp]
      exact heap_alloc_new _ _)
    have hR : (((w.alloc (.cells #[.string (bt m.t), .string (bt m.s), .slice A m.ps.length c] 33)).alloc (.cells #[.string (bt n.t), .string (bt n.s), .slice A2 n.ps.length c2] 33)).alloc (.cells #[.string ⟨#[]⟩, .string ⟨#[]⟩, .slice none 0 0] 33)).heap[w.heap.size + 1 + 1]? = some (mimO noM none 0) := by
      rw [show w.heap.size + 1 + 1 = ((w.alloc (.cells #[.string (bt m.t), .string (bt m.s), .slice A m.ps.length c] 33)).alloc (.cells #[.string (bt n.t), .string (bt n.s), .slice A2 n.ps.length c2] 33)).heap.size by simp]
      exact heap_alloc_new _ _
    have hb : Below w.heap.size w (((w.alloc (.cells #[.string (bt m.t), .string (bt m.s), .slice A m.ps.length c] 33)).alloc (.cells #[.string (bt n.t), .string (bt n.s), .slice A2 n.ps.length c2] 33)).alloc (.cells #[.string ⟨#[]⟩, .string ⟨#[]⟩, .slice none 0 0] 33)) := ((below_box _ _).alloc (by simp) _).alloc (by simp; omega) _
    generalize (((w.alloc (.cells #[.string (bt m.t), .string (bt m.s), .slice A m.ps.length c] 33)).alloc (.cells #[.string (bt n.t), .string (bt n.s), .slice A2 n.ps.length c2] 33)).alloc (.cells #[.string ⟨#[]⟩, .string ⟨#[]⟩, .slice none 0 0] 33)) = W at *
    obtain ⟨p0, p1, p2, pz, plt⟩ := mim_cells hP
    obtain ⟨n0, n1, n2, nz, nlt⟩ := mim_cells hN
    obtain ⟨r0, r1, r2, rz, rlt⟩ := mim_cells hR
    go_wp2_with fail
    refine (HPA.out _ hb).mono ?_
    rintro e w1 ⟨rfl, hbn⟩
    clear p0 p1 p2 pz plt n0 n1 n2 nz nlt r0 r1 r2 rz rlt
    have hP := (hbn.block _ (Array.getElem?_eq_some_iff.1 hP).1).trans hP
    have hN := (hbn.block _ (Array.getElem?_eq_some_iff.1 hN).1).trans hN
    have hR := (hbn.block _ (Array.getElem?_eq_some_iff.1 hR).1).trans hR
    have hb := hb.trans (hbn.mono hb.size)
    clear hbn
    obtain ⟨p0, p1, p2, pz, plt⟩ := mim_cells hP
    obtain ⟨n0, n1, n2, nz, nlt⟩ := mim_cells hN
    obtain ⟨r0, r1, r2, rz, rlt⟩ := mim_cells hR
    go_upto_region 2 with fail
    have hx := @InB.cells w1
    refine wp_region_inb (by kernel_rfl) (by kernel_rfl) ?_; (repeat (first | go_big_quiet_skip | (go_big_quiet_want; go_big_quiet_op; first | go_big_quiet_on | (apply Exists.intro; refine ⟨fun x => ?_, ?_⟩; (· ((first | (go_at_call 41; with_reducible exact inb_call _ (HE1.out _)) | (go_at_call 41; with_reducible exact inb_call _ (HE2.out _))))); go_big_quiet_on)))); refine wpQuiet_nil ?_; intro _ hw'; obtain ⟨⟨wq, hbq⟩, rfl⟩ := hw'
    have hbn := hbq
    clear hx hbq
    clear p0 p1 p2 pz plt n0 n1 n2 nz nlt r0 r1 r2 rz rlt
    have hP := (hbn.block _ (Array.getElem?_eq_some_iff.1 hP).1).trans hP
    have hN := (hbn.block _ (Array.getElem?_eq_some_iff.1 hN).1).trans hN
    have hR := (hbn.block _ (Array.getElem?_eq_some_iff.1 hR).1).trans hR
    have hb := hb.trans (hbn.mono hb.size)
    clear hbn
    obtain ⟨p0, p1, p2, pz, plt⟩ := mim_cells hP
    obtain ⟨n0, n1, n2, nz, nlt⟩ := mim_cells hN
    obtain ⟨r0, r1, r2, rz, rlt⟩ := mim_cells hR
    have HO := Lib.hid (HOW.out _ hb)
    go_wp2_with fail
    refine HO.out.mono ?_
    rintro e w5 ⟨A3, c3, rfl, hA3, hbn, hf⟩
    unfold mimV
    have HF : Hid (∀ g, A3 = some ⟨g, 0, none⟩ → w.heap.size + 1 + 1 < g) := Lib.hid (fun g hg => by have := hf g hg; omega)
    have HA3 := Lib.hid hA3
    clear hA3 hf
    clear p0 p1 p2 pz plt n0 n1 n2 nz nlt r0 r1 r2 rz rlt
    have hP := (hbn.block _ (Array.getElem?_eq_some_iff.1 hP).1).trans hP
    have hN := (hbn.block _ (Array.getElem?_eq_some_iff.1 hN).1).trans hN
    have hR := (hbn.block _ (Array.getElem?_eq_some_iff.1 hR).1).trans hR
    have hb := hb.trans (hbn.mono hb.size)
    clear hbn
    have HB := Lib.hid hb
    obtain ⟨p0, p1, p2, pz, plt⟩ := mim_cells hP
    obtain ⟨n0, n1, n2, nz, nlt⟩ := mim_cells hN
    obtain ⟨r0, r1, r2, rz, rlt⟩ := mim_cells hR
    go_wp2_with fail
    refine bodyPost_ret (v := .tuple #[mimV n A3 c3, .string (bt (setOf n))]) ?_ rfl ?_
    · simp [results, Try.results28, go_sem, r0, r1, r2, mimV]
    · have hf : ∀ g, A3 = some ⟨g, 0, none⟩ → w.heap.size + 1 + 1 ≠ g := fun g hg => by have := HF.out g hg; omega
      refine ⟨A3, c3, by rw [HV.out], ?_, ?_, fun g hg => by have := HF.out g hg; omega⟩
      · rw [HV.out]
        exact (((HA3.out.set hf _).set hf _).set hf _).more (by simp)
      · exact ((HB.out.setCell (show w.heap.size ≤ w.heap.size + 1 + 1 by omega) _).setCell (show w.heap.size ≤ w.heap.size + 1 + 1 by omega) _).setCell (show w.heap.size ≤ w.heap.size + 1 + 1 by omega) _

end Go.Proofs.Ytdkkbibdjagjjaa
