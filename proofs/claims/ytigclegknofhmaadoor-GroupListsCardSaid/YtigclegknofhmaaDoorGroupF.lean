/-
  Gathered by wip/tools/gather.py: what the statements of this seat want of other texts.
-/
import Derived.Test.YtigclegknofhmaaDoorStrs
import Derived.Test.YtigclegknofhmaaDoorLastIn
import Derived.Test.YtigclegknofhmaaDoorTailIn
import Derived.Test.YtigclegknofhmaaDoorClassB
import Derived.Test.YtigclegknofhmaaDoorClassC
import Derived.Deep.AppendLies
import Derived.Deep.RegionWith
import Derived.Deep.RegionHeld3
import Derived.Deep.DeepCutAuto
import Derived.Deep.Onto
import Derived.Deep.Slices
import Derived.Lib.SmallJoins
namespace Go.Proofs.YtigclegknofhmaaDoor
open Go.RowKit
set_option linter.unusedSimpArgs false
set_option linter.unusedVariables false

theorem row_stands {w w' : World} {base : Nat} {e : TypeId} {z n : Nat} {r : Value} {xs : List Value} (h : w.ownsRow base e z r n xs) (hk : ∀ k, r.ownBlock = some k → k < w.heap.size → w'.heap[k]? = w.heap[k]?) : w'.ownsRow base e z r n xs := by
  obtain ⟨q1, q2⟩ := h
  refine ⟨q1, ?_⟩
  rcases q2 with q2 | ⟨g', cap', cur, q2, q3, q4, q5⟩
  · exact .inl q2
  · subst q2
    exact .inr ⟨g', cap', cur, rfl, q3, (hk g' rfl (Array.getElem?_eq_some_iff.1 q4).1).trans q4, q5⟩

/-- Bytes as a text. -/
def bt (l : List UInt8) : ByteArray := ⟨l.toArray⟩

theorem list_bt (s : ByteArray) : bt s.data.toList = s := rfl

theorem bt_size (l : List UInt8) : (bt l).size = l.length := rfl

abbrev Pars := List (List UInt8 × List UInt8)

structure MimeL where
  t : List UInt8
  s : List UInt8
  ps : Pars

/-- Parameters lie from a block's head on. -/
def ParsAt (w : World) (B : Nat) (A : Option Addr) (l : Pars) : Prop :=
  l = [] ∨ ∃ g, A = some ⟨g, 0, none⟩ ∧ g < B ∧ ∀ i (h : i < l.length), w.cell? ⟨g, i * 2, none⟩ = some (.string (bt l[i].1)) ∧ w.cell? ⟨g, i * 2 + 1, none⟩ = some (.string (bt l[i].2))

theorem ParsAt.below {w w' : World} {B : Nat} {A : Option Addr} {l : Pars} (h : ParsAt w B A l) (hb : Below B w w') : ParsAt w' B A l := by
  rcases h with h | ⟨g, hA, hg, hc⟩
  · exact .inl h
  · refine .inr ⟨g, hA, hg, fun i hi => ?_⟩
    obtain ⟨h1, h2⟩ := hc i hi
    exact ⟨by rw [cell_below hb hg]; exact h1, by rw [cell_below hb hg]; exact h2⟩

theorem ParsAt.more {w : World} {B B' : Nat} {A : Option Addr} {l : Pars} (h : ParsAt w B A l) (hB : B ≤ B') : ParsAt w B' A l := by
  rcases h with h | ⟨g, hA, hg, hc⟩
  · exact .inl h
  · exact .inr ⟨g, hA, by omega, hc⟩

/-- Parameters that are there, whatever has been made since. -/
theorem ParsAt.on {w w' : World} {A : Option Addr} {l : Pars} (h : ParsAt w w.heap.size A l) (hb : Below w.heap.size w w') : ParsAt w' w'.heap.size A l :=
  (h.below hb).more hb.size

def SizesP (l : Pars) : Prop := l.length ≤ 1000 ∧ ∀ p ∈ l, p.1.length ≤ 1000 ∧ p.2.length ≤ 1000

structure SizesM (m : MimeL) : Prop where
  t : m.t.length ≤ 1000
  s : m.s.length ≤ 1000
  ps : SizesP m.ps

def mimV (m : MimeL) (A : Option Addr) (c : Nat) : Value := .agg #[.string (bt m.t), .string (bt m.s), .slice A m.ps.length c]

theorem eq_text (a : List UInt8) (s : ByteArray) : ((bt a).toList == s.toList) = (a == s.data.toList) := by
  rw [Lib.toList_data, Lib.toList_data]
  rfl

theorem infoPar : (Tryd.prog.info? 38).map (fun i => (i.zero, i.size, i.bytes)) = some (some (.agg #[.string ByteArray.empty, .string ByteArray.empty]), 2, 32) := by kernel_rfl

def parCells (p : List UInt8 × List UInt8) : List Value := [.string (bt p.1), .string (bt p.2)]

def rowQ (l : Pars) : List Value := l.flatMap parCells

theorem rowQ_snoc (l : Pars) (p : List UInt8 × List UInt8) : rowQ (l ++ [p]) = rowQ l ++ parCells p := by simp [rowQ]

theorem rowQ_at (l : Pars) (i : Nat) (hi : i < l.length) (j : Nat) (hj : j < 2) : (rowQ l)[i * 2 + j]? = (parCells l[i])[j]? := by
  induction l generalizing i with
  | nil => simp at hi
  | cons p r ih =>
    have hl : (parCells p).length = 2 := rfl
    cases i with
    | zero =>
      simp only [rowQ, List.flatMap_cons, Nat.zero_mul, Nat.zero_add, List.getElem_cons_zero]
      rw [List.getElem?_append_left (by omega)]
    | succ i =>
      simp only [rowQ, List.flatMap_cons, List.getElem_cons_succ]
      rw [List.getElem?_append_right (by omega), hl, show (i + 1) * 2 + j - 2 = i * 2 + j by omega]
      exact ih i (by simpa using hi)

theorem pars_of_own {w : World} {base : Nat} {e : TypeId} {v : Value} {l : Pars} {n : Nat} (h : w.ownsRow base e 2 v n (rowQ l)) (hn : n = l.length) : ∃ A c, v = .slice A l.length c ∧ ParsAt w w.heap.size A l := by
  subst hn
  have h' := h.2
  rcases h' with ⟨rfl, h0⟩ | ⟨g, cap, cur, rfl, _, hgb, _⟩
  · have : l = [] := List.eq_nil_of_length_eq_zero h0
    subst this
    exact ⟨none, 0, rfl, .inl rfl⟩
  · refine ⟨_, _, rfl, .inr ⟨g, rfl, (Array.getElem?_eq_some_iff.1 hgb).1, fun i hi => ?_⟩⟩
    have hc : ∀ j, j < 2 → w.cell? ⟨g, i * 2 + j, none⟩ = (parCells l[i])[j]? := fun j hj => by
      rw [h.cellAt (i * 2 + j) (by omega), rowQ_at l i hi j hj]
    exact ⟨by simpa [parCells] using hc 0 (by omega), by simpa [parCells] using hc 1 (by omega)⟩

theorem pars_stands {w : World} {base : Nat} {e : TypeId} {A : Option Addr} {c : Nat} {l : Pars} {n : Nat} (h : w.ownsRow base e 2 (.slice A n c) n (rowQ l)) (hn : n = l.length) : ParsAt w w.heap.size A l := by
  obtain ⟨A', c', hv, hp⟩ := pars_of_own h hn
  injection hv with h1 h2 h3
  rw [h1]; exact hp

theorem par_cells_new (W : World) (p : List UInt8 × List UInt8) (e : TypeId) : ∀ j u, (parCells p)[j]? = some u → (W.alloc (.cells #[.string (bt p.1), .string (bt p.2)] e)).cell? ((⟨W.heap.size, 0, none⟩ : Addr).add j) = some u := by
  intro j u hj
  rw [Addr.add_lit, Nat.zero_add, cell_of_row _ _ _ _ _ (0, 0) (heap_alloc_new W _)]
  simpa [parCells] using hj

theorem cut_bt (x : List UInt8) (n : Nat) : cutB (bt x) n = bt (x.take n) := by
  unfold cutB
  split
  · apply bytes_ext
    rw [Lib.extract_data]
    simp [bt]
  · rename_i h
    rw [bt_size] at h
    rw [List.take_of_length_le (by omega)]

def fewQ (p : List UInt8 × List UInt8) : List UInt8 × List UInt8 := (p.1.take 20, p.2.take 30)

def fewM (m : MimeL) : MimeL := ⟨m.t.take 30, m.s.take 30, (m.ps.take 6).map fewQ⟩

theorem fewM_idem (m : MimeL) : fewM (fewM m) = fewM m := by
  unfold fewM
  simp only [List.take_take, Nat.min_self, ← List.map_take, List.map_map]
  congr 1
  apply List.map_congr_left
  intro p _
  simp [fewQ, List.take_take]

theorem fewM_big (m : MimeL) : (bt (fewM m).t).size ≤ maxLen ∧ (bt (fewM m).s).size ≤ maxLen ∧ (fewM m).ps.length ≤ maxLen ∧ ∀ p ∈ (fewM m).ps, (bt p.1).size ≤ maxLen ∧ (bt p.2).size ≤ maxLen := by
  unfold maxLen
  refine ⟨?_, ?_, ?_, ?_⟩
  · rw [bt_size]; simp [fewM]; omega
  · rw [bt_size]; simp [fewM]; omega
  · simp [fewM]; omega
  · intro p hp
    simp only [fewM, List.mem_map] at hp
    obtain ⟨q, _, rfl⟩ := hp
    simp only [bt_size, fewQ, List.length_take]
    omega

theorem fewM_sizes (m : MimeL) : SizesM (fewM m) := by
  refine ⟨?_, ?_, ?_, ?_⟩
  · simp [fewM]; omega
  · simp [fewM]; omega
  · simp [fewM]; omega
  · intro p hp
    simp only [fewM, List.mem_map] at hp
    obtain ⟨q, _, rfl⟩ := hp
    simp [fewQ]; omega

/-- Parameters lie somewhere in a block. -/
def ParsIn (w : World) (B : Nat) (A : Option Addr) (l : Pars) : Prop :=
  l = [] ∨ ∃ g off, A = some ⟨g, off, none⟩ ∧ g < B ∧ ∀ i (h : i < l.length), w.cell? ⟨g, off + i * 2, none⟩ = some (.string (bt l[i].1)) ∧ w.cell? ⟨g, off + i * 2 + 1, none⟩ = some (.string (bt l[i].2))

theorem ParsIn.below {w w' : World} {B : Nat} {A : Option Addr} {l : Pars} (h : ParsIn w B A l) (hb : Below B w w') : ParsIn w' B A l := by
  rcases h with h | ⟨g, off, hA, hg, hc⟩
  · exact .inl h
  · refine .inr ⟨g, off, hA, hg, fun i hi => ?_⟩
    obtain ⟨h1, h2⟩ := hc i hi
    exact ⟨by rw [cell_below hb hg]; exact h1, by rw [cell_below hb hg]; exact h2⟩

theorem ParsIn.more {w : World} {B B' : Nat} {A : Option Addr} {l : Pars} (h : ParsIn w B A l) (hB : B ≤ B') : ParsIn w B' A l := by
  rcases h with h | ⟨g, off, hA, hg, hc⟩
  · exact .inl h
  · exact .inr ⟨g, off, hA, by omega, hc⟩

theorem ParsIn.on {w w' : World} {A : Option Addr} {l : Pars} (h : ParsIn w w.heap.size A l) (hb : Below w.heap.size w w') : ParsIn w' w'.heap.size A l :=
  (h.below hb).more hb.size

theorem ParsAt.isIn {w : World} {B : Nat} {A : Option Addr} {l : Pars} (h : ParsAt w B A l) : ParsIn w B A l := by
  rcases h with h | ⟨g, hA, hg, hc⟩
  · exact .inl h
  · exact .inr ⟨g, 0, hA, hg, fun i hi => by simpa using hc i hi⟩

/-- Texts that a machine can hold. -/
structure BigM (m : MimeL) : Prop where
  t : (bt m.t).size ≤ maxLen
  s : (bt m.s).size ≤ maxLen
  n : m.ps.length ≤ maxLen
  ps : ∀ p ∈ m.ps, (bt p.1).size ≤ maxLen ∧ (bt p.2).size ≤ maxLen

theorem take_len_few {l : Pars} {n : Nat} (hn : n ≤ l.length) (hn6 : n ≤ 6) (h : ¬(n < l.length ∧ n < 6)) : (l.take n).map fewQ = (l.take 6).map fewQ ∧ ((l.take 6).map fewQ).length = n := by
  have : l.take n = l.take 6 := by
    by_cases h6 : n = 6
    · rw [h6]
    · have : n = l.length := by omega
      rw [List.take_of_length_le (by omega), List.take_of_length_le (by omega)]
  refine ⟨by rw [this], ?_⟩
  rw [List.length_map, ← this, List.length_take]
  omega

theorem take_few_snoc (l : Pars) (n : Nat) (h : n < l.length) : rowQ ((l.take (n + 1)).map fewQ) = rowQ ((l.take n).map fewQ) ++ parCells (fewQ l[n]) := by
  rw [← rowQ_snoc]
  congr 1
  rw [← List.take_append_getElem h, List.map_append]
  rfl

theorem own_ne_of {v : Value} {g F k n c : Nat} (h : v.ownBlock = some g ∨ g = k) (hne : v.ownBlock ≠ some F) (hlt : F < k) : (Value.slice (some ⟨g, 0, none⟩) n c).ownBlock ≠ some F := by
  rcases h with h | h
  · intro e
    exact hne (by rw [h, ← e]; rfl)
  · simp [Value.ownBlock]; omega

/-- A row's head is laid into the block that names it. -/
theorem row_laid {w2 : World} {B F n : Nat} {T U : ByteArray} {v v2 : Value} {xs : List Value} {e ty : TypeId} (hF : w2.heap[F]? = some (.cells #[.string T, .string U, v] ty (0, 0))) (ho : w2.ownsRow B e 2 v2 n xs) (hne : v2.ownBlock ≠ some F) :
    (w2.setCell ⟨F, 2, none⟩ v2).heap[F]? = some (.cells #[.string T, .string U, v2] ty (0, 0)) ∧ (w2.setCell ⟨F, 2, none⟩ v2).ownsRow B e 2 v2 n xs := by
  refine ⟨by simp [World.setCell, Array.getElem?_modify, hF], row_stands ho (fun k hk _ => ?_)⟩
  have hkF : k ≠ F := fun e => hne (by rw [hk, e])
  simp [World.setCell, Array.getElem?_modify, Ne.symm hkF]

set_option maxHeartbeats 4000000 in
set_option maxRecDepth 20000 in
theorem Few10_own (m : MimeL) (A : Option Addr) (c : Nat) (w : World) (hm : BigM m) (hA : ParsIn w w.heap.size A m.ps) :
    Calls Tryd.prog 7 #[mimV m A c] w fun e w' => ∃ A2 c2, e = .returned (mimV (fewM m) A2 c2) ∧ ParsAt w' w'.heap.size A2 (fewM m).ps ∧ Below w.heap.size w w' ∧ (∀ g, A2 = some ⟨g, 0, none⟩ → w.heap.size ≤ g) ∧ w'.ownsRow w.heap.size 38 2 (.slice A2 (fewM m).ps.length c2) (fewM m).ps.length (rowQ (fewM m).ps) := by
  obtain ⟨i0, hi, hz0, hz1, hz2⟩ := info_parts infoPar
  have HI := Lib.hid hi; have HZ0 := Lib.hid hz0; have HZ1 := Lib.hid hz1; have HZ2 := Lib.hid hz2
  clear hi hz0 hz1 hz2
  have CT : Hid (∀ w, Calls Tryd.prog 41 #[.string (bt m.t), .int .i64 30] w fun e w' => e = .returned (.string (bt (m.t.take 30))) ∧ w = w') := Lib.hid (fun w => by have := Cut_any (bt m.t) 30 w hm.t (by decide); rw [cut_bt] at this; exact this)
  have CS : Hid (∀ w, Calls Tryd.prog 41 #[.string (bt m.s), .int .i64 30] w fun e w' => e = .returned (.string (bt (m.s.take 30))) ∧ w = w') := Lib.hid (fun w => by have := Cut_any (bt m.s) 30 w hm.s (by decide); rw [cut_bt] at this; exact this)
  have HPS := Lib.hid hm.ps
  have hlm := hm.n
  unfold fewM mimV
  dsimp only
  have HA := Lib.hid hA
  clear hA hm
  generalize bt m.t = T at *
  generalize bt m.s = U at *
  generalize bt (m.t.take 30) = T2 at *
  generalize bt (m.s.take 30) = U2 at *
  generalize m.ps = l at *
  go_enter Tryd.func7, Tryd.ntmps7
  go_upto_region 1 with fail
  generalize hW : (w.alloc (.cells #[.string T, .string U, .slice A l.length c] 24)).alloc (.cells #[.string ⟨#[]⟩, .string ⟨#[]⟩, .slice none 0 0] 24) = W
  have q0 : W.cell? ⟨w.heap.size, 0, none⟩ = some (.string T) := by rw [← hW]; simp [go_sem]
  have q1 : W.cell? ⟨w.heap.size, 1, none⟩ = some (.string U) := by rw [← hW]; simp [go_sem]
  have HQ2 : Hid (W.cell? ⟨w.heap.size, 2, none⟩ = some (.slice A l.length c)) := Lib.hid (by rw [← hW]; simp [go_sem])
  have HWB : Hid (Below w.heap.size w W) := Lib.hid (by rw [← hW]; exact (below_box _ _).alloc (by simp) _)
  have HQR : Hid (W.heap[w.heap.size + 1]? = some (.cells #[.string ⟨#[]⟩, .string ⟨#[]⟩, .slice none 0 0] 24 (0, 0))) := Lib.hid (by
    rw [← hW]
    have := heap_alloc_new (w.alloc (.cells #[.string T, .string U, .slice A l.length c] 24)) (.cells #[.string ⟨#[]⟩, .string ⟨#[]⟩, .slice none 0 0] 24)
    simpa using this)
  have HWZ : Hid (W.heap.size = w.heap.size + 2) := Lib.hid (by rw [← hW]; simp)
  clear hW
  go_cut [3] (fun v wx => v = .pointer (some ⟨W.heap.size, 0, none⟩) ∧ (W.alloc (.cells #[.string T2, .string U2, .slice none 0 0] 24)).drew = wx)
  case first =>
    go_region_held3 (fun w' => w'.cell? ⟨w.heap.size, 0, none⟩ = some (.string T) ∧ w'.cell? ⟨w.heap.size, 1, none⟩ = some (.string U))
      (first | go_keep) (first | (go_at_call 41; (with_reducible refine (CT.out _).mono ?_); rintro e w' ⟨rfl, rfl⟩) | (go_at_call 41; (with_reducible refine (CS.out _).mono ?_); rintro e w' ⟨rfl, rfl⟩))
    all_goals go_wp2_with fail
    all_goals go_meet
    all_goals exact ⟨rfl, rfl⟩
  obtain ⟨rfl, rfl⟩ := hcut
  have HST : Hid (∃ v, Below W.heap.size W (W.alloc (.cells #[.string T2, .string U2, .slice none 0 0] 24)).drew ∧ (W.alloc (.cells #[.string T2, .string U2, .slice none 0 0] 24)).drew.heap[W.heap.size]? = some (.cells #[.string T2, .string U2, v] 24 (0, 0)) ∧
      (W.alloc (.cells #[.string T2, .string U2, .slice none 0 0] 24)).drew.ownsRow W.heap.size 38 2 v 0 (rowQ ((l.take 0).map fewQ)) ∧ v.ownBlock ≠ some W.heap.size) :=
    Lib.hid ⟨.slice none 0 0, (below_box _ _).drew, heap_alloc_new W _, World.ownsRow_nil _ _ _ _, by simp [Value.ownBlock]⟩
  generalize (W.alloc (.cells #[.string T2, .string U2, .slice none 0 0] 24)).drew = W3 at *
  go_wp2_with fail
  go_loopw [4] (fun i wr => ∃ (n : Nat) (v : Value), n ≤ l.length ∧ n ≤ 6 ∧ i = .int .i64 n ∧ Below W.heap.size W wr ∧ wr.heap[W.heap.size]? = some (.cells #[.string T2, .string U2, v] 24 (0, 0)) ∧ wr.ownsRow W.heap.size 38 2 v n (rowQ ((l.take n).map fewQ)) ∧ v.ownBlock ≠ some W.heap.size) (fun i _ => 6 - (intOf i).toNat)
  case atStart =>
    obtain ⟨v, h1, h2, h3, h4⟩ := HST.out
    exact ⟨0, v, Nat.zero_le _, Nat.zero_le _, rfl, h1, h2, h3, h4⟩
  case round =>
    clear HST
    obtain ⟨n, v, hn, hn6, rfl, hb, hF, hrow, hne⟩ := hrel
    have HB := Lib.hid hb
    have HF := Lib.hid hF
    have HROW := Lib.hid hrow
    have HNE := Lib.hid hne
    have hz := hb.size
    have hwl : w.heap.size < W.heap.size := by have := HWZ.out; omega
    have d2 : wr.cell? ⟨w.heap.size, 2, none⟩ = some (.slice A l.length c) := by rw [cell_below hb (by omega)]; exact HQ2.out
    have f2 : wr.cell? ⟨W.heap.size, 2, none⟩ = some v := by rw [Lib.cell_of_heap hF]; rfl
    by_cases hlt : n < l.length ∧ n < 6
    · obtain ⟨hlt1, hlt2⟩ := hlt
      rcases (HA.out.below HWB.out).below (hb.mono (by omega)) with hnil | ⟨g, off, rfl, hg, hcs⟩
      · rw [hnil] at hlt1; simp at hlt1
      obtain ⟨c0, c1⟩ := hcs n hlt1
      have hsz := HPS.out l[n] (List.getElem_mem _)
      have C20 : Hid (∀ w, Calls Tryd.prog 41 #[.string (bt l[n].1), .int .i64 20] w fun e w' => e = .returned (.string (bt (l[n].1.take 20))) ∧ w = w') := Lib.hid (fun w => by have := Cut_any (bt l[n].1) 20 w hsz.1 (by decide); rw [cut_bt] at this; exact this)
      have C30 : Hid (∀ w, Calls Tryd.prog 41 #[.string (bt l[n].2), .int .i64 30] w fun e w' => e = .returned (.string (bt (l[n].2.take 30))) ∧ w = w') := Lib.hid (fun w => by have := Cut_any (bt l[n].2) 30 w hsz.2 (by decide); rw [cut_bt] at this; exact this)
      have c0' := c0
      have c1' := c1
      clear hcs hb hF hrow hne hsz CT CS
      have K0 : Hid ((wr.alloc (.cells #[.string (bt (l[n].1.take 20)), .string (bt (l[n].2.take 30))] 38)).drew.ownsRow W.heap.size 38 2 v n (rowQ ((l.take n).map fewQ))) := Lib.hid (HROW.out.alloc _)
      have K1 : Hid (∀ (j : Nat) (u : Value), (parCells (fewQ l[n]))[j]? = some u → (wr.alloc (.cells #[.string (bt (l[n].1.take 20)), .string (bt (l[n].2.take 30))] 38)).drew.cell? ((⟨wr.heap.size, 0, none⟩ : Addr).add j) = some u) := Lib.hid (par_cells_new wr (fewQ l[n]) 38)
      have K2 := Lib.hid (show ∀ u ∈ parCells (fewQ l[n]), u.oneCell' = true from by intro u hu; simp [parCells] at hu; rcases hu with rfl | rfl <;> rfl)
      have K3 := Lib.hid (show n + 1 ≤ maxLen from by unfold maxLen; omega)
      have K4 := Lib.hid (show (n + 1) * 32 ≤ 140737488355328 from by omega)
      have K5 : Hid (W.heap.size ≤ (wr.alloc (.cells #[.string (bt (l[n].1.take 20)), .string (bt (l[n].2.take 30))] 38)).drew.heap.size) := Lib.hid (by simp; omega)
      have K6 : Hid ((wr.alloc (.cells #[.string (bt (l[n].1.take 20)), .string (bt (l[n].2.take 30))] 38)).drew.heap.size = wr.heap.size + 1) := Lib.hid (by simp)
      have HW0 : Hid (W.cell? ⟨g, off + n * 2, none⟩ = some (.string (bt l[n].1))) := Lib.hid ((cell_below HB.out (by omega)).symm.trans c0)
      have HW1 : Hid (W.cell? ⟨g, off + n * 2 + 1, none⟩ = some (.string (bt l[n].2))) := Lib.hid ((cell_below HB.out (by omega)).symm.trans c1)
      have hwF : W.heap.size < wr.heap.size := (Array.getElem?_eq_some_iff.1 HF.out).1
      have HH : Hid ((wr.alloc (.cells #[.string (bt (l[n].1.take 20)), .string (bt (l[n].2.take 30))] 38)).drew.heap[W.heap.size]? = some (.cells #[.string T2, .string U2, v] 24 (0, 0))) := Lib.hid ((Below.heap_alloc wr _ W.heap.size hwF).trans HF.out)
      go_upto_region 5 with fail
      refine wp_region_N 20 (fun w' => w'.cell? ⟨w.heap.size, 2, none⟩ = some (.slice (some ⟨g, off, none⟩) l.length c) ∧ w'.cell? ⟨W.heap.size, 2, none⟩ = some v ∧ w'.cell? ⟨g, off + n * 2, none⟩ = some (.string (bt l[n].1)) ∧ w'.cell? ⟨g, off + n * 2 + 1, none⟩ = some (.string (bt l[n].2))) (by kernel_rfl) (by kernel_rfl) ⟨d2, f2, c0', c1'⟩ ?_
      (refine NJ.take (i := 0) (v := ?_) rfl rfl (by kernel_rfl) (by kernel_rfl) (by kernel_rfl) (by kernel_rfl) (fun _ _ _ h => h) (Or.inl ⟨by rfl, ?_⟩) ?_; rotate_left; (focus (intro wS hSw; (try dsimp only at hSw); go_simp; first | done | with_reducible rfl)); (try simp only [Act.put, List.getElem_toArray, List.getElem_cons_zero, List.getElem_cons_succ, List.setIfInBounds_toArray, List.set_cons_zero, List.set_cons_succ]))
      (refine NJ.take (i := 1) (v := ?_) rfl rfl (by kernel_rfl) (by kernel_rfl) (by kernel_rfl) (by kernel_rfl) (fun _ _ _ h => h) (Or.inl ⟨by rfl, ?_⟩) ?_; rotate_left; (focus (intro wS hSw; (try dsimp only at hSw); go_simp; first | done | with_reducible rfl)); (try simp only [Act.put, List.getElem_toArray, List.getElem_cons_zero, List.getElem_cons_succ, List.setIfInBounds_toArray, List.set_cons_zero, List.set_cons_succ]))
      (refine NJ.take (i := 2) (v := ?_) rfl rfl (by kernel_rfl) (by kernel_rfl) (by kernel_rfl) (by kernel_rfl) (fun _ _ _ h => h) (Or.inl ⟨by rfl, ?_⟩) ?_; rotate_left; (focus (intro wS hSw; (try dsimp only at hSw); go_simp; first | done | with_reducible rfl)); (try simp only [Act.put, List.getElem_toArray, List.getElem_cons_zero, List.getElem_cons_succ, List.setIfInBounds_toArray, List.set_cons_zero, List.set_cons_succ]))
      (refine NJ.take (i := 3) (v := ?_) rfl rfl (by kernel_rfl) (by kernel_rfl) (by kernel_rfl) (by kernel_rfl) (fun _ _ _ h => h) (Or.inl ⟨by rfl, ?_⟩) ?_; rotate_left; (focus (intro wS hSw; (try dsimp only at hSw); go_simp; first | done | with_reducible rfl)); (try simp only [Act.put, List.getElem_toArray, List.getElem_cons_zero, List.getElem_cons_succ, List.setIfInBounds_toArray, List.set_cons_zero, List.set_cons_succ]))
      (refine NJ.take (i := 4) (v := ?_) rfl rfl (by kernel_rfl) (by kernel_rfl) (by kernel_rfl) (by kernel_rfl) (fun _ _ _ h => h) (Or.inl ⟨by rfl, ?_⟩) ?_; rotate_left; (focus (intro wS hSw; (try dsimp only at hSw); go_simp; first | done | with_reducible rfl)); (try simp only [Act.put, List.getElem_toArray, List.getElem_cons_zero, List.getElem_cons_succ, List.setIfInBounds_toArray, List.set_cons_zero, List.set_cons_succ]))
      (refine NJ.take (i := 5) (v := ?_) rfl rfl (by kernel_rfl) (by kernel_rfl) (by kernel_rfl) (by kernel_rfl) (fun _ _ _ h => h) (Or.inl ⟨by rfl, ?_⟩) ?_; rotate_left; (focus (intro wS hSw; (try dsimp only at hSw); go_simp; first | done | with_reducible rfl)); (try simp only [Act.put, List.getElem_toArray, List.getElem_cons_zero, List.getElem_cons_succ, List.setIfInBounds_toArray, List.set_cons_zero, List.set_cons_succ]))
      (refine NJ.take (i := 6) (v := ?_) rfl rfl (by kernel_rfl) (by kernel_rfl) (by kernel_rfl) (by kernel_rfl) (fun _ _ _ h => h) (Or.inl ⟨by rfl, ?_⟩) ?_; rotate_left; (focus (intro wS hSw; (try dsimp only at hSw); go_simp; first | done | with_reducible rfl)); (try simp only [Act.put, List.getElem_toArray, List.getElem_cons_zero, List.getElem_cons_succ, List.setIfInBounds_toArray, List.set_cons_zero, List.set_cons_succ]))
      (refine NJ.take (i := 7) (v := ?_) rfl rfl (by kernel_rfl) (by kernel_rfl) (by kernel_rfl) (by kernel_rfl) (fun _ _ _ h => h) (Or.inl ⟨by rfl, ?_⟩) ?_; rotate_left; (focus (intro wS hSw; (try dsimp only at hSw); go_simp; first | done | with_reducible rfl)); (try simp only [Act.put, List.getElem_toArray, List.getElem_cons_zero, List.getElem_cons_succ, List.setIfInBounds_toArray, List.set_cons_zero, List.set_cons_succ]))
      (refine NJ.take (i := 9) (v := ?_) rfl rfl (by kernel_rfl) (by kernel_rfl) (by kernel_rfl) (by kernel_rfl) (fun _ _ _ h => h) (Or.inl ⟨by rfl, ?_⟩) ?_; rotate_left; (focus (intro wS hSw; (try dsimp only at hSw); go_simp; first | done | with_reducible rfl)); (try simp only [Act.put, List.getElem_toArray, List.getElem_cons_zero, List.getElem_cons_succ, List.setIfInBounds_toArray, List.set_cons_zero, List.set_cons_succ]))
      (refine NJ.take (i := 10) (v := ?_) rfl rfl (by kernel_rfl) (by kernel_rfl) (by kernel_rfl) (by kernel_rfl) (fun _ _ _ h => h) (Or.inl ⟨by rfl, ?_⟩) ?_; rotate_left; (focus (intro wS hSw; (try dsimp only at hSw); go_simp; first | done | with_reducible rfl)); (try simp only [Act.put, List.getElem_toArray, List.getElem_cons_zero, List.getElem_cons_succ, List.setIfInBounds_toArray, List.set_cons_zero, List.set_cons_succ]))
      (refine NJ.take (i := 11) (v := ?_) rfl rfl (by kernel_rfl) (by kernel_rfl) (by kernel_rfl) (by kernel_rfl) (fun _ _ _ h => h) (Or.inl ⟨by rfl, ?_⟩) ?_; rotate_left; (focus (intro wS hSw; (try dsimp only at hSw); go_simp; first | done | with_reducible rfl)); (try simp only [Act.put, List.getElem_toArray, List.getElem_cons_zero, List.getElem_cons_succ, List.setIfInBounds_toArray, List.set_cons_zero, List.set_cons_succ]))
      (refine NJ.take (i := 12) (v := ?_) rfl rfl (by kernel_rfl) (by kernel_rfl) (by kernel_rfl) (by kernel_rfl) (fun _ _ _ h => h) (Or.inl ⟨by rfl, ?_⟩) ?_; rotate_left; (focus (intro wS hSw; (try dsimp only at hSw); go_simp; first | done | with_reducible rfl)); (try simp only [Act.put, List.getElem_toArray, List.getElem_cons_zero, List.getElem_cons_succ, List.setIfInBounds_toArray, List.set_cons_zero, List.set_cons_succ]))
      (refine NJ.take (i := 13) (v := ?_) rfl rfl (by kernel_rfl) (by kernel_rfl) (by kernel_rfl) (by kernel_rfl) (fun _ _ _ h => h) (Or.inl ⟨by rfl, ?_⟩) ?_; rotate_left; (focus (intro wS hSw; (try dsimp only at hSw); go_simp; first | done | with_reducible rfl)); (try simp only [Act.put, List.getElem_toArray, List.getElem_cons_zero, List.getElem_cons_succ, List.setIfInBounds_toArray, List.set_cons_zero, List.set_cons_succ]))
      (refine NJ.take (i := 14) (v := ?_) rfl rfl (by kernel_rfl) (by kernel_rfl) (by kernel_rfl) (by kernel_rfl) (fun _ _ _ h => h) (Or.inl ⟨by rfl, ?_⟩) ?_; rotate_left; (focus (intro wS hSw; (try dsimp only at hSw); go_simp; first | done | with_reducible rfl)); (try simp only [Act.put, List.getElem_toArray, List.getElem_cons_zero, List.getElem_cons_succ, List.setIfInBounds_toArray, List.set_cons_zero, List.set_cons_succ]))
      (refine NJ.step (i := 8) rfl rfl (by kernel_rfl) (fun hSat K hK => ?_); go_simp; (go_at_call 41; (with_reducible refine (C20.out _).mono ?_); rintro e w' ⟨rfl, rfl⟩); go_wp2_with fail; refine hK.out _ _ ?_ ?_; (focus (exact hSat)); clear hK hSat K; (try simp only [Act.put, List.getElem_toArray, List.getElem_cons_zero, List.getElem_cons_succ, List.setIfInBounds_toArray, List.set_cons_zero, List.set_cons_succ]))
      (refine NJ.step (i := 15) rfl rfl (by kernel_rfl) (fun hSat K hK => ?_); go_simp; (go_at_call 41; (with_reducible refine (C30.out _).mono ?_); rintro e w' ⟨rfl, rfl⟩); go_wp2_with fail; refine hK.out _ _ ?_ ?_; (focus (exact hSat)); clear hK hSat K; (try simp only [Act.put, List.getElem_toArray, List.getElem_cons_zero, List.getElem_cons_succ, List.setIfInBounds_toArray, List.set_cons_zero, List.set_cons_succ]))
      (refine NJ.take (i := 16) (v := ?_) rfl rfl (by kernel_rfl) (by kernel_rfl) (by kernel_rfl) (by kernel_rfl) (fun _ _ _ h => h) (Or.inl ⟨by rfl, ?_⟩) ?_; rotate_left; (focus (intro wS hSw; (try dsimp only at hSw); go_simp; first | done | with_reducible rfl)); (try simp only [Act.put, List.getElem_toArray, List.getElem_cons_zero, List.getElem_cons_succ, List.setIfInBounds_toArray, List.set_cons_zero, List.set_cons_succ]))
      (refine NJ.step (i := 17) rfl rfl (by kernel_rfl) (fun hSat K hK => ?_); go_simp; refine hK.out _ _ ?_ ?_; (focus (first | exact hSat | go_keep)); clear hK hSat K; (try simp only [Act.put, List.getElem_toArray, List.getElem_cons_zero, List.getElem_cons_succ, List.setIfInBounds_toArray, List.set_cons_zero, List.set_cons_succ]))
      refine NJ.step (i := 18) rfl rfl (by kernel_rfl) (fun hSat K hK => ?_)
      (refine step_append_lies _ rfl (.tmp 24) (.tmp 40) 22 rfl W.heap.size 38 i0 (.agg #[.string ByteArray.empty, .string ByteArray.empty]) 2 32 Tryd.underlying22 HI.out HZ0.out HZ1.out HZ2.out rfl (by decide) v n (rowQ ((l.take n).map fewQ)) rfl K0.out ⟨wr.heap.size, 0, none⟩ 1 1 (parCells (fewQ l[n])) rfl rfl K1.out K2.out (by decide) K3.out K4.out K5.out (wr.heap.size + 1) K6.out ?_; intro g3 c3 w2 hown hgrow hat hlt3; have HO := Lib.hid hown; have HG := Lib.hid hgrow; have HAT := Lib.hid hat; have hh2 := (hgrow.block W.heap.size (by rw [K6.out]; omega) (fun e => HNE.out e.symm)).trans HH.out; have e2 : w2.cell? ⟨W.heap.size, 2, none⟩ = some v := (by rw [Lib.cell_of_heap hh2]; rfl); have fz : w2.frozen? ⟨W.heap.size, 2, none⟩ = false := Lib.frozen_of_heap hh2 2; have hbw2 := ((HB.out.alloc hz _).drew).grown hgrow (by rw [K6.out]; omega) (fun j hj => (HROW.out.lt j hj).1); have t2 : w2.cell? ⟨w.heap.size, 2, none⟩ = some (.slice (some ⟨g, off, none⟩) l.length c) := (by rw [cell_below hbw2 hwl]; exact HQ2.out); have t3 : w2.cell? ⟨g, off + n * 2, none⟩ = some (.string (bt l[n].1)) := (by rw [cell_below hbw2 (by omega)]; exact HW0.out); have t4 : w2.cell? ⟨g, off + n * 2 + 1, none⟩ = some (.string (bt l[n].2)) := (by rw [cell_below hbw2 (by omega)]; exact HW1.out); have t2s : ∀ u, (w2.setCell ⟨W.heap.size, 2, none⟩ u).cell? ⟨w.heap.size, 2, none⟩ = some (.slice (some ⟨g, off, none⟩) l.length c) := (fun u => by rw [World.cell?_setCell_far _ _ _ _ (by show W.heap.size ≠ w.heap.size; omega)]; exact t2); have t3s : ∀ u, (w2.setCell ⟨W.heap.size, 2, none⟩ u).cell? ⟨g, off + n * 2, none⟩ = some (.string (bt l[n].1)) := (fun u => by rw [World.cell?_setCell_far _ _ _ _ (by show W.heap.size ≠ g; omega)]; exact t3); have t4s : ∀ u, (w2.setCell ⟨W.heap.size, 2, none⟩ u).cell? ⟨g, off + n * 2 + 1, none⟩ = some (.string (bt l[n].2)) := (fun u => by rw [World.cell?_setCell_far _ _ _ _ (by show W.heap.size ≠ g; omega)]; exact t4); have HH2 := Lib.hid hh2; have HBW2 := Lib.hid hbw2; clear hown hgrow hat hh2 hbw2)
      refine hK.out _ _ ⟨t2, e2, t3, t4⟩ ?_
      clear hK hSat K
      (try simp only [Act.put, List.getElem_toArray, List.getElem_cons_zero, List.getElem_cons_succ, List.setIfInBounds_toArray, List.set_cons_zero, List.set_cons_succ])
      (refine NJ.take (i := 19) (v := ?_) rfl rfl (by kernel_rfl) (by kernel_rfl) (by kernel_rfl) (by kernel_rfl) (fun _ _ _ h => h) (Or.inl ⟨by rfl, ?_⟩) ?_; rotate_left; (focus (intro wS hSw; (try dsimp only at hSw); go_simp; first | done | with_reducible rfl)); (try simp only [Act.put, List.getElem_toArray, List.getElem_cons_zero, List.getElem_cons_succ, List.setIfInBounds_toArray, List.set_cons_zero, List.set_cons_succ]))
      (refine NJ.last rfl (by kernel_rfl) (by kernel_rfl) (fun hSat K hK => ?_); go_simp; refine hK.out _ _ ?_; clear hK hSat K; (try simp only [Act.put, List.getElem_toArray, List.getElem_cons_zero, List.getElem_cons_succ, List.setIfInBounds_toArray, List.set_cons_zero, List.set_cons_succ]))
      clear t2 t3 t4 t2s t3s t4s e2 fz c0 c1 f2 d2 c0' c1'
      all_goals have hsz2 : wr.heap.size + 1 ≤ w2.heap.size := by rw [← K6.out]; exact HG.out.size
      all_goals have hnf := own_ne_of (n := n + 1) (c := c3) HAT.out HNE.out (by omega)
      all_goals obtain ⟨X1, X2⟩ := row_laid HH2.out HO.out hnf
      all_goals have HX := Lib.hid (And.intro X1 (And.intro X2 (HBW2.out.setCell (p := ⟨W.heap.size, 2, none⟩) (Nat.le_refl _) (.slice (some ⟨g3, 0, none⟩) (n + 1) c3))))
      all_goals clear X1 X2
      all_goals generalize w2.setCell ⟨W.heap.size, 2, none⟩ (.slice (some ⟨g3, 0, none⟩) (n + 1) c3) = w3 at *
      all_goals go_wp2_with fail
      all_goals go_roundw
      all_goals first | exact ⟨n + 1, _, by omega, by omega, by go_num, HX.out.2.2, HX.out.1, (by rw [take_few_snoc l n hlt1]; exact HX.out.2.1), hnf⟩ | (simp [intOf]; omega)
    · obtain ⟨t1, t2⟩ := take_len_few hn hn6 hlt
      have HT1 := Lib.hid t1
      have HT2 := Lib.hid t2
      have hrow2 : wr.ownsRow W.heap.size 38 2 v n (rowQ ((l.take 6).map fewQ)) := by rw [← t1]; exact hrow
      obtain ⟨A2, c2, hv, hA2⟩ := pars_of_own hrow2 t2.symm
      have HR2 := Lib.hid hrow2
      have HA2 := Lib.hid hA2
      clear hrow2 hA2
      rw [t2] at hv
      subst hv
      have hf0 : wr.cell? ⟨W.heap.size, 0, none⟩ = some (.string T2) := by rw [Lib.cell_of_heap hF]; rfl
      have hf1 : wr.cell? ⟨W.heap.size, 1, none⟩ = some (.string U2) := by rw [Lib.cell_of_heap hF]; rfl
      have HRB : Hid (wr.heap[w.heap.size + 1]? = some (.cells #[.string ⟨#[]⟩, .string ⟨#[]⟩, .slice none 0 0] 24 (0, 0))) := Lib.hid ((hb.block _ (by have := HWZ.out; omega)).trans HQR.out)
      have g0 : wr.cell? ⟨w.heap.size + 1, 0, none⟩ = some (.string ⟨#[]⟩) := by rw [Lib.cell_of_heap HRB.out]; rfl
      have g1 : wr.cell? ⟨w.heap.size + 1, 1, none⟩ = some (.string ⟨#[]⟩) := by rw [Lib.cell_of_heap HRB.out]; rfl
      have g2 : wr.cell? ⟨w.heap.size + 1, 2, none⟩ = some (.slice none 0 0) := by rw [Lib.cell_of_heap HRB.out]; rfl
      have fz : ∀ o, wr.frozen? ⟨w.heap.size + 1, o, none⟩ = false := fun o => Lib.frozen_of_heap HRB.out o
      have hzw : w.heap.size + 1 < wr.heap.size := (Array.getElem?_eq_some_iff.1 HRB.out).1
      have hnr : w.heap.size + 1 ≠ W.heap.size := by have := HWZ.out; omega
      clear t1 t2 hF hb hrow hne
      have hlt' : (decide (n < l.length) && decide (n < 6)) = false := by
        by_cases h1 : n < l.length <;> by_cases h2 : n < 6 <;> simp [h1, h2] <;> exact hlt ⟨h1, h2⟩
      by_cases h1 : n < l.length
      · have h2 : ¬ n < 6 := fun h2 => hlt ⟨h1, h2⟩
        go_wp2_with fail
        refine bodyPost_ret (v := .agg #[.string T2, .string U2, .slice A2 n c2]) ?_ rfl ?_
        · simp [results, Tryd.results7, go_sem, g0, g1, g2]
        · have hown := row_stands (w' := ((wr.setCell ⟨w.heap.size + 1, 0, none⟩ (.string T2)).setCell ⟨w.heap.size + 1, 1, none⟩ (.string U2)).setCell ⟨w.heap.size + 1, 2, none⟩ (.slice A2 n c2)) HR2.out (fun k hk _ => by
            have h2 := (HR2.out.lt k hk).1
            have h3 : w.heap.size + 1 ≠ k := by omega
            simp [World.setCell, Array.getElem?_modify, h3])
          exact ⟨A2, c2, by rw [HT2.out], pars_stands hown HT2.out.symm, ((HWB.out.trans (HB.out.mono (by omega))).setCell (by simp) _ |>.setCell (by simp) _).setCell (by simp) _, fun q hq => (by subst hq; have := (HR2.out.lt q rfl).1; omega), by rw [HT2.out]; exact World.ownsRow.mono hown (by omega)⟩
      · go_wp2_with fail
        refine bodyPost_ret (v := .agg #[.string T2, .string U2, .slice A2 n c2]) ?_ rfl ?_
        · simp [results, Tryd.results7, go_sem, g0, g1, g2]
        · have hown := row_stands (w' := ((wr.setCell ⟨w.heap.size + 1, 0, none⟩ (.string T2)).setCell ⟨w.heap.size + 1, 1, none⟩ (.string U2)).setCell ⟨w.heap.size + 1, 2, none⟩ (.slice A2 n c2)) HR2.out (fun k hk _ => by
            have h2 := (HR2.out.lt k hk).1
            have h3 : w.heap.size + 1 ≠ k := by omega
            simp [World.setCell, Array.getElem?_modify, h3])
          exact ⟨A2, c2, by rw [HT2.out], pars_stands hown HT2.out.symm, ((HWB.out.trans (HB.out.mono (by omega))).setCell (by simp) _ |>.setCell (by simp) _).setCell (by simp) _, fun q hq => (by subst hq; have := (HR2.out.lt q rfl).1; omega), by rw [HT2.out]; exact World.ownsRow.mono hown (by omega)⟩

theorem Few10_any (m : MimeL) (A : Option Addr) (c : Nat) (w : World) (hm : BigM m) (hA : ParsIn w w.heap.size A m.ps) :
    Calls Tryd.prog 7 #[mimV m A c] w fun e w' => ∃ A2 c2, e = .returned (mimV (fewM m) A2 c2) ∧ ParsAt w' w'.heap.size A2 (fewM m).ps ∧ Below w.heap.size w w' ∧ ∀ g, A2 = some ⟨g, 0, none⟩ → w.heap.size ≤ g :=
  (Few10_own m A c w hm hA).mono fun e w' ⟨A2, c2, h1, h2, h3, h4, _⟩ => ⟨A2, c2, h1, h2, h3, h4⟩

theorem box_cells {w : World} {B : Nat} {a b c : Value} {t : TypeId} (h : w.heap[B]? = some (.cells #[a, b, c] t (0, 0))) : w.cell? ⟨B, 0, none⟩ = some a ∧ w.cell? ⟨B, 1, none⟩ = some b ∧ w.cell? ⟨B, 2, none⟩ = some c ∧ B < w.heap.size := by
  refine ⟨?_, ?_, ?_, (Array.getElem?_eq_some_iff.1 h).1⟩ <;> (rw [Lib.cell_of_heap h]; rfl)

theorem choose_ltP {α : Type} [Inhabited α] {n : Nat} {p : Nat → α → Prop} (h : ∀ i, i < n → ∃ x, p i x) : ∃ f : Nat → α, ∀ i, i < n → p i (f i) := by
  classical
  exact ⟨fun i => if hi : i < n then (h i hi).choose else default, fun i hi => by simp only [hi, dif_pos]; exact (h i hi).choose_spec⟩

open Go.ChangeShapes Go.WideShapes Go.Deep in
/-- A slice of structs of two texts, opened. -/
theorem open_parsV {H : Type} {enc : TypeId × Value → H} {P : Program} {w : World} {base : Nat} {spare : Nat → Bool} {held : Bool} {t e ts : TypeId} {f0 f1 : Field} {v : Value} {n : Nat} {y : DataW H × List MemPlace}
    (ht : P.underlying t = some (.slice e)) (he : P.underlying e = some (.struct #[f0, f1])) (ce : P.cellsOf e = 2) (o0 : f0.offset = 0) (o1 : f1.offset = 1)
    (t0 : f0.type = ts) (t1 : f1.type = ts) (cs : P.cellsOf ts = 1) (hs : P.underlying ts = some .string)
    (h : DataW.trod enc P w base spare held n t [v] = some y) :
    ∃ A c ps, v = .slice A ps.length c ∧ ParsIn w w.heap.size A ps ∧ (∀ p ∈ ps, (bt p.1).size ≤ maxLen ∧ (bt p.2).size ≤ maxLen) ∧ ps.length ≤ maxLen := by
  rcases open_slice ht h with ⟨h0, _⟩ | ⟨a, len, cap, m, n', D, Pl, hc, hb, hl, hm, hmm, _, hx⟩
  · simp at h0
    subst h0
    exact ⟨none, 0, [], rfl, .inl rfl, fun p hp => by simp at hp, Nat.zero_le _⟩
  simp at hc
  subst hc
  have hlm : len ≤ m := by rw [hmm]; split <;> omega
  have each : ∀ i, i < len → ∃ p : List UInt8 × List UInt8, w.cell? (a.add (i * 2)) = some (.string (bt p.1)) ∧ w.cell? (a.add (i * 2 + 1)) = some (.string (bt p.2)) ∧ (bt p.1).size ≤ maxLen ∧ (bt p.2).size ≤ maxLen := by
    intro i hi
    obtain ⟨cs', h1, h2⟩ := hx i (by omega)
    rw [ce] at h1
    obtain ⟨_, hlen, hcell⟩ := World.cells?_some h1
    obtain ⟨xs, k, hk, hxy, _, hxl, hf⟩ := DataW.trod_struct he h2
    match xs, hxl, cs', hlen with
    | [y0, y1], _, [v0, v1], _ =>
      have g0 := hf 0 f0 rfl
      have g1 := hf 1 f1 rfl
      simp [o0, o1, t0, t1, cs] at g0 g1
      have e0 := hcell 0 (by omega)
      have e1 := hcell 1 (by omega)
      rw [add_add] at e0 e1
      obtain ⟨b0, q0, _, s0⟩ := DataW.trod_string hs g0
      obtain ⟨b1, q1, _, s1⟩ := DataW.trod_string hs g1
      simp at q0 q1
      subst q0 q1
      exact ⟨(b0.data.toList, b1.data.toList), by rw [list_bt]; simpa using e0, by rw [list_bt]; simpa using e1, s0, s1⟩
  obtain ⟨f, hfs⟩ := choose_ltP each
  refine ⟨some a, cap, (List.range len).map f, by simp, ?_, ?_, by simp; omega⟩
  · by_cases hz : len = 0
    · subst hz; exact .inl rfl
    right
    have h0 := (hfs 0 (by omega)).1
    rw [Nat.zero_mul, show a.add 0 = a from rfl] at h0
    obtain ⟨b, off, sp⟩ := a
    have hsp : sp = none := by
      cases sp with
      | none => rfl
      | some k =>
        simp only [World.cell?] at h0
        split at h0 <;> simp at h0
    subst hsp
    refine ⟨b, off, rfl, lt_of_cell h0, fun i hi => ?_⟩
    have hi' : i < len := by simpa using hi
    obtain ⟨h1, h2, _⟩ := hfs i hi'
    simp only [List.getElem_map, List.getElem_range]
    have hadd : ∀ k, (⟨b, off, none⟩ : Addr).add k = ⟨b, off + k, none⟩ := fun k => by
      unfold Addr.add
      split
      · rename_i hk; subst hk; rfl
      · rfl
    rw [hadd] at h1 h2
    exact ⟨h1, h2⟩
  · intro p hp
    simp only [List.mem_map, List.mem_range] at hp
    obtain ⟨i, hi, rfl⟩ := hp
    exact (hfs i hi).2.2

end Go.Proofs.YtigclegknofhmaaDoor
