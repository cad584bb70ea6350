/-
  Lemmas of this claim, part 6: the texts MimeF, MimeG, one behind the other.
-/
import Derived.Test.YtdkkbibdjagjjaaM5
import Derived.Deep.RegionWith
import Derived.Deep.RegionHeld3
import Derived.Deep.DeepCutAuto
import Derived.Deep.AppendLies
import Derived.Deep.Onto
import Derived.Maps.AppendAt
import Derived.Laws.OwnMore

namespace Go.Proofs.Ytdkkbibdjagjjaa
open Go.RowKit
set_option linter.unusedSimpArgs false
set_option linter.unusedVariables false

theorem infoPar : (Try.prog.info? 52).map (fun i => (i.zero, i.size, i.bytes)) = some (some (.agg #[.string ByteArray.empty, .string ByteArray.empty]), 2, 32) := by kernel_rfl

def parCells (p : List UInt8 × List UInt8) : List Value := [.string (bt p.1), .string (bt p.2)]

def rowQ (l : Pars) : List Value := l.flatMap parCells

theorem rowQ_snoc (l : Pars) (p : List UInt8 × List UInt8) : rowQ (l ++ [p]) = rowQ l ++ parCells p := by simp [rowQ]

theorem rowQ_at (l : Pars) (i : Nat) (hi : i < l.length) (j : Nat) (hj : j < 2) : (rowQ l)[i * 2 + j]? = (parCells l[i])[j]? := by
  induction l generalizing i with
  | nil => simp at hi
  | cons p r ih =>
    have hl : (parCells p).length = 2 := rfl
    cases i with
    | zero =>
      simp only [rowQ, List.flatMap_cons, Nat.zero_mul, Nat.zero_add, List.getElem_cons_zero]
      rw [List.getElem?_append_left (by omega)]
    | succ i =>
      simp only [rowQ, List.flatMap_cons, List.getElem_cons_succ]
      rw [List.getElem?_append_right (by omega), hl, show (i + 1) * 2 + j - 2 = i * 2 + j by omega]
      exact ih i (by simpa using hi)

theorem pars_of_own {w : World} {base : Nat} {e : TypeId} {v : Value} {l : Pars} {n : Nat} (h : w.ownsRow base e 2 v n (rowQ l)) (hn : n = l.length) : ∃ A c, v = .slice A l.length c ∧ ParsAt w w.heap.size A l := by
  subst hn
  have h' := h.2
  rcases h' with ⟨rfl, h0⟩ | ⟨g, cap, cur, rfl, _, hgb, _⟩
  · have : l = [] := List.eq_nil_of_length_eq_zero h0
    subst this
    exact ⟨none, 0, rfl, .inl rfl⟩
  · refine ⟨_, _, rfl, .inr ⟨g, rfl, (Array.getElem?_eq_some_iff.1 hgb).1, fun i hi => ?_⟩⟩
    have hc : ∀ j, j < 2 → w.cell? ⟨g, i * 2 + j, none⟩ = (parCells l[i])[j]? := fun j hj => by
      rw [h.cellAt (i * 2 + j) (by omega), rowQ_at l i hi j hj]
    exact ⟨by simpa [parCells] using hc 0 (by omega), by simpa [parCells] using hc 1 (by omega)⟩

theorem pars_stands {w : World} {base : Nat} {e : TypeId} {A : Option Addr} {c : Nat} {l : Pars} {n : Nat} (h : w.ownsRow base e 2 (.slice A n c) n (rowQ l)) (hn : n = l.length) : ParsAt w w.heap.size A l := by
  obtain ⟨A', c', hv, hp⟩ := pars_of_own h hn
  injection hv with h1 h2 h3
  rw [h1]; exact hp

theorem par_cells_new (W : World) (p : List UInt8 × List UInt8) (e : TypeId) : ∀ j u, (parCells p)[j]? = some u → (W.alloc (.cells #[.string (bt p.1), .string (bt p.2)] e)).cell? ((⟨W.heap.size, 0, none⟩ : Addr).add j) = some u := by
  intro j u hj
  rw [Addr.add_lit, Nat.zero_add, cell_of_row _ _ _ _ _ (0, 0) (heap_alloc_new W _)]
  simpa [parCells] using hj

theorem cut_bt (x : List UInt8) (n : Nat) : cutB (bt x) n = bt (x.take n) := by
  unfold cutB
  split
  · apply bytes_ext
    rw [Lib.extract_data]
    simp [bt]
  · rename_i h
    rw [bt_size] at h
    rw [List.take_of_length_le (by omega)]

def fewQ (p : List UInt8 × List UInt8) : List UInt8 × List UInt8 := (p.1.take 20, p.2.take 30)

def fewM (m : MimeL) : MimeL := ⟨m.t.take 30, m.s.take 30, (m.ps.take 6).map fewQ⟩

theorem fewM_idem (m : MimeL) : fewM (fewM m) = fewM m := by
  unfold fewM
  simp only [List.take_take, Nat.min_self, ← List.map_take, List.map_map]
  congr 1
  apply List.map_congr_left
  intro p _
  simp [fewQ, List.take_take]

theorem fewM_big (m : MimeL) : (bt (fewM m).t).size ≤ maxLen ∧ (bt (fewM m).s).size ≤ maxLen ∧ (fewM m).ps.length ≤ maxLen ∧ ∀ p ∈ (fewM m).ps, (bt p.1).size ≤ maxLen ∧ (bt p.2).size ≤ maxLen := by
  unfold maxLen
  refine ⟨?_, ?_, ?_, ?_⟩
  · rw [bt_size]; simp [fewM]; omega
  · rw [bt_size]; simp [fewM]; omega
  · simp [fewM]; omega
  · intro p hp
    simp only [fewM, List.mem_map] at hp
    obtain ⟨q, _, rfl⟩ := hp
    simp only [bt_size, fewQ, List.length_take]
    omega

theorem fewM_sizes (m : MimeL) : SizesM (fewM m) := by
  refine ⟨?_, ?_, ?_, ?_⟩
  · simp [fewM]; omega
  · simp [fewM]; omega
  · simp [fewM]; omega
  · intro p hp
    simp only [fewM, List.mem_map] at hp
    obtain ⟨q, _, rfl⟩ := hp
    simp [fewQ]; omega

/-- Parameters lie somewhere in a block. -/
def ParsIn (w : World) (B : Nat) (A : Option Addr) (l : Pars) : Prop :=
  l = [] ∨ ∃ g off, A = some ⟨g, off, none⟩ ∧ g < B ∧ ∀ i (h : i < l.length), w.cell? ⟨g, off + i * 2, none⟩ = some (.string (bt l[i].1)) ∧ w.cell? ⟨g, off + i * 2 + 1, none⟩ = some (.string (bt l[i].2))

theorem ParsIn.below {w w' : World} {B : Nat} {A : Option Addr} {l : Pars} (h : ParsIn w B A l) (hb : Below B w w') : ParsIn w' B A l := by
  rcases h with h | ⟨g, off, hA, hg, hc⟩
  · exact .inl h
  · refine .inr ⟨g, off, hA, hg, fun i hi => ?_⟩
    obtain ⟨h1, h2⟩ := hc i hi
    exact ⟨by rw [cell_below hb hg]; exact h1, by rw [cell_below hb hg]; exact h2⟩

theorem ParsIn.more {w : World} {B B' : Nat} {A : Option Addr} {l : Pars} (h : ParsIn w B A l) (hB : B ≤ B') : ParsIn w B' A l := by
  rcases h with h | ⟨g, off, hA, hg, hc⟩
  · exact .inl h
  · exact .inr ⟨g, off, hA, by omega, hc⟩

theorem ParsIn.on {w w' : World} {A : Option Addr} {l : Pars} (h : ParsIn w w.heap.size A l) (hb : Below w.heap.size w w') : ParsIn w' w'.heap.size A l :=
  (h.below hb).more hb.size

theorem ParsAt.isIn {w : World} {B : Nat} {A : Option Addr} {l : Pars} (h : ParsAt w B A l) : ParsIn w B A l := by
  rcases h with h | ⟨g, hA, hg, hc⟩
  · exact .inl h
  · exact .inr ⟨g, 0, hA, hg, fun i hi => by simpa using hc i hi⟩

/-- Texts that a machine can hold. -/
structure BigM (m : MimeL) : Prop where
  t : (bt m.t).size ≤ maxLen
  s : (bt m.s).size ≤ maxLen
  n : m.ps.length ≤ maxLen
  ps : ∀ p ∈ m.ps, (bt p.1).size ≤ maxLen ∧ (bt p.2).size ≤ maxLen

theorem take_len_few {l : Pars} {n : Nat} (hn : n ≤ l.length) (hn6 : n ≤ 6) (h : ¬(n < l.length ∧ n < 6)) : (l.take n).map fewQ = (l.take 6).map fewQ ∧ ((l.take 6).map fewQ).length = n := by
  have : l.take n = l.take 6 := by
    by_cases h6 : n = 6
    · rw [h6]
    · have : n = l.length := by omega
      rw [List.take_of_length_le (by omega), List.take_of_length_le (by omega)]
  refine ⟨by rw [this], ?_⟩
  rw [List.length_map, ← this, List.length_take]
  omega

theorem take_few_snoc (l : Pars) (n : Nat) (h : n < l.length) : rowQ ((l.take (n + 1)).map fewQ) = rowQ ((l.take n).map fewQ) ++ parCells (fewQ l[n]) := by
  rw [← rowQ_snoc]
  congr 1
  rw [← List.take_append_getElem h, List.map_append]
  rfl

theorem own_ne_of {v : Value} {g F k n c : Nat} (h : v.ownBlock = some g ∨ g = k) (hne : v.ownBlock ≠ some F) (hlt : F < k) : (Value.slice (some ⟨g, 0, none⟩) n c).ownBlock ≠ some F := by
  rcases h with h | h
  · intro e
    exact hne (by rw [h, ← e]; rfl)
  · simp [Value.ownBlock]; omega

/-- A row's head is laid into the block that names it. -/
theorem row_laid {w2 : World} {B F n : Nat} {T U : ByteArray} {v v2 : Value} {xs : List Value} {e ty : TypeId} (hF : w2.heap[F]? = some (.cells #[.string T, .string U, v] ty (0, 0))) (ho : w2.ownsRow B e 2 v2 n xs) (hne : v2.ownBlock ≠ some F) :
    (w2.setCell ⟨F, 2, none⟩ v2).heap[F]? = some (.cells #[.string T, .string U, v2] ty (0, 0)) ∧ (w2.setCell ⟨F, 2, none⟩ v2).ownsRow B e 2 v2 n xs := by
  refine ⟨by simp [World.setCell, Array.getElem?_modify, hF], row_stands ho (fun k hk _ => ?_)⟩
  have hkF : k ≠ F := fun e => hne (by rw [hk, e])
  simp [World.setCell, Array.getElem?_modify, Ne.symm hkF]

set_option maxHeartbeats 4000000 in
set_option maxRecDepth 20000 in
theorem Few10_own (m : MimeL) (A : Option Addr) (c : Nat) (w : World) (hm : BigM m) (hA : ParsIn w w.heap.size A m.ps) :
    Calls Try.prog 13 #[mimV m A c] w fun e w' => ∃ A2 c2, e = .returned (mimV (fewM m) A2 c2) ∧ ParsAt w' w'.heap.size A2 (fewM m).ps ∧ Below w.heap.size w w' ∧ (∀ g, A2 = some ⟨g, 0, none⟩ → w.heap.size ≤ g) ∧ w'.ownsRow w.heap.size 52 2 (.slice A2 (fewM m).ps.length c2) (fewM m).ps.length (rowQ (fewM m).ps) := by
  obtain ⟨i0, hi, hz0, hz1, hz2⟩ := info_parts infoPar
  have HI := Lib.hid hi; have HZ0 := Lib.hid hz0; have HZ1 := Lib.hid hz1; have HZ2 := Lib.hid hz2
  clear hi hz0 hz1 hz2
  have CT : Hid (∀ w, Calls Try.prog 14 #[.string (bt m.t), .int .i64 30] w fun e w' => e = .returned (.string (bt (m.t.take 30))) ∧ w = w') := Lib.hid (fun w => by have := Cut_any (bt m.t) 30 w hm.t (by decide); rw [cut_bt] at this; exact this)
  have CS : Hid (∀ w, Calls Try.prog 14 #[.string (bt m.s), .int .i64 30] w fun e w' => e = .returned (.string (bt (m.s.take 30))) ∧ w = w') := Lib.hid (fun w => by have := Cut_any (bt m.s) 30 w hm.s (by decide); rw [cut_bt] at this; exact this)
  have HPS := Lib.hid hm.ps
  have hlm := hm.n
  unfold fewM mimV
  dsimp only
  have HA := Lib.hid hA
  clear hA hm
  generalize bt m.t = T at *
  generalize bt m.s = U at *
  generalize bt (m.t.take 30) = T2 at *
  generalize bt (m.s.take 30) = U2 at *
  generalize m.ps = l at *
  go_enter Try.func13, Try.ntmps13
  go_upto_region 1 with fail
  generalize hW : (w.alloc (.cells #[.string T, .string U, .slice A l.length c] 33)).alloc (.cells #[.string ⟨#[]⟩, .string ⟨#[]⟩, .slice none 0 0] 33) = W
  have q0 : W.cell? ⟨w.heap.size, 0, none⟩ = some (.string T) := by rw [← hW]; simp [go_sem]
  have q1 : W.cell? ⟨w.heap.size, 1, none⟩ = some (.string U) := by rw [← hW]; simp [go_sem]
  have HQ2 : Hid (W.cell? ⟨w.heap.size, 2, none⟩ = some (.slice A l.length c)) := Lib.hid (by rw [← hW]; simp [go_sem])
  have HWB : Hid (Below w.heap.size w W) := Lib.hid (by rw [← hW]; exact (below_box _ _).alloc (by simp) _)
  have HQR : Hid (W.heap[w.heap.size + 1]? = some (.cells #[.string ⟨#[]⟩, .string ⟨#[]⟩, .slice none 0 0] 33 (0, 0))) := Lib.hid (by
    rw [← hW]
    have := heap_alloc_new (w.alloc (.cells #[.string T, .string U, .slice A l.length c] 33)) (.cells #[.string ⟨#[]⟩, .string ⟨#[]⟩, .slice none 0 0] 33)
    simpa using this)
  have HWZ : Hid (W.heap.size = w.heap.size + 2) := Lib.hid (by rw [← hW]; simp)
  clear hW
  go_cut [3] (fun v wx => v = .pointer (some ⟨W.heap.size, 0, none⟩) ∧ (W.alloc (.cells #[.string T2, .string U2, .slice none 0 0] 33)).drew = wx)
  case first =>
    go_region_held3 (fun w' => w'.cell? ⟨w.heap.size, 0, none⟩ = some (.string T) ∧ w'.cell? ⟨w.heap.size, 1, none⟩ = some (.string U))
      (first | go_keep) (first | (go_at_call 14; (with_reducible refine (CT.out _).mono ?_); rintro e w' ⟨rfl, rfl⟩) | (go_at_call 14; (with_reducible refine (CS.out _).mono ?_); rintro e w' ⟨rfl, rfl⟩))
    all_goals go_wp2_with fail
    all_goals go_meet
    all_goals exact ⟨rfl, rfl⟩
  obtain ⟨rfl, rfl⟩ := hcut
  have HST : Hid (∃ v, Below W.heap.size W (W.alloc (.cells #[.string T2, .string U2, .slice none 0 0] 33)).drew ∧ (W.alloc (.cells #[.string T2, .string U2, .slice none 0 0] 33)).drew.heap[W.heap.size]? = some (.cells #[.string T2, .string U2, v] 33 (0, 0)) ∧
      (W.alloc (.cells #[.string T2, .string U2, .slice none 0 0] 33)).drew.ownsRow W.heap.size 52 2 v 0 (rowQ ((l.take 0).map fewQ)) ∧ v.ownBlock ≠ some W.heap.size) :=
    Lib.hid ⟨.slice none 0 0, (below_box _ _).drew, heap_alloc_new W _, World.ownsRow_nil _ _ _ _, by simp [Value.ownBlock]⟩
  generalize (W.alloc (.cells #[.string T2, .string U2, .slice none 0 0] 33)).drew = W3 at *
  go_wp2_with fail
  go_loopw [4] (fun i wr => ∃ (n : Nat) (v : Value), n ≤ l.length ∧ n ≤ 6 ∧ i = .int .i64 n ∧ Below W.heap.size W wr ∧ wr.heap[W.heap.size]? = some (.cells #[.string T2, .string U2, v] 33 (0, 0)) ∧ wr.ownsRow W.heap.size 52 2 v n (rowQ ((l.take n).map fewQ)) ∧ v.ownBlock ≠ some W.heap.size) (fun i _ => 6 - (intOf i).toNat)
  case atStart =>
    obtain ⟨v, h1, h2, h3, h4⟩ := HST.out
    exact ⟨0, v, Nat.zero_le _, Nat.zero_le _, rfl, h1, h2, h3, h4⟩
  case round =>
    clear HST
    obtain ⟨n, v, hn, hn6, rfl, hb, hF, hrow, hne⟩ := hrel
    have HB := Lib.hid hb
    have HF := Lib.hid hF
    have HROW := Lib.hid hrow
    have HNE := Lib.hid hne
    have hz := hb.size
    have hwl : w.heap.size < W.heap.size := by have := HWZ.out; omega
    have d2 : wr.cell? ⟨w.heap.size, 2, none⟩ = some (.slice A l.length c) := by rw [cell_below hb (by omega)]; exact HQ2.out
    have f2 : wr.cell? ⟨W.heap.size, 2, none⟩ = some v := by rw [Lib.cell_of_heap hF]; rfl
    by_cases hlt : n < l.length ∧ n < 6
    · obtain ⟨hlt1, hlt2⟩ := hlt
      rcases (HA.out.below HWB.out).below (hb.mono (by omega)) with hnil | ⟨g, off, rfl, hg, hcs⟩
      · rw [hnil] at hlt1; simp at hlt1
      obtain ⟨c0, c1⟩ := hcs n hlt1
      have hsz := HPS.out l[n] (List.getElem_mem _)
      have C20 : Hid (∀ w, Calls Try.prog 14 #[.string (bt l[n].1), .int .i64 20] w fun e w' => e = .returned (.string (bt (l[n].1.take 20))) ∧ w = w') := Lib.hid (fun w => by have := Cut_any (bt l[n].1) 20 w hsz.1 (by decide); rw [cut_bt] at this; exact this)
      have C30 : Hid (∀ w, Calls Try.prog 14 #[.string (bt l[n].2), .int .i64 30] w fun e w' => e = .returned (.string (bt (l[n].2.take 30))) ∧ w = w') := Lib.hid (fun w => by have := Cut_any (bt l[n].2) 30 w hsz.2 (by decide); rw [cut_bt] at this; exact this)
      have c0' := c0
      have c1' := c1
      clear hcs hb hF hrow hne hsz CT CS
      have K0 : Hid ((wr.alloc (.cells #[.string (bt (l[n].1.take 20)), .string (bt (l[n].2.take 30))] 52)).drew.ownsRow W.heap.size 52 2 v n (rowQ ((l.take n).map fewQ))) := Lib.hid (HROW.out.alloc _)
      have K1 : Hid (∀ (j : Nat) (u : Value), (parCells (fewQ l[n]))[j]? = some u → (wr.alloc (.cells #[.string (bt (l[n].1.take 20)), .string (bt (l[n].2.take 30))] 52)).drew.cell? ((⟨wr.heap.size, 0, none⟩ : Addr).add j) = some u) := Lib.hid (par_cells_new wr (fewQ l[n]) 52)
      have K2 := Lib.hid (show ∀ u ∈ parCells (fewQ l[n]), u.oneCell' = true from by intro u hu; simp [parCells] at hu; rcases hu with rfl | rfl <;> rfl)
      have K3 := Lib.hid (show n + 1 ≤ maxLen from by unfold maxLen; omega)
      have K4 := Lib.hid (show (n + 1) * 32 ≤ 140737488355328 from by omega)
      have K5 : Hid (W.heap.size ≤ (wr.alloc (.cells #[.string (bt (l[n].1.take 20)), .string (bt (l[n].2.take 30))] 52)).drew.heap.size) := Lib.hid (by simp; omega)
      have K6 : Hid ((wr.alloc (.cells #[.string (bt (l[n].1.take 20)), .string (bt (l[n].2.take 30))] 52)).drew.heap.size = wr.heap.size + 1) := Lib.hid (by simp)
      have HW0 : Hid (W.cell? ⟨g, off + n * 2, none⟩ = some (.string (bt l[n].1))) := Lib.hid ((cell_below HB.out (by omega)).symm.trans c0)
      have HW1 : Hid (W.cell? ⟨g, off + n * 2 + 1, none⟩ = some (.string (bt l[n].2))) := Lib.hid ((cell_below HB.out (by omega)).symm.trans c1)
      have hwF : W.heap.size < wr.heap.size := (Array.getElem?_eq_some_iff.1 HF.out).1
      have HH : Hid ((wr.alloc (.cells #[.string (bt (l[n].1.take 20)), .string (bt (l[n].2.take 30))] 52)).drew.heap[W.heap.size]? = some (.cells #[.string T2, .string U2, v] 33 (0, 0))) := Lib.hid ((Below.heap_alloc wr _ W.heap.size hwF).trans HF.out)
      go_upto_region 5 with fail
      refine wp_region_N 20 (fun w' => w'.cell? ⟨w.heap.size, 2, none⟩ = some (.slice (some ⟨g, off, none⟩) l.length c) ∧ w'.cell? ⟨W.heap.size, 2, none⟩ = some v ∧ w'.cell? ⟨g, off + n * 2, none⟩ = some (.string (bt l[n].1)) ∧ w'.cell? ⟨g, off + n * 2 + 1, none⟩ = some (.string (bt l[n].2))) (by kernel_rfl) (by kernel_rfl) ⟨d2, f2, c0', c1'⟩ ?_
      (refine NJ.take (i := 0) (v := ?_) rfl rfl (by kernel_rfl) (by kernel_rfl) (by kernel_rfl) (by kernel_rfl) (fun _ _ _ h => h) (Or.inl ⟨by rfl, ?_⟩) ?_; rotate_left; (focus (intro wS hSw; (try dsimp only at hSw); go_simp; first | done | with_reducible rfl)); (try simp only [Act.put, List.getElem_toArray, List.getElem_cons_zero, List.getElem_cons_succ, List.setIfInBounds_toArray, List.set_cons_zero, List.set_cons_succ]))
      (refine NJ.take (i := 1) (v := ?_) rfl rfl (by kernel_rfl) (by kernel_rfl) (by kernel_rfl) (by kernel_rfl) (fun _ _ _ h => h) (Or.inl ⟨by rfl, ?_⟩) ?_; rotate_left; (focus (intro wS hSw; (try dsimp only at hSw); go_simp; first | done | with_reducible rfl)); (try simp only [Act.put, List.getElem_toArray, List.getElem_cons_zero, List.getElem_cons_succ, List.setIfInBounds_toArray, List.set_cons_zero, List.set_cons_succ]))
      (refine NJ.take (i := 2) (v := ?_) rfl rfl (by kernel_rfl) (by kernel_rfl) (by kernel_rfl) (by kernel_rfl) (fun _ _ _ h => h) (Or.inl ⟨by rfl, ?_⟩) ?_; rotate_left; (focus (intro wS hSw; (try dsimp only at hSw); go_simp; first | done | with_reducible rfl)); (try simp only [Act.put, List.getElem_toArray, List.getElem_cons_zero, List.getElem_cons_succ, List.setIfInBounds_toArray, List.set_cons_zero, List.set_cons_succ]))
      (refine NJ.take (i := 3) (v := ?_) rfl rfl (by kernel_rfl) (by kernel_rfl) (by kernel_rfl) (by kernel_rfl) (fun _ _ _ h => h) (Or.inl ⟨by rfl, ?_⟩) ?_; rotate_left; (focus (intro wS hSw; (try dsimp only at hSw); go_simp; first | done | with_reducible rfl)); (try simp only [Act.put, List.getElem_toArray, List.getElem_cons_zero, List.getElem_cons_succ, List.setIfInBounds_toArray, List.set_cons_zero, List.set_cons_succ]))
      (refine NJ.take (i := 4) (v := ?_) rfl rfl (by kernel_rfl) (by kernel_rfl) (by kernel_rfl) (by kernel_rfl) (fun _ _ _ h => h) (Or.inl ⟨by rfl, ?_⟩) ?_; rotate_left; (focus (intro wS hSw; (try dsimp only at hSw); go_simp; first | done | with_reducible rfl)); (try simp only [Act.put, List.getElem_toArray, List.getElem_cons_zero, List.getElem_cons_succ, List.setIfInBounds_toArray, List.set_cons_zero, List.set_cons_succ]))
      (refine NJ.take (i := 5) (v := ?_) rfl rfl (by kernel_rfl) (by kernel_rfl) (by kernel_rfl) (by kernel_rfl) (fun _ _ _ h => h) (Or.inl ⟨by rfl, ?_⟩) ?_; rotate_left; (focus (intro wS hSw; (try dsimp only at hSw); go_simp; first | done | with_reducible rfl)); (try simp only [Act.put, List.getElem_toArray, List.getElem_cons_zero, List.getElem_cons_succ, List.setIfInBounds_toArray, List.set_cons_zero, List.set_cons_succ]))
      (refine NJ.take (i := 6) (v := ?_) rfl rfl (by kernel_rfl) (by kernel_rfl) (by kernel_rfl) (by kernel_rfl) (fun _ _ _ h => h) (Or.inl ⟨by rfl, ?_⟩) ?_; rotate_left; (focus (intro wS hSw; (try dsimp only at hSw); go_simp; first | done | with_reducible rfl)); (try simp only [Act.put, List.getElem_toArray, List.getElem_cons_zero, List.getElem_cons_succ, List.setIfInBounds_toArray, List.set_cons_zero, List.set_cons_succ]))
      (refine NJ.take (i := 7) (v := ?_) rfl rfl (by kernel_rfl) (by kernel_rfl) (by kernel_rfl) (by kernel_rfl) (fun _ _ _ h => h) (Or.inl ⟨by rfl, ?_⟩) ?_; rotate_left; (focus (intro wS hSw; (try dsimp only at hSw); go_simp; first | done | with_reducible rfl)); (try simp only [Act.put, List.getElem_toArray, List.getElem_cons_zero, List.getElem_cons_succ, List.setIfInBounds_toArray, List.set_cons_zero, List.set_cons_succ]))
      (refine NJ.take (i := 9) (v := ?_) rfl rfl (by kernel_rfl) (by kernel_rfl) (by kernel_rfl) (by kernel_rfl) (fun _ _ _ h => h) (Or.inl ⟨by rfl, ?_⟩) ?_; rotate_left; (focus (intro wS hSw; (try dsimp only at hSw); go_simp; first | done | with_reducible rfl)); (try simp only [Act.put, List.getElem_toArray, List.getElem_cons_zero, List.getElem_cons_succ, List.setIfInBounds_toArray, List.set_cons_zero, List.set_cons_succ]))
      (refine NJ.take (i := 10) (v := ?_) rfl rfl (by kernel_rfl) (by kernel_rfl) (by kernel_rfl) (by kernel_rfl) (fun _ _ _ h => h) (Or.inl ⟨by rfl, ?_⟩) ?_; rotate_left; (focus (intro wS hSw; (try dsimp only at hSw); go_simp; first | done | with_reducible rfl)); (try simp only [Act.put, List.getElem_toArray, List.getElem_cons_zero, List.getElem_cons_succ, List.setIfInBounds_toArray, List.set_cons_zero, List.set_cons_succ]))
      (refine NJ.take (i := 11) (v := ?_) rfl rfl (by kernel_rfl) (by kernel_rfl) (by kernel_rfl) (by kernel_rfl) (fun _ _ _ h => h) (Or.inl ⟨by rfl, ?_⟩) ?_; rotate_left; (focus (intro wS hSw; (try dsimp only at hSw); go_simp; first | done | with_reducible rfl)); (try simp only [Act.put, List.getElem_toArray, List.getElem_cons_zero, List.getElem_cons_succ, List.setIfInBounds_toArray, List.set_cons_zero, List.set_cons_succ]))
      (refine NJ.take (i := 12) (v := ?_) rfl rfl (by kernel_rfl) (by kernel_rfl) (by kernel_rfl) (by kernel_rfl) (fun _ _ _ h => h) (Or.inl ⟨by rfl, ?_⟩) ?_; rotate_left; (focus (intro wS hSw; (try dsimp only at hSw); go_simp; first | done | with_reducible rfl)); (try simp only [Act.put, List.getElem_toArray, List.getElem_cons_zero, List.getElem_cons_succ, List.setIfInBounds_toArray, List.set_cons_zero, List.set_cons_succ]))
      (refine NJ.take (i := 13) (v := ?_) rfl rfl (by kernel_rfl) (by kernel_rfl) (by kernel_rfl) (by kernel_rfl) (fun _ _ _ h => h) (Or.inl ⟨by rfl, ?_⟩) ?_; rotate_left; (focus (intro wS hSw; (try dsimp only at hSw); go_simp; first | done | with_reducible rfl)); (try simp only [Act.put, List.getElem_toArray, List.getElem_cons_zero, List.getElem_cons_succ, List.setIfInBounds_toArray, List.set_cons_zero, List.set_cons_succ]))
      (refine NJ.take (i := 14) (v := ?_) rfl rfl (by kernel_rfl) (by kernel_rfl) (by kernel_rfl) (by kernel_rfl) (fun _ _ _ h => h) (Or.inl ⟨by rfl, ?_⟩) ?_; rotate_left; (focus (intro wS hSw; (try dsimp only at hSw); go_simp; first | done | with_reducible rfl)); (try simp only [Act.put, List.getElem_toArray, List.getElem_cons_zero, List.getElem_cons_succ, List.setIfInBounds_toArray, List.set_cons_zero, List.set_cons_succ]))
      (refine NJ.step (i := 8) rfl rfl (by kernel_rfl) (fun hSat K hK => ?_); go_simp; (go_at_call 14; (with_reducible refine (C20.out _).mono ?_); rintro e w' ⟨rfl, rfl⟩); go_wp2_with fail; refine hK.out _ _ ?_ ?_; (focus (exact hSat)); clear hK hSat K; (try simp only [Act.put, List.getElem_toArray, List.getElem_cons_zero, List.getElem_cons_succ, List.setIfInBounds_toArray, List.set_cons_zero, List.set_cons_succ]))
      (refine NJ.step (i := 15) rfl rfl (by kernel_rfl) (fun hSat K hK => ?_); go_simp; (go_at_call 14; (with_reducible refine (C30.out _).mono ?_); rintro e w' ⟨rfl, rfl⟩); go_wp2_with fail; refine hK.out _ _ ?_ ?_; (focus (exact hSat)); clear hK hSat K; (try simp only [Act.put, List.getElem_toArray, List.getElem_cons_zero, List.getElem_cons_succ, List.setIfInBounds_toArray, List.set_cons_zero, List.set_cons_succ]))
      (refine NJ.take (i := 16) (v := ?_) rfl rfl (by kernel_rfl) (by kernel_rfl) (by kernel_rfl) (by kernel_rfl) (fun _ _ _ h => h) (Or.inl ⟨by rfl, ?_⟩) ?_; rotate_left; (focus (intro wS hSw; (try dsimp only at hSw); go_simp; first | done | with_reducible rfl)); (try simp only [Act.put, List.getElem_toArray, List.getElem_cons_zero, List.getElem_cons_succ, List.setIfInBounds_toArray, List.set_cons_zero, List.set_cons_succ]))
      (refine NJ.step (i := 17) rfl rfl (by kernel_rfl) (fun hSat K hK => ?_); go_simp; refine hK.out _ _ ?_ ?_; (focus (first | exact hSat | go_keep)); clear hK hSat K; (try simp only [Act.put, List.getElem_toArray, List.getElem_cons_zero, List.getElem_cons_succ, List.setIfInBounds_toArray, List.set_cons_zero, List.set_cons_succ]))
      refine NJ.step (i := 18) rfl rfl (by kernel_rfl) (fun hSat K hK => ?_)
      (refine step_append_lies _ rfl (.tmp 24) (.tmp 40) 31 rfl W.heap.size 52 i0 (.agg #[.string ByteArray.empty, .string ByteArray.empty]) 2 32 Try.underlying31 HI.out HZ0.out HZ1.out HZ2.out rfl (by decide) v n (rowQ ((l.take n).map fewQ)) rfl K0.out ⟨wr.heap.size, 0, none⟩ 1 1 (parCells (fewQ l[n])) rfl rfl K1.out K2.out (by decide) K3.out K4.out K5.out (wr.heap.size + 1) K6.out ?_; intro g3 c3 w2 hown hgrow hat hlt3; have HO := Lib.hid hown; have HG := Lib.hid hgrow; have HAT := Lib.hid hat; have hh2 := (hgrow.block W.heap.size (by rw [K6.out]; omega) (fun e => HNE.out e.symm)).trans HH.out; have e2 : w2.cell? ⟨W.heap.size, 2, none⟩ = some v := (by rw [Lib.cell_of_heap hh2]; rfl); have fz : w2.frozen? ⟨W.heap.size, 2, none⟩ = false := Lib.frozen_of_heap hh2 2; have hbw2 := ((HB.out.alloc hz _).drew).grown hgrow (by rw [K6.out]; omega) (fun j hj => (HROW.out.lt j hj).1); have t2 : w2.cell? ⟨w.heap.size, 2, none⟩ = some (.slice (some ⟨g, off, none⟩) l.length c) := (by rw [cell_below hbw2 hwl]; exact HQ2.out); have t3 : w2.cell? ⟨g, off + n * 2, none⟩ = some (.string (bt l[n].1)) := (by rw [cell_below hbw2 (by omega)]; exact HW0.out); have t4 : w2.cell? ⟨g, off + n * 2 + 1, none⟩ = some (.string (bt l[n].2)) := (by rw [cell_below hbw2 (by omega)]; exact HW1.out); have t2s : ∀ u, (w2.setCell ⟨W.heap.size, 2, none⟩ u).cell? ⟨w.heap.size, 2, none⟩ = some (.slice (some ⟨g, off, none⟩) l.length c) := (fun u => by rw [World.cell?_setCell_far _ _ _ _ (by show W.heap.size ≠ w.heap.size; omega)]; exact t2); have t3s : ∀ u, (w2.setCell ⟨W.heap.size, 2, none⟩ u).cell? ⟨g, off + n * 2, none⟩ = some (.string (bt l[n].1)) := (fun u => by rw [World.cell?_setCell_far _ _ _ _ (by show W.heap.size ≠ g; omega)]; exact t3); have t4s : ∀ u, (w2.setCell ⟨W.heap.size, 2, none⟩ u).cell? ⟨g, off + n * 2 + 1, none⟩ = some (.string (bt l[n].2)) := (fun u => by rw [World.cell?_setCell_far _ _ _ _ (by show W.heap.size ≠ g; omega)]; exact t4); have HH2 := Lib.hid hh2; have HBW2 := Lib.hid hbw2; clear hown hgrow hat hh2 hbw2)
      refine hK.out _ _ ⟨t2, e2, t3, t4⟩ ?_
      clear hK hSat K
      (try simp only [Act.put, List.getElem_toArray, List.getElem_cons_zero, List.getElem_cons_succ, List.setIfInBounds_toArray, List.set_cons_zero, List.set_cons_succ])
      (refine NJ.take (i := 19) (v := ?_) rfl rfl (by kernel_rfl) (by kernel_rfl) (by kernel_rfl) (by kernel_rfl) (fun _ _ _ h => h) (Or.inl ⟨by rfl, ?_⟩) ?_; rotate_left; (focus (intro wS hSw; (try dsimp only at hSw); go_simp; first | done | with_reducible rfl)); (try simp only [Act.put, List.getElem_toArray, List.getElem_cons_zero, List.getElem_cons_succ, List.setIfInBounds_toArray, List.set_cons_zero, List.set_cons_succ]))
      (refine NJ.last rfl (by kernel_rfl) (by kernel_rfl) (fun hSat K hK => ?_); go_simp; refine hK.out _ _ ?_; clear hK hSat K; (try simp only [Act.put, List.getElem_toArray, List.getElem_cons_zero, List.getElem_cons_succ, List.setIfInBounds_toArray, List.set_cons_zero, List.set_cons_succ]))
      clear t2 t3 t4 t2s t3s t4s e2 fz c0 c1 f2 d2 c0' c1'
      all_goals have hsz2 : wr.heap.size + 1 ≤ w2.heap.size := by rw [← K6.out]; exact HG.out.size
      all_goals have hnf := own_ne_of (n := n + 1) (c := c3) HAT.out HNE.out (by omega)
      all_goals obtain ⟨X1, X2⟩ := row_laid HH2.out HO.out hnf
      all_goals have HX := Lib.hid (And.intro X1 (And.intro X2 (HBW2.out.setCell (p := ⟨W.heap.size, 2, none⟩) (Nat.le_refl _) (.slice (some ⟨g3, 0, none⟩) (n + 1) c3))))
      all_goals clear X1 X2
      all_goals generalize w2.setCell ⟨W.heap.size, 2, none⟩ (.slice (some ⟨g3, 0, none⟩) (n + 1) c3) = w3 at *
      all_goals go_wp2_with fail
      all_goals go_roundw
      all_goals first | exact ⟨n + 1, _, by omega, by omega, by go_num, HX.out.2.2, HX.out.1, (by rw [take_few_snoc l n hlt1]; exact HX.out.2.1), hnf⟩ | (simp [intOf]; omega)
    · obtain ⟨t1, t2⟩ := take_len_few hn hn6 hlt
      have HT1 := Lib.hid t1
      have HT2 := Lib.hid t2
      have hrow2 : wr.ownsRow W.heap.size 52 2 v n (rowQ ((l.take 6).map fewQ)) := by rw [← t1]; exact hrow
      obtain ⟨A2, c2, hv, hA2⟩ := pars_of_own hrow2 t2.symm
      have HR2 := Lib.hid hrow2
      have HA2 := Lib.hid hA2
      clear hrow2 hA2
      rw [t2] at hv
      subst hv
      have hf0 : wr.cell? ⟨W.heap.size, 0, none⟩ = some (.string T2) := by rw [Lib.cell_of_heap hF]; rfl
      have hf1 : wr.cell? ⟨W.heap.size, 1, none⟩ = some (.string U2) := by rw [Lib.cell_of_heap hF]; rfl
      have HRB : Hid (wr.heap[w.heap.size + 1]? = some (.cells #[.string ⟨#[]⟩, .string ⟨#[]⟩, .slice none 0 0] 33 (0, 0))) := Lib.hid ((hb.block _ (by have := HWZ.out; omega)).trans HQR.out)
      have g0 : wr.cell? ⟨w.heap.size + 1, 0, none⟩ = some (.string ⟨#[]⟩) := by rw [Lib.cell_of_heap HRB.out]; rfl
      have g1 : wr.cell? ⟨w.heap.size + 1, 1, none⟩ = some (.string ⟨#[]⟩) := by rw [Lib.cell_of_heap HRB.out]; rfl
      have g2 : wr.cell? ⟨w.heap.size + 1, 2, none⟩ = some (.slice none 0 0) := by rw [Lib.cell_of_heap HRB.out]; rfl
      have fz : ∀ o, wr.frozen? ⟨w.heap.size + 1, o, none⟩ = false := fun o => Lib.frozen_of_heap HRB.out o
      have hzw : w.heap.size + 1 < wr.heap.size := (Array.getElem?_eq_some_iff.1 HRB.out).1
      have hnr : w.heap.size + 1 ≠ W.heap.size := by have := HWZ.out; omega
      clear t1 t2 hF hb hrow hne
      have hlt' : (decide (n < l.length) && decide (n < 6)) = false := by
        by_cases h1 : n < l.length <;> by_cases h2 : n < 6 <;> simp [h1, h2] <;> exact hlt ⟨h1, h2⟩
      by_cases h1 : n < l.length
      · have h2 : ¬ n < 6 := fun h2 => hlt ⟨h1, h2⟩
        go_wp2_with fail
        refine bodyPost_ret (v := .agg #[.string T2, .string U2, .slice A2 n c2]) ?_ rfl ?_
        · simp [results, Try.results13, go_sem, g0, g1, g2]
        · have hown := row_stands (w' := ((wr.setCell ⟨w.heap.size + 1, 0, none⟩ (.string T2)).setCell ⟨w.heap.size + 1, 1, none⟩ (.string U2)).setCell ⟨w.heap.size + 1, 2, none⟩ (.slice A2 n c2)) HR2.out (fun k hk _ => by
            have h2 := (HR2.out.lt k hk).1
            have h3 : w.heap.size + 1 ≠ k := by omega
            simp [World.setCell, Array.getElem?_modify, h3])
          exact ⟨A2, c2, by rw [HT2.out], pars_stands hown HT2.out.symm, ((HWB.out.trans (HB.out.mono (by omega))).setCell (by simp) _ |>.setCell (by simp) _).setCell (by simp) _, fun q hq => (by subst hq; have := (HR2.out.lt q rfl).1; omega), by rw [HT2.out]; exact World.ownsRow.mono hown (by omega)⟩
      · go_wp2_with fail
        refine bodyPost_ret (v := .agg #[.string T2, .string U2, .slice A2 n c2]) ?_ rfl ?_
        · simp [results, Try.results13, go_sem, g0, g1, g2]
        · have hown := row_stands (w' := ((wr.setCell ⟨w.heap.size + 1, 0, none⟩ (.string T2)).setCell ⟨w.heap.size + 1, 1, none⟩ (.string U2)).setCell ⟨w.heap.size + 1, 2, none⟩ (.slice A2 n c2)) HR2.out (fun k hk _ => by
            have h2 := (HR2.out.lt k hk).1
            have h3 : w.heap.size + 1 ≠ k := by omega
            simp [World.setCell, Array.getElem?_modify, h3])
          exact ⟨A2, c2, by rw [HT2.out], pars_stands hown HT2.out.symm, ((HWB.out.trans (HB.out.mono (by omega))).setCell (by simp) _ |>.setCell (by simp) _).setCell (by simp) _, fun q hq => (by subst hq; have := (HR2.out.lt q rfl).1; omega), by rw [HT2.out]; exact World.ownsRow.mono hown (by omega)⟩

theorem Few10_any (m : MimeL) (A : Option Addr) (c : Nat) (w : World) (hm : BigM m) (hA : ParsIn w w.heap.size A m.ps) :
    Calls Try.prog 13 #[mimV m A c] w fun e w' => ∃ A2 c2, e = .returned (mimV (fewM m) A2 c2) ∧ ParsAt w' w'.heap.size A2 (fewM m).ps ∧ Below w.heap.size w w' ∧ ∀ g, A2 = some ⟨g, 0, none⟩ → w.heap.size ≤ g :=
  (Few10_own m A c w hm hA).mono fun e w' ⟨A2, c2, h1, h2, h3, h4, _⟩ => ⟨A2, c2, h1, h2, h3, h4⟩

end Go.Proofs.Ytdkkbibdjagjjaa

namespace Go.Proofs.Ytdkkbibdjagjjaa
open Go.RowKit
set_option linter.unusedSimpArgs false
set_option linter.unusedVariables false

theorem rowQ_length (l : Pars) : (rowQ l).length = l.length * 2 := by
  induction l with
  | nil => rfl
  | cons p r ih =>
    have h : (parCells p).length = 2 := rfl
    simp only [rowQ, List.flatMap_cons, List.length_append, List.length_cons, h] at ih ⊢
    omega

theorem rowQ_cells (l : Pars) : ∀ u ∈ rowQ l, u.oneCell' = true := by
  intro u hu
  simp only [rowQ, List.mem_flatMap, parCells, List.mem_cons, List.mem_nil_iff, or_false] at hu
  obtain ⟨p, _, rfl | rfl⟩ := hu <;> rfl

theorem pars_cells {w : World} {B : Nat} {A : Addr} {l : Pars} (h : ParsAt w B (some A) l) : ∀ j u, (rowQ l)[j]? = some u → w.cell? (A.add j) = some u := by
  intro j u hj
  have hlt : j < (rowQ l).length := (List.getElem?_eq_some_iff.1 hj).1
  rw [rowQ_length] at hlt
  rcases h with h | ⟨g', hA, hg, hcs⟩
  · rw [h] at hlt; simp at hlt
  · simp only [Option.some.injEq] at hA
    subst hA
    rw [Addr.add_lit, Nat.zero_add]
    obtain ⟨c0, c1⟩ := hcs (j / 2) (by omega)
    have hj2 : (rowQ l)[j / 2 * 2 + j % 2]? = some u := by rw [← hj]; congr 1; omega
    rw [rowQ_at l (j / 2) (by omega) (j % 2) (by omega)] at hj2
    have hb : j % 2 = 0 ∨ j % 2 = 1 := by omega
    rcases hb with h0 | h0
    · rw [h0] at hj2
      rw [show j = j / 2 * 2 by omega, c0]
      simpa [parCells] using hj2
    · rw [h0] at hj2
      rw [show j = j / 2 * 2 + 1 by omega, c1]
      simpa [parCells] using hj2

/-- A value that is a row of parameters, the call's own. -/
def OwnPars (w : World) (B : Nat) (v : Value) (l : Pars) : Prop := w.ownsRow B 52 2 v l.length (rowQ l)

set_option maxRecDepth 20000 in
theorem ClonePar_any (l : Pars) (A : Option Addr) (c : Nat) (w : World) (hn : l.length ≤ 1100) (hA : ParsAt w w.heap.size A l) :
    Calls Try.prog 64 #[.slice A l.length c] w fun e w' => ∃ v, e = .returned v ∧ OwnPars w' w.heap.size v l ∧ Below w.heap.size w w' := by
  obtain ⟨i0, hi, hz0, hz1, hz2⟩ := info_parts infoPar
  have HI := Lib.hid hi; have HZ0 := Lib.hid hz0; have HZ1 := Lib.hid hz1; have HZ2 := Lib.hid hz2
  clear hi hz0 hz1 hz2
  have heq : ∀ w, (binOp .eql 31 (.slice A l.length c) (.slice none 0 0)).run Try.prog w = .ok (.bool A.isNone) w := fun w => Lib.run_eql_slice_nil w _ _ A l.length c 0 0 Try.underlying31
  have HA := Lib.hid hA
  clear hA
  unfold OwnPars
  rcases A with _ | ⟨⟨g, o, f⟩⟩
  · have hl : l = [] := by
      rcases HA.out with h | ⟨_, h, _⟩
      · exact h
      · simp at h
    subst hl
    clear HA
    simp only [List.length_nil, Option.isNone_none] at heq
    go_enter Try.func64, Try.ntmps64
    go_wp2_with fail
    go_ret
    exact ⟨_, rfl, World.ownsRow_nil _ _ _ _, Below.refl _ _⟩
  · simp only [Option.isNone_some] at heq
    go_enter Try.func64, Try.ntmps64
    have HM1 := Lib.hid (show 0 + l.length ≤ maxLen from by unfold maxLen; omega)
    have HM2 := Lib.hid (show (0 + l.length) * 32 ≤ 140737488355328 from by omega)
    have K1 := Lib.hid (World.ownsRow_lit (base := w.heap.size) (size := 2) (e := 52) w #[] 0 (Nat.le_refl _) (by decide) rfl)
    go_wp2_with (at_builtin; go_must (refine wpList_append_own_at _ rfl (.tmp 5) (.tmp 6) 31 rfl w.heap.size 52 i0 (.agg #[.string ByteArray.empty, .string ByteArray.empty]) 2 32 Try.underlying31 HI.out HZ0.out HZ1.out HZ2.out rfl (by decide) _ _ _ rfl K1.out _ _ _ (rowQ l) rfl (rowQ_length l) (pars_cells (HA.out.below (below_box w _))) (rowQ_cells l) HM1.out HM2.out (by simp) ?_; intro v2 w2 h1 h2 h3 h4; have H1 := Lib.hid h1; have H2 := Lib.hid h2; clear h1 h2 h3 h4))
    go_ret
    exact ⟨v2, rfl, by simpa using H1.out, (below_box w _).grown H2.out (by simp) (fun j hj => by simp [Act.eval, Value.ownBlock] at hj; omega)⟩

theorem parsOf {w : World} {B : Nat} {v : Value} {l : Pars} (h : OwnPars w B v l) : ∃ A c, v = .slice A l.length c ∧ ParsAt w w.heap.size A l := pars_of_own h rfl

def withM (m : MimeL) (n v : List UInt8) : MimeL := ⟨m.t, m.s, m.ps ++ [(n, v)]⟩

def noM : MimeL := ⟨[], [], []⟩

def withR (m : MimeL) (n v : List UInt8) : MimeL × Nat :=
  if goodL (withM m n v) then (withM m n v, 0) else if goodL m && decide (0 ≤ atL m.ps n) && quoL v then (noM, 7) else (noM, 2)

theorem heap_new2 (Z : World) (o : Obj) (k : Nat) (hk : k = Z.heap.size) : (Z.alloc o).heap[k]? = some o := by subst hk; exact heap_alloc_new Z o

theorem heap_drew1 {Z : World} {k : Nat} {r : Option Obj} (h : Z.heap[k]? = r) : Z.drew.heap[k]? = r := h

theorem heap_old (Z : World) (o : Obj) {k : Nat} {r : Obj} (h : Z.heap[k]? = some r) : (Z.alloc o).heap[k]? = some r := (Below.heap_alloc Z o k (Array.getElem?_eq_some_iff.1 h).1).trans h

theorem clone_step {W X w1 : World} {v : Value} {l : Pars} (hX : Below W.heap.size W X) (ho : OwnPars w1 X.heap.size v l) (hb : Below X.heap.size X w1) :
    w1.ownsRow W.heap.size 52 2 v l.length (rowQ l) ∧ Below W.heap.size W w1 ∧ (∀ g, g < X.heap.size → w1.heap[g]? = X.heap[g]?) ∧ (∀ g, (g < X.heap.size ∨ w1.heap.size ≤ g) → v.ownBlock ≠ some g) ∧ W.heap.size ≤ w1.heap.size ∧ X.heap.size ≤ w1.heap.size :=
  ⟨World.ownsRow.mono ho hX.size, hX.trans (hb.mono hX.size), fun g hg => hb.block g hg, fun g hg e => by have := World.ownsRow.lt ho g e; omega, Nat.le_trans hX.size hb.size, hb.size⟩

theorem bl0 (W : World) : Below W.heap.size W W.drew := (Below.refl _ _).drew
theorem bl1 (W : World) (o : Obj) : Below W.heap.size W (W.drew.alloc o) := (bl0 W).alloc (Nat.le_refl _) o
theorem bl2 (W : World) (o o2 : Obj) : Below W.heap.size W ((W.drew.alloc o).alloc o2) := (bl1 W o).alloc (by simp) o2

theorem ParsAt.set {w : World} {B : Nat} {A : Option Addr} {l : Pars} (h : ParsAt w B A l) {p : Addr} (hp : ∀ g, A = some ⟨g, 0, none⟩ → p.block ≠ g) (u : Value) : ParsAt (w.setCell p u) B A l := by
  rcases h with h | ⟨g, hA, hg, hcs⟩
  · exact .inl h
  · refine .inr ⟨g, hA, hg, fun i hi => ?_⟩
    obtain ⟨h1, h2⟩ := hcs i hi
    exact ⟨by rw [World.cell?_setCell_far _ _ _ _ (hp g hA)]; exact h1, by rw [World.cell?_setCell_far _ _ _ _ (hp g hA)]; exact h2⟩

/-- A type in a block. -/
def MimeBox (W : World) (B : Nat) (m : MimeL) (A : Option Addr) (c : Nat) (wx : World) : Prop :=
  Below W.heap.size W wx ∧ W.heap.size ≤ B ∧ B < wx.heap.size ∧ wx.cell? ⟨B, 0, none⟩ = some (.string (bt m.t)) ∧ wx.cell? ⟨B, 1, none⟩ = some (.string (bt m.s)) ∧ wx.cell? ⟨B, 2, none⟩ = some (.slice A m.ps.length c) ∧ ParsAt wx wx.heap.size A m.ps ∧ ∀ g, A = some ⟨g, 0, none⟩ → W.heap.size ≤ g

theorem with_leaf {W Z : World} {B g3 c3 : Nat} (m : MimeL) (n v : List UInt8) (hZ : Below W.heap.size W Z) (hB : W.heap.size ≤ B) (hBz : B < Z.heap.size) (hg : g3 ≠ B)
    (ho : Z.ownsRow W.heap.size 52 2 (.slice (some ⟨g3, 0, none⟩) (m.ps.length + 1) c3) (m.ps.length + 1) (rowQ m.ps ++ parCells (n, v)))
    (hc : Z.heap[B]? = some (.cells #[.string ⟨#[]⟩, .string ⟨#[]⟩, .slice none 0 0] 33 (0, 0))) :
    ∃ B2 A2 c2, Value.pointer (some ⟨B, 0, none⟩) = .pointer (some ⟨B2, 0, none⟩) ∧ MimeBox W B2 (withM m n v) A2 c2 (((Z.setCell ⟨B, 0, none⟩ (.string (bt m.t))).setCell ⟨B, 1, none⟩ (.string (bt m.s))).setCell ⟨B, 2, none⟩ (.slice (some ⟨g3, 0, none⟩) (m.ps.length + 1) c3)) := by
  have hl : (withM m n v).ps.length = m.ps.length + 1 := by simp [withM]
  refine ⟨B, some ⟨g3, 0, none⟩, c3, rfl, ((hZ.setCell hB _).setCell hB _).setCell hB _, hB, by simpa using hBz, ?_, ?_, ?_, ?_, ?_⟩
  · have c0 : Z.cell? ⟨B, 0, none⟩ = some (.string ⟨#[]⟩) := by rw [Lib.cell_of_heap hc]; rfl
    simp [go_sem, c0, withM]
  · have c1 : Z.cell? ⟨B, 1, none⟩ = some (.string ⟨#[]⟩) := by rw [Lib.cell_of_heap hc]; rfl
    simp [go_sem, c1, withM]
  · have c2 : Z.cell? ⟨B, 2, none⟩ = some (.slice none 0 0) := by rw [Lib.cell_of_heap hc]; rfl
    rw [hl]
    simp [go_sem, c2, withM]
  · refine pars_stands (base := W.heap.size) (e := 52) (c := c3) (n := m.ps.length + 1) (row_stands (by rw [withM, rowQ_snoc]; exact ho) (fun k hk _ => ?_)) hl.symm
    have hk2 : k = g3 := by simpa [Value.ownBlock] using hk.symm
    subst hk2
    simp [World.setCell, Array.getElem?_modify, Ne.symm hg]
  · rintro g hg3
    simp at hg3
    subst hg3
    exact (ho.lt g3 rfl).1

theorem with_leaf2 {W Z : World} {g3 c3 : Nat} (m : MimeL) (n v : List UInt8) (hZ : Below W.heap.size W Z) (hB : W.heap.size ≤ Z.heap.size)
    (ho : Z.ownsRow W.heap.size 52 2 (.slice (some ⟨g3, 0, none⟩) (m.ps.length + 1) c3) (m.ps.length + 1) (rowQ m.ps ++ parCells (n, v))) :
    ∃ B2 A2 c2, Value.pointer (some ⟨Z.heap.size, 0, none⟩) = .pointer (some ⟨B2, 0, none⟩) ∧ MimeBox W B2 (withM m n v) A2 c2 (Z.alloc (.cells #[.string (bt m.t), .string (bt m.s), .slice (some ⟨g3, 0, none⟩) (m.ps.length + 1) c3] 33)) := by
  have hl : (withM m n v).ps.length = m.ps.length + 1 := by simp [withM]
  refine ⟨Z.heap.size, some ⟨g3, 0, none⟩, c3, rfl, hZ.alloc hB _, hB, by simp, ?_, ?_, ?_, ?_, ?_⟩
  · simp [go_sem, withM]
  · simp [go_sem, withM]
  · rw [hl]
    simp [go_sem, withM]
  · exact pars_stands (base := W.heap.size) (e := 52) (c := c3) (n := m.ps.length + 1) (by rw [withM, rowQ_snoc]; exact ho.alloc _) hl.symm
  · rintro g hg3
    simp at hg3
    subst hg3
    exact (ho.lt g3 rfl).1

theorem withM_sizes {m : MimeL} {n v : List UInt8} (hm : SizesM m) (hn : n.length ≤ 1100) (hv : v.length ≤ 1100) (hl : m.ps.length ≤ 1099) : SizesM (withM m n v) := by
  refine ⟨hm.t, hm.s, by simp [withM]; omega, ?_⟩
  intro p hp
  simp only [withM, List.mem_append, List.mem_singleton] at hp
  rcases hp with hp | rfl
  · exact hm.ps.2 p hp
  · exact ⟨hn, hv⟩

set_option maxHeartbeats 4000000 in
set_option maxRecDepth 20000 in
theorem With_own (m : MimeL) (A : Option Addr) (c : Nat) (n v : List UInt8) (w : World) (hm : SizesM m) (hn : n.length ≤ 1100) (hv : v.length ≤ 1100) (hl : m.ps.length ≤ 1099) (hA : ParsAt w w.heap.size A m.ps) :
    Calls Try.prog 43 #[mimV m A c, .string (bt n), .string (bt v)] w fun e w' => ∃ A2 c2, e = .returned (.tuple #[mimV (withR m n v).1 A2 c2, .int .i64 (withR m n v).2]) ∧ ParsAt w' w'.heap.size A2 (withR m n v).1.ps ∧ Below w.heap.size w w' ∧ ∀ g, A2 = some ⟨g, 0, none⟩ → w.heap.size ≤ g := by
  obtain ⟨i0, hi, hz0, hz1, hz2⟩ := info_parts infoPar
  have HI := Lib.hid hi; have HZ0 := Lib.hid hz0; have HZ1 := Lib.hid hz1; have HZ2 := Lib.hid hz2
  clear hi hz0 hz1 hz2
  have HM := Lib.hid hm
  have HA := Lib.hid hA
  have HL := Lib.hid hl
  have hN : (bt n).size ≤ maxLen := bt_max hn
  have hV : (bt v).size ≤ maxLen := bt_max hv
  clear hm hA hl
  have HCL := Lib.hid (fun (w1 : World) (hb : Below w.heap.size w w1) => ClonePar_any m.ps A c w1 HM.out.ps.1 (HA.out.on hb))
  unfold mimV
  go_enter Try.func43, Try.ntmps43
  go_upto_region 1 with fail
  generalize hW : (w.alloc (.cells #[.string (bt m.t), .string (bt m.s), .slice A m.ps.length c] 33)).alloc (.cells #[.string ⟨#[]⟩, .string ⟨#[]⟩, .slice none 0 0] 33) = W
  have q0 : W.cell? ⟨w.heap.size, 0, none⟩ = some (.string (bt m.t)) := by rw [← hW]; simp [go_sem]
  have q1 : W.cell? ⟨w.heap.size, 1, none⟩ = some (.string (bt m.s)) := by rw [← hW]; simp [go_sem]
  have q2 : W.cell? ⟨w.heap.size, 2, none⟩ = some (.slice A m.ps.length c) := by rw [← hW]; simp [go_sem]
  have HWB : Hid (Below w.heap.size w W) := Lib.hid (by rw [← hW]; exact (below_box _ _).alloc (by simp) _)
  have HQR : Hid (W.heap[w.heap.size + 1]? = some (.cells #[.string ⟨#[]⟩, .string ⟨#[]⟩, .slice none 0 0] 33 (0, 0))) := Lib.hid (by
    rw [← hW]
    have := heap_alloc_new (w.alloc (.cells #[.string (bt m.t), .string (bt m.s), .slice A m.ps.length c] 33)) (.cells #[.string ⟨#[]⟩, .string ⟨#[]⟩, .slice none 0 0] 33)
    simpa using this)
  have HWZ : Hid (W.heap.size = w.heap.size + 2) := Lib.hid (by rw [← hW]; simp)
  clear hW
  have hw1 : w.heap.size < W.heap.size := by have := HWZ.out; omega
  go_cut [8] (fun u wx => ∃ B A2 c2, u = .pointer (some ⟨B, 0, none⟩) ∧ MimeBox W B (withM m n v) A2 c2 wx)
  case first =>
    have HX0 : Hid (Below w.heap.size w W.drew) := Lib.hid HWB.out.drew
    have HS0 : Hid (w.heap.size ≤ W.drew.heap.size) := Lib.hid (Nat.le_of_lt hw1)
    have K2 := Lib.hid (show ∀ u ∈ parCells (n, v), u.oneCell' = true from by intro u hu; simp [parCells] at hu; rcases hu with rfl | rfl <;> rfl)
    have K3 := Lib.hid (show m.ps.length + 1 ≤ maxLen from by have := HL.out; unfold maxLen; omega)
    have K4 := Lib.hid (show (m.ps.length + 1) * 32 ≤ 140737488355328 from by have := HL.out; omega)
    have dW : W.heap.size ≠ w.heap.size := by omega
    have dW1 : W.heap.size + 1 ≠ w.heap.size := by omega
    go_region_held3 (fun w' => w'.cell? ⟨w.heap.size, 0, none⟩ = some (.string (bt m.t)) ∧ w'.cell? ⟨w.heap.size, 1, none⟩ = some (.string (bt m.s)) ∧ w'.cell? ⟨w.heap.size, 2, none⟩ = some (.slice A m.ps.length c))
      (first | exact ⟨s0, s1, s2⟩ | exact ⟨t0, t1, t2⟩ | go_keep)
      (first
        | (go_at_call 64; (refine Calls.mono (HCL.out _ ?_) ?_); (first | exact HX0.out | exact HX0.out.alloc HS0.out _ | exact (HX0.out.alloc HS0.out _).alloc (Nat.le_trans HS0.out (by simp)) _); rintro e w1 ⟨v1, rfl, ho1, hb1⟩; obtain ⟨ho2, hbw, hbk, hne, hsz1, hsz2⟩ := clone_step (by first | exact bl0 W | exact bl1 W _ | exact bl2 W _ _) ho1 hb1; have t0 : w1.cell? ⟨w.heap.size, 0, none⟩ = some (.string (bt m.t)) := (by rw [cell_below hbw hw1]; exact q0); have t1 : w1.cell? ⟨w.heap.size, 1, none⟩ = some (.string (bt m.s)) := (by rw [cell_below hbw hw1]; exact q1); have t2 : w1.cell? ⟨w.heap.size, 2, none⟩ = some (.slice A m.ps.length c) := (by rw [cell_below hbw hw1]; exact q2); have HO1 := Lib.hid ho2; have HBW1 := Lib.hid hbw; have HBK := Lib.hid hbk; have HNE := Lib.hid hne; have HSZ2 := Lib.hid hsz2; have d1 : w1.heap.size ≠ w.heap.size := (by omega); have d2 : w1.heap.size + 1 ≠ w.heap.size := (by omega); clear ho1 hb1 ho2 hbw hbk hne hsz2)
        | (refine step_append_lies _ rfl (.tmp 15) (.tmp 19) 31 rfl W.heap.size 52 i0 (.agg #[.string ByteArray.empty, .string ByteArray.empty]) 2 32 Try.underlying31 HI.out HZ0.out HZ1.out HZ2.out rfl (by decide) v1 m.ps.length (rowQ m.ps) rfl ?_ _ 1 1 (parCells (n, v)) rfl rfl ?_ K2.out (by decide) K3.out K4.out ?_ _ rfl ?_; (first | exact HO1.out | exact HO1.out.alloc _ | exact (HO1.out.alloc _).alloc _); (focus (refine World.news_of_block (cs := #[.string (bt n), .string (bt v)]) (t := 52) (fr := (0, 0)) ?_; (repeat (first | (with_reducible refine heap_drew1 ?_) | (with_reducible refine heap_new2 _ _ _ ?_; (focus (simp; done))) | (with_reducible refine heap_old _ _ ?_) | (refine (HBK.out _ ?_).trans ?_; (focus (first | (simp; done) | (simp; omega)))))); done)); (focus (first | omega | (simp; omega))); intro g3 c3 w2 hown hgrow hat hlt3; have hbw2 : Below W.heap.size W w2 := (by refine Below.grown ?_ hgrow ?_ (fun j hj => (HO1.out.lt j hj).1); (focus (first | exact HBW1.out | exact HBW1.out.alloc hsz1 _ | exact (HBW1.out.alloc hsz1 _).alloc (by simp; omega) _)); (first | omega | (simp; omega))); have s0 : w2.cell? ⟨w.heap.size, 0, none⟩ = some (.string (bt m.t)) := (by rw [cell_below hbw2 hw1]; exact q0); have s1 : w2.cell? ⟨w.heap.size, 1, none⟩ = some (.string (bt m.s)) := (by rw [cell_below hbw2 hw1]; exact q1); have s2 : w2.cell? ⟨w.heap.size, 2, none⟩ = some (.slice A m.ps.length c) := (by rw [cell_below hbw2 hw1]; exact q2); have hzw2 := hbw2.size; have d3 : w2.heap.size ≠ w.heap.size := (by omega); (first | ((refine (fun (hm2 : w2.heap[w1.heap.size]? = some (.cells #[.string ⟨#[]⟩, .string ⟨#[]⟩, .slice none 0 0] 33 (0, 0))) => ?_) ?_); rotate_left; (focus (refine (hgrow.block _ ?_ ?_).trans ?_; (focus (first | (simp; done) | (simp; omega) | (have hq := HSZ2.out; simp at hq; omega) | (have hq := HSZ2.out; simp at hq; simp; omega))); (focus (intro he; refine HNE.out _ ?_ he.symm; first | (left; (simp; done)) | (right; (simp; done)) | (left; (simp; omega)) | (right; (simp; omega)))); (repeat (first | (with_reducible refine heap_drew1 ?_) | (with_reducible refine heap_new2 _ _ _ ?_; (focus (simp; done))) | (with_reducible refine heap_old _ _ ?_) | (refine (HBK.out _ ?_).trans ?_; (focus (first | (simp; done) | (simp; omega)))))); done)); have HM2 := Lib.hid hm2; have z0 : w2.cell? ⟨w1.heap.size, 0, none⟩ = some (.string ⟨#[]⟩) := (by rw [Lib.cell_of_heap hm2]; rfl); have z1 : w2.cell? ⟨w1.heap.size, 1, none⟩ = some (.string ⟨#[]⟩) := (by rw [Lib.cell_of_heap hm2]; rfl); have z2 : w2.cell? ⟨w1.heap.size, 2, none⟩ = some (.slice none 0 0) := (by rw [Lib.cell_of_heap hm2]; rfl); have fz : ∀ o, w2.frozen? ⟨w1.heap.size, o, none⟩ = false := (fun o => Lib.frozen_of_heap hm2 o); clear hm2) | ((refine (fun (hm2 : w2.heap[(w1.heap.size + 1)]? = some (.cells #[.string ⟨#[]⟩, .string ⟨#[]⟩, .slice none 0 0] 33 (0, 0))) => ?_) ?_); rotate_left; (focus (refine (hgrow.block _ ?_ ?_).trans ?_; (focus (first | (simp; done) | (simp; omega) | (have hq := HSZ2.out; simp at hq; omega) | (have hq := HSZ2.out; simp at hq; simp; omega))); (focus (intro he; refine HNE.out _ ?_ he.symm; first | (left; (simp; done)) | (right; (simp; done)) | (left; (simp; omega)) | (right; (simp; omega)))); (repeat (first | (with_reducible refine heap_drew1 ?_) | (with_reducible refine heap_new2 _ _ _ ?_; (focus (simp; done))) | (with_reducible refine heap_old _ _ ?_) | (refine (HBK.out _ ?_).trans ?_; (focus (first | (simp; done) | (simp; omega)))))); done)); have HM2 := Lib.hid hm2; have z0 : w2.cell? ⟨(w1.heap.size + 1), 0, none⟩ = some (.string ⟨#[]⟩) := (by rw [Lib.cell_of_heap hm2]; rfl); have z1 : w2.cell? ⟨(w1.heap.size + 1), 1, none⟩ = some (.string ⟨#[]⟩) := (by rw [Lib.cell_of_heap hm2]; rfl); have z2 : w2.cell? ⟨(w1.heap.size + 1), 2, none⟩ = some (.slice none 0 0) := (by rw [Lib.cell_of_heap hm2]; rfl); have fz : ∀ o, w2.frozen? ⟨(w1.heap.size + 1), o, none⟩ = false := (fun o => Lib.frozen_of_heap hm2 o); clear hm2) | ((refine (fun (hm2 : w2.heap[W.heap.size]? = some (.cells #[.string ⟨#[]⟩, .string ⟨#[]⟩, .slice none 0 0] 33 (0, 0))) => ?_) ?_); rotate_left; (focus (refine (hgrow.block _ ?_ ?_).trans ?_; (focus (first | (simp; done) | (simp; omega) | (have hq := HSZ2.out; simp at hq; omega) | (have hq := HSZ2.out; simp at hq; simp; omega))); (focus (intro he; refine HNE.out _ ?_ he.symm; first | (left; (simp; done)) | (right; (simp; done)) | (left; (simp; omega)) | (right; (simp; omega)))); (repeat (first | (with_reducible refine heap_drew1 ?_) | (with_reducible refine heap_new2 _ _ _ ?_; (focus (simp; done))) | (with_reducible refine heap_old _ _ ?_) | (refine (HBK.out _ ?_).trans ?_; (focus (first | (simp; done) | (simp; omega)))))); done)); have HM2 := Lib.hid hm2; have z0 : w2.cell? ⟨W.heap.size, 0, none⟩ = some (.string ⟨#[]⟩) := (by rw [Lib.cell_of_heap hm2]; rfl); have z1 : w2.cell? ⟨W.heap.size, 1, none⟩ = some (.string ⟨#[]⟩) := (by rw [Lib.cell_of_heap hm2]; rfl); have z2 : w2.cell? ⟨W.heap.size, 2, none⟩ = some (.slice none 0 0) := (by rw [Lib.cell_of_heap hm2]; rfl); have fz : ∀ o, w2.frozen? ⟨W.heap.size, o, none⟩ = false := (fun o => Lib.frozen_of_heap hm2 o); clear hm2) | ((refine (fun (hm2 : w2.heap[(W.heap.size + 1)]? = some (.cells #[.string ⟨#[]⟩, .string ⟨#[]⟩, .slice none 0 0] 33 (0, 0))) => ?_) ?_); rotate_left; (focus (refine (hgrow.block _ ?_ ?_).trans ?_; (focus (first | (simp; done) | (simp; omega) | (have hq := HSZ2.out; simp at hq; omega) | (have hq := HSZ2.out; simp at hq; simp; omega))); (focus (intro he; refine HNE.out _ ?_ he.symm; first | (left; (simp; done)) | (right; (simp; done)) | (left; (simp; omega)) | (right; (simp; omega)))); (repeat (first | (with_reducible refine heap_drew1 ?_) | (with_reducible refine heap_new2 _ _ _ ?_; (focus (simp; done))) | (with_reducible refine heap_old _ _ ?_) | (refine (HBK.out _ ?_).trans ?_; (focus (first | (simp; done) | (simp; omega)))))); done)); have HM2 := Lib.hid hm2; have z0 : w2.cell? ⟨(W.heap.size + 1), 0, none⟩ = some (.string ⟨#[]⟩) := (by rw [Lib.cell_of_heap hm2]; rfl); have z1 : w2.cell? ⟨(W.heap.size + 1), 1, none⟩ = some (.string ⟨#[]⟩) := (by rw [Lib.cell_of_heap hm2]; rfl); have z2 : w2.cell? ⟨(W.heap.size + 1), 2, none⟩ = some (.slice none 0 0) := (by rw [Lib.cell_of_heap hm2]; rfl); have fz : ∀ o, w2.frozen? ⟨(W.heap.size + 1), o, none⟩ = false := (fun o => Lib.frozen_of_heap hm2 o); clear hm2) | skip); have HOWN := Lib.hid hown; have HG := Lib.hid hgrow; have HAT := Lib.hid hat; have HBW2 := Lib.hid hbw2; clear hown hgrow hat hbw2))
    all_goals go_wp2_with fail
    all_goals go_meet
    all_goals first | refine with_leaf m n v ?_ ?_ ?_ ?_ ?_ ?_ | exact with_leaf2 m n v HBW2.out hzw2 HOWN.out
    all_goals first
      | exact HBW2.out
      | exact HBW2.out.alloc hzw2 _
      | exact HOWN.out
      | exact HOWN.out.alloc _
      | exact HM2.out
      | exact heap_alloc_new _ _
      | exact (Array.getElem?_eq_some_iff.1 HM2.out).1
      | omega
      | (simp; done)
      | (simp; omega)
      | (rcases HAT.out with h | h; · { intro e; rw [e] at h; refine HNE.out _ ?_ h; first | (left; (simp; done)) | (right; (simp; done)) | (left; (simp; omega)) | (right; (simp; omega)) }; · { have hq := HSZ2.out; simp at h hq; omega })
      | (rcases HAT.out with h | h; · { intro e; rw [e] at h; refine HNE.out _ ?_ h; first | (left; (simp; done)) | (right; (simp; done)) | (left; (simp; omega)) | (right; (simp; omega)) }; · { have hq := HSZ2.out; simp at hq; omega })
  obtain ⟨B, A2, c2, rfl, hbox⟩ := hcut
  have HBOX := Lib.hid hbox
  have HSW := Lib.hid (withM_sizes (n := n) (v := v) HM.out hn hv HL.out)
  have HGW := Lib.hid (good_par (withM m n v) A2 c2 wc HSW.out hbox.2.2.2.2.2.2.1)
  have hWc : W.heap.size ≤ wc.heap.size := hbox.1.size
  have hw0 : w.heap.size + 1 < W.heap.size := by have := HWZ.out; omega
  have HRB : Hid (wc.heap[w.heap.size + 1]? = some (.cells #[.string ⟨#[]⟩, .string ⟨#[]⟩, .slice none 0 0] 33 (0, 0))) := Lib.hid ((hbox.1.block _ hw0).trans HQR.out)
  obtain ⟨hbox1, hB1, hB2, e0, e1, e2, hPA, hge⟩ := hbox
  have HGE := Lib.hid hge
  clear hge
  have HPA := Lib.hid hPA
  clear hPA
  unfold mimV at HGW
  go_wp2_with fail
  refine HGW.out.mono ?_
  rintro e w1 ⟨rfl, hb1⟩
  have HB1 := Lib.hid hb1
  have hRB1 : w1.heap[w.heap.size + 1]? = some (.cells #[.string ⟨#[]⟩, .string ⟨#[]⟩, .slice none 0 0] 33 (0, 0)) := (hb1.block _ (by omega)).trans HRB.out
  have g0 : w1.cell? ⟨w.heap.size + 1, 0, none⟩ = some (.string ⟨#[]⟩) := by rw [Lib.cell_of_heap hRB1]; rfl
  have g1 : w1.cell? ⟨w.heap.size + 1, 1, none⟩ = some (.string ⟨#[]⟩) := by rw [Lib.cell_of_heap hRB1]; rfl
  have g2 : w1.cell? ⟨w.heap.size + 1, 2, none⟩ = some (.slice none 0 0) := by rw [Lib.cell_of_heap hRB1]; rfl
  have fz : ∀ o, w1.frozen? ⟨w.heap.size + 1, o, none⟩ = false := fun o => Lib.frozen_of_heap hRB1 o
  rw [← cell_below hb1 hB2] at e0 e1 e2
  have hRB2 := Lib.hid hRB1
  clear hb1 hRB1
  cases hg : goodL (withM m n v)
  · have hR : withR m n v = if goodL m && decide (0 ≤ atL m.ps n) && quoL v then (noM, 7) else (noM, 2) := by simp [withR, hg]
    have HR := Lib.hid hR
    clear hR
    have hBW : Below w.heap.size w w1 := (HWB.out.trans (hbox1.mono (by omega))).trans (HB1.out.mono (by omega))
    have HBW := Lib.hid hBW
    have HGM := Lib.hid (good_par m A c w1 HM.out (HA.out.on hBW))
    have hbox2 : Below W.heap.size W w1 := hbox1.trans (HB1.out.mono hWc)
    have hz1 : W.heap.size ≤ w1.heap.size := hbox2.size
    rw [← cell_below hbox2 hw1] at q0 q1 q2
    clear e0 e1 e2 hBW
    unfold mimV at HGM
    go_upto_region 4 with fail
    go_cut [26] (fun u wx => u = .bool (goodL m && decide (0 ≤ atL m.ps n) && quoL v) ∧ Below w1.heap.size w1 wx)
    case first =>
      cases hgm : goodL m
      · go_wp2_with fail
        refine HGM.out.mono ?_
        rintro e w2 ⟨rfl, hb2⟩
        have HB2 := Lib.hid hb2
        clear hb2
        rw [hgm]
        go_wp2_with fail
        go_meet
        exact ⟨by rw [hgm]; rfl, HB2.out⟩
      · go_wp2_with fail
        refine HGM.out.mono ?_
        rintro e w2 ⟨rfl, hb2⟩
        have HB2 := Lib.hid hb2
        have hz2 := hb2.size
        have HFD := Lib.hid (find_par m A c (bt n) w2 HM.out (HA.out.on (HBW.out.trans (hb2.mono (by omega)))))
        rw [bt_list] at HFD
        unfold mimV at HFD
        rw [← cell_below hb2 (by omega)] at q0 q1 q2
        clear hb2
        rw [hgm]
        go_wp2_with fail
        refine HFD.out.mono ?_
        rintro e w3 ⟨rfl, hb3⟩
        have HB3 := Lib.hid (HB2.out.trans (hb3.mono hz2))
        clear hb3
        by_cases hat : 0 ≤ atL m.ps n
        · have HAL := Lib.hid (All_list 67 isQuoted fnQuoted (bt v) w3 hV)
          rw [bt_list] at HAL
          have hd : decide (0 ≤ atL m.ps n) = true := decide_eq_true hat
          have HD := Lib.hid hd
          clear hd
          go_wp2_with fail
          refine HAL.out.mono ?_
          rintro e w4 ⟨rfl, rfl⟩
          go_wp2_with fail
          go_meet
          exact ⟨by rw [hgm, HD.out]; rfl, HB3.out⟩
        · have hd : decide (0 ≤ atL m.ps n) = false := decide_eq_false hat
          have HD := Lib.hid hd
          have hlt : atL m.ps n < 0 := by omega
          clear hd
          go_wp2_with fail
          go_meet
          exact ⟨by rw [hgm, HD.out]; rfl, HB3.out⟩
    obtain ⟨rfl, hbx⟩ := hcut
    have hRX : wc.heap[w.heap.size + 1]? = some (.cells #[.string ⟨#[]⟩, .string ⟨#[]⟩, .slice none 0 0] 33 (0, 0)) := (hbx.block _ (by omega)).trans hRB2.out
    have k0 : wc.cell? ⟨w.heap.size + 1, 0, none⟩ = some (.string ⟨#[]⟩) := by rw [Lib.cell_of_heap hRX]; rfl
    have k1 : wc.cell? ⟨w.heap.size + 1, 1, none⟩ = some (.string ⟨#[]⟩) := by rw [Lib.cell_of_heap hRX]; rfl
    have k2 : wc.cell? ⟨w.heap.size + 1, 2, none⟩ = some (.slice none 0 0) := by rw [Lib.cell_of_heap hRX]; rfl
    have kz : ∀ o, wc.frozen? ⟨w.heap.size + 1, o, none⟩ = false := fun o => Lib.frozen_of_heap hRX o
    have HBX := Lib.hid (HBW.out.trans (hbx.mono (by omega)))
    clear hbx hRX q0 q1 q2 g0 g1 g2 fz
    cases hq : (goodL m && decide (0 ≤ atL m.ps n) && quoL v)
    · have hR2 : withR m n v = (noM, 2) := by rw [HR.out, hq]; rfl
      have HRR := Lib.hid hR2
      clear hR2
      go_wp2_with fail
      refine bodyPost_ret (v := .tuple #[mimV noM none 0, .int .i64 2]) ?_ rfl ?_
      · simp [results, Try.results43, go_sem, k0, k1, k2, mimV, noM, bt]
      · refine ⟨none, 0, by rw [HRR.out]; rfl, by rw [HRR.out]; exact .inl rfl, (HBX.out.setCell (by simp) _ |>.setCell (by simp) _).setCell (by simp) _, by intro g h; cases h⟩
    · have hR2 : withR m n v = (noM, 7) := by rw [HR.out, hq]; rfl
      have HRR := Lib.hid hR2
      clear hR2
      go_wp2_with fail
      refine bodyPost_ret (v := .tuple #[mimV noM none 0, .int .i64 7]) ?_ rfl ?_
      · simp [results, Try.results43, go_sem, k0, k1, k2, mimV, noM, bt]
      · refine ⟨none, 0, by rw [HRR.out]; rfl, by rw [HRR.out]; exact .inl rfl, (HBX.out.setCell (by simp) _ |>.setCell (by simp) _).setCell (by simp) _, by intro g h; cases h⟩
  · have hR : withR m n v = (withM m n v, 0) := by simp [withR, hg]
    have HR := Lib.hid hR
    clear hR
    go_wp2_with fail
    refine bodyPost_ret (v := .tuple #[mimV (withM m n v) A2 c2, .int .i64 0]) ?_ rfl ?_
    · simp [results, Try.results43, go_sem, g0, g1, g2, mimV]
    · rw [HR.out]
      have hfar : ∀ g, A2 = some ⟨g, 0, none⟩ → w.heap.size + 1 ≠ g := fun g hg => by have := HGE.out g hg; omega
      refine ⟨A2, c2, rfl, ?_, ?_, fun g hg => by have := HGE.out g hg; omega⟩
      · exact (((HPA.out.on HB1.out).set hfar _).set hfar _).set hfar _ |>.more (by simp)
      · exact (((HWB.out.trans (hbox1.mono (by omega))).trans (HB1.out.mono (by omega))).setCell (by simp) _ |>.setCell (by simp) _).setCell (by simp) _

theorem With_par (m : MimeL) (A : Option Addr) (c : Nat) (n v : List UInt8) (w : World) (hm : SizesM m) (hn : n.length ≤ 1100) (hv : v.length ≤ 1100) (hl : m.ps.length ≤ 1099) (hA : ParsAt w w.heap.size A m.ps) :
    Calls Try.prog 43 #[mimV m A c, .string (bt n), .string (bt v)] w fun e w' => ∃ A2 c2, e = .returned (.tuple #[mimV (withR m n v).1 A2 c2, .int .i64 (withR m n v).2]) ∧ ParsAt w' w'.heap.size A2 (withR m n v).1.ps ∧ Below w.heap.size w w' :=
  (With_own m A c n v w hm hn hv hl hA).mono fun _ _ ⟨A, c, h1, h2, h3, _⟩ => ⟨A, c, h1, h2, h3⟩

end Go.Proofs.Ytdkkbibdjagjjaa
