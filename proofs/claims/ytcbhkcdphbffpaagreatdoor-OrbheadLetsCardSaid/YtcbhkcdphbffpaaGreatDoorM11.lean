/-
  Lemmas of this claim, part 11: the texts CombE, CombF, one behind the other.
-/
import Derived.Test.YtcbhkcdphbffpaaGreatDoorM10

namespace Go.Proofs.YtcbhkcdphbffpaaGreatDoor
open Go.RowKit
set_option linter.unusedSimpArgs false
set_option linter.unusedVariables false

theorem piece_size (s : ByteArray) : (pieceB s).size ≤ s.size := by
  have h1 := endsB_size s
  rw [Lib.size_eq, piece_list]
  have h2 := (List.dropWhile_sublist (l := (endsB s).data.toList) isTab).length_le
  rw [Lib.size_eq] at h1
  omega

theorem splitL_sizes (n : Nat) : ∀ (T l : List UInt8), l.length ≤ n → (∀ p ∈ splitL T l, p.size ≤ T.length + l.length) ∧ (splitL T l).length ≤ l.length + 1 := by
  induction n with
  | zero =>
    intro T l h
    obtain rfl : l = [] := List.eq_nil_of_length_eq_zero (by omega)
    rw [splitL_end]
    refine ⟨fun p hp => ?_, by simp⟩
    simp at hp
    subst hp
    have := piece_size ⟨T.toArray⟩
    rw [Lib.size_eq ⟨T.toArray⟩] at this
    simpa using this
  | succ n ih =>
    intro T l h
    match l, h with
    | [], _ =>
      rw [splitL_end]
      refine ⟨fun p hp => ?_, by simp⟩
      simp at hp
      subst hp
      have := piece_size ⟨T.toArray⟩
      rw [Lib.size_eq ⟨T.toArray⟩] at this
      simpa using this
    | b :: r, h =>
      rw [List.length_cons] at h
      by_cases h34 : b = 34
      · subst h34
        rw [splitL_quote]
        have hr := (readL_le r).1
        have hd : (r.drop (readL r).2).length ≤ n := by rw [List.length_drop]; omega
        obtain ⟨i1, i2⟩ := ih (T ++ 34 :: r.take (readL r).2) (r.drop (readL r).2) hd
        rw [List.length_drop] at i1 i2
        refine ⟨fun p hp => ?_, by rw [List.length_cons]; omega⟩
        have := i1 p hp
        rw [List.length_append, List.length_cons, List.length_take] at this
        rw [List.length_cons]
        omega
      · by_cases h44 : b = 44
        · subst h44
          rw [splitL_comma]
          obtain ⟨i1, i2⟩ := ih [] r (by omega)
          refine ⟨fun p hp => ?_, by rw [List.length_cons, List.length_cons]; omega⟩
          rw [List.length_cons]
          rcases List.mem_cons.1 hp with rfl | hp
          · have := piece_size ⟨T.toArray⟩
            rw [Lib.size_eq ⟨T.toArray⟩] at this
            simp at this
            omega
          · have := i1 p hp
            simp at this
            omega
        · rw [splitL_other _ _ _ h34 h44]
          obtain ⟨i1, i2⟩ := ih (T ++ [b]) r (by omega)
          refine ⟨fun p hp => ?_, by rw [List.length_cons]; omega⟩
          have := i1 p hp
          rw [List.length_append, List.length_singleton] at this
          rw [List.length_cons]
          omega

theorem values_sizes (l : List ByteArray) (N : Nat) (hN : (joinL l).length ≤ N) : (∀ p ∈ valuesL l, p.size ≤ N) ∧ (valuesL l).length ≤ N + 1 := by
  unfold valuesL
  split
  · exact ⟨fun p hp => (by cases hp), by simp⟩
  · obtain ⟨h1, h2⟩ := splitL_sizes (joinL l).length [] (joinL l) (Nat.le_refl _)
    refine ⟨fun p hp => ?_, ?_⟩
    · have := h1 p hp
      simp at this
      omega
    · show (splitL [] (joinL l)).length ≤ _
      omega

/-- Types in a row, each with where its parameters stand. -/
abbrev MRow := List (MimeL × Option Addr × Nat)

def cellsM (t : MimeL × Option Addr × Nat) : List Value := [.string (bt t.1.t), .string (bt t.1.s), .slice t.2.1 t.1.ps.length t.2.2]

def rowM (ts : MRow) : List Value := ts.flatMap cellsM

theorem rowM_snoc (ts : MRow) (t : MimeL × Option Addr × Nat) : rowM (ts ++ [t]) = rowM ts ++ cellsM t := by simp [rowM]

theorem rowM_length (ts : MRow) : (rowM ts).length = ts.length * 3 := by
  induction ts with
  | nil => rfl
  | cons t ts ih =>
    have e : rowM (t :: ts) = cellsM t ++ rowM ts := rfl
    rw [e, List.length_append, ih, List.length_cons]
    simp only [cellsM, List.length_cons, List.length_nil]
    omega

theorem rowM_at (ts : MRow) (i : Nat) (hi : i < ts.length) (j : Nat) (hj : j < 3) : (rowM ts)[i * 3 + j]? = (cellsM ts[i])[j]? := by
  induction ts generalizing i with
  | nil => cases hi
  | cons t ts ih =>
    have e : rowM (t :: ts) = cellsM t ++ rowM ts := rfl
    have hl : (cellsM t).length = 3 := rfl
    rw [e]
    cases i with
    | zero => rw [Nat.zero_mul, Nat.zero_add, List.getElem?_append_left (by omega)]; rfl
    | succ i =>
      rw [List.getElem?_append_right (by rw [hl]; omega), hl, show (i + 1) * 3 + j - 3 = i * 3 + j by omega]
      exact ih i (by simpa using hi)

/-- A row's block is not the texts'. -/
def ApartS (v : Value) (A : Option Addr) (l : List ByteArray) : Prop := l = [] ∨ ∀ b off, A = some ⟨b, off, none⟩ → v.ownBlock ≠ some b

theorem StrsIn.grown {w w' : World} {A : Option Addr} {l : List ByteArray} {v : Value} (h : StrsIn w A l) (hg : w.grownBy w' v.ownBlock) (ha : ApartS v A l) : StrsIn w' A l := by
  rcases h with h | ⟨b, off, hA, hlt, hc⟩
  · exact .inl h
  · rcases ha with ha | ha
    · exact .inl ha
    · have hne := ha b off hA
      exact .inr ⟨b, off, hA, Nat.lt_of_lt_of_le hlt hg.size, fun i hi => hg.cell (hc i hi) (fun e => hne e.symm)⟩

theorem ApartS.next {W : World} {v : Value} {A : Option Addr} {l : List ByteArray} {g3 n c H : Nat} (h : ApartS v A l) (hA : StrsIn W A l) (hat : v.ownBlock = some g3 ∨ g3 = H) (hH : W.heap.size ≤ H) : ApartS (.slice (some ⟨g3, 0, none⟩) n c) A l := by
  rcases h with h | h
  · exact .inl h
  · rcases hA with hA | ⟨b0, off0, hA, hlt, _⟩
    · exact .inl hA
    · refine .inr fun b off hb e => ?_
      rw [hA] at hb
      injection hb with hb
      injection hb with e1 e2 _
      subst e1
      simp [Value.ownBlock] at e
      subst e
      rcases hat with hat | hat
      · exact h g3 off0 hA hat
      · omega

/-- The parameters of each stand below a bound, apart from a block. -/
def StandM (w : World) (B : Nat) (row : Option Nat) (ts : MRow) : Prop :=
  ∀ t ∈ ts, ParsAt w B t.2.1 t.1.ps ∧ (t.1.ps = [] ∨ ∀ g, t.2.1 = some ⟨g, 0, none⟩ → row ≠ some g)

theorem ParsAt.lt_of {w : World} {B : Nat} {A : Option Addr} {l : Pars} (h : ParsAt w B A l) (hl : l ≠ []) {g : Nat} (hg : A = some ⟨g, 0, none⟩) : g < B := by
  rcases h with h | ⟨g2, hA, hlt, _⟩
  · exact absurd h hl
  · rw [hg] at hA
    injection hA with hA
    injection hA with e1 _ _
    omega

theorem ParsAt.grown {w w' : World} {B : Nat} {A : Option Addr} {l : Pars} {row : Option Nat} (h : ParsAt w B A l) (hg : w.grownBy w' row) (hB : B ≤ w.heap.size) (hn : l = [] ∨ ∀ g, A = some ⟨g, 0, none⟩ → row ≠ some g) : ParsAt w' B A l := by
  rcases h with h | ⟨g, hA, hlt, hc⟩
  · exact .inl h
  · rcases hn with hn | hn
    · exact .inl hn
    · refine .inr ⟨g, hA, hlt, fun i hi => ?_⟩
      have hne := hn g hA
      exact ⟨hg.cell (hc i hi).1 (fun e => hne e.symm), hg.cell (hc i hi).2 (fun e => hne e.symm)⟩

/-- Types that stand in a row, above a bound and below one. -/
def MimesIn (w : World) (L B : Nat) (A : Option Addr) (ms : List MimeL) : Prop :=
  ms = [] ∨ ∃ g, A = some ⟨g, 0, none⟩ ∧ L ≤ g ∧ g < B ∧ ∀ i (h : i < ms.length), ∃ A2 c2, w.cell? ⟨g, i * 3, none⟩ = some (.string (bt ms[i].t)) ∧ w.cell? ⟨g, i * 3 + 1, none⟩ = some (.string (bt ms[i].s)) ∧ w.cell? ⟨g, i * 3 + 2, none⟩ = some (.slice A2 ms[i].ps.length c2) ∧ ParsAt w B A2 ms[i].ps ∧ ∀ g2, A2 = some ⟨g2, 0, none⟩ → L ≤ g2

theorem cell_heap {w w' : World} {g : Nat} (h : w'.heap[g]? = w.heap[g]?) (o : Nat) : w'.cell? ⟨g, o, none⟩ = w.cell? ⟨g, o, none⟩ := by
  unfold World.cell?
  simp only [h]

theorem ParsAt.same {w w' : World} {L B : Nat} {A : Option Addr} {l : Pars} (h : ParsAt w B A l) (hs : ∀ b, L ≤ b → b < B → w'.heap[b]? = w.heap[b]?) (hL : ∀ g, A = some ⟨g, 0, none⟩ → L ≤ g) : ParsAt w' B A l := by
  rcases h with h | ⟨g, hA, hlt, hc⟩
  · exact .inl h
  · refine .inr ⟨g, hA, hlt, fun i hi => ?_⟩
    have hh := hs g (hL g hA) hlt
    exact ⟨(cell_heap hh _).trans (hc i hi).1, (cell_heap hh _).trans (hc i hi).2⟩

theorem MimesIn.same {w w' : World} {L B : Nat} {A : Option Addr} {ms : List MimeL} (h : MimesIn w L B A ms) (hs : ∀ b, L ≤ b → b < B → w'.heap[b]? = w.heap[b]?) : MimesIn w' L B A ms := by
  rcases h with h | ⟨g, hA, hL, hlt, hc⟩
  · exact .inl h
  · refine .inr ⟨g, hA, hL, hlt, fun i hi => ?_⟩
    obtain ⟨A2, c2, h0, h1, h2, h3, h4⟩ := hc i hi
    have hh := hs g hL hlt
    exact ⟨A2, c2, (cell_heap hh _).trans h0, (cell_heap hh _).trans h1, (cell_heap hh _).trans h2, h3.same hs h4, h4⟩

theorem MimesIn.below {w w' : World} {L B : Nat} {A : Option Addr} {ms : List MimeL} (h : MimesIn w L B A ms) (hb : Below B w w') : MimesIn w' L B A ms :=
  h.same fun b _ hlt => hb.block b hlt

theorem MimesIn.more {w : World} {L B B' : Nat} {A : Option Addr} {ms : List MimeL} (h : MimesIn w L B A ms) (hB : B ≤ B') : MimesIn w L B' A ms := by
  rcases h with h | ⟨g, hA, hL, hlt, hc⟩
  · exact .inl h
  · refine .inr ⟨g, hA, hL, by omega, fun i hi => ?_⟩
    obtain ⟨A2, c2, h0, h1, h2, h3, h4⟩ := hc i hi
    exact ⟨A2, c2, h0, h1, h2, h3.more hB, h4⟩

theorem MimesIn.on {w w' : World} {L : Nat} {A : Option Addr} {ms : List MimeL} (h : MimesIn w L w.heap.size A ms) (hb : Below w.heap.size w w') : MimesIn w' L w'.heap.size A ms := (h.below hb).more hb.size

/-- The parameters of each stand above a bound. -/
def FreshT (L : Nat) (ts : MRow) : Prop := ∀ t ∈ ts, ∀ g, t.2.1 = some ⟨g, 0, none⟩ → L ≤ g

theorem FreshT.snoc {L : Nat} {ts : MRow} {t : MimeL × Option Addr × Nat} (h : FreshT L ts) (ht : ∀ g, t.2.1 = some ⟨g, 0, none⟩ → L ≤ g) : FreshT L (ts ++ [t]) := by
  intro u hu
  rcases List.mem_append.1 hu with hu | hu
  · exact h u hu
  · simp at hu
    subst hu
    exact ht

theorem mimes_of_own {w : World} {base : Nat} {e : TypeId} {v : Value} {ts : MRow} {row : Option Nat} (h : w.ownsRow base e 3 v ts.length (rowM ts)) (hs : StandM w w.heap.size row ts) (hf : FreshT base ts) :
    ∃ A c, v = .slice A (ts.map (·.1)).length c ∧ MimesIn w base w.heap.size A (ts.map (·.1)) := by
  rcases h.2 with ⟨rfl, h0⟩ | ⟨g, cap, cur, rfl, hB, hg, _⟩
  · have : ts = [] := List.eq_nil_of_length_eq_zero h0
    subst this
    exact ⟨none, 0, rfl, .inl rfl⟩
  · refine ⟨some ⟨g, 0, none⟩, cap, by rw [List.length_map], .inr ⟨g, rfl, hB, (Array.getElem?_eq_some_iff.1 hg).1, fun i hi => ?_⟩⟩
    have hi2 : i < ts.length := by simpa using hi
    have hc : ∀ j, j < 3 → w.cell? ⟨g, i * 3 + j, none⟩ = (cellsM ts[i])[j]? := fun j hj => by
      rw [← rowM_at ts i hi2 j hj]
      have hlt : i * 3 + j < ts.length * 3 := by omega
      exact h.cellAt (i * 3 + j) hlt
    have hp := (hs ts[i] (List.getElem_mem _)).1
    have e : (ts.map (·.1))[i] = ts[i].1 := by simp
    rw [e]
    refine ⟨ts[i].2.1, ts[i].2.2, ?_, ?_, ?_, hp, hf ts[i] (List.getElem_mem _)⟩
    · exact hc 0 (by omega)
    · exact hc 1 (by omega)
    · exact hc 2 (by omega)

/-- What comes is a row of types. -/
def GivesMims (ms : List MimeL) (w : World) (e : Ending) (w' : World) : Prop :=
  ∃ A c, e = .returned (.slice A ms.length c) ∧ MimesIn w' w.heap.size w'.heap.size A ms ∧ Below w.heap.size w w'

theorem infoMime : (Tryz.prog.info? 36).map (fun i => (i.zero, i.size, i.bytes)) = some (some (.agg #[.string ByteArray.empty, .string ByteArray.empty, .slice none 0 0]), 3, 56) := by kernel_rfl

theorem ParsAt.keep {w w' : World} {B B' : Nat} {A : Option Addr} {l : Pars} (h : ParsAt w B A l) (h2 : ParsAt w' B' A l) : ParsAt w' B A l := by
  rcases h2 with h2 | ⟨g, hA, hlt, hc⟩
  · exact .inl h2
  · rcases h with h | ⟨g2, hA2, hlt2, _⟩
    · exact .inl h
    · rw [hA] at hA2
      injection hA2 with e
      injection e with e1 _ _
      subst e1
      exact .inr ⟨g, hA, hlt2, hc⟩

theorem mim_cells_new (W : World) (t : MimeL × Option Addr × Nat) (e : TypeId) : ∀ j u, (cellsM t)[j]? = some u → (W.alloc (.cells #[.string (bt t.1.t), .string (bt t.1.s), .slice t.2.1 t.1.ps.length t.2.2] e)).cell? ((⟨W.heap.size, 0, none⟩ : Addr).add j) = some u :=
  World.news_of_block (heap_alloc_new W _)

theorem stand_snoc {W : World} {gx : Nat} {row : Option Nat} {ts : MRow} {m : MimeL} {A : Option Addr} {c gr : Nat} {o : Obj} (hst : StandM W gx row ts) (hA : ParsAt W gx A m.ps) (hgx : gr ≤ gx) (hf : ∀ g, A = some ⟨g, 0, none⟩ → gr ≤ g) (hrow : ∀ j, row = some j → j < gr)
    {w9 : World} {g3 n cc : Nat} (hg : (W.alloc o).grownBy w9 row) (hat : row = some g3 ∨ g3 = W.heap.size + 1) (hzz : W.heap.size + 1 ≤ w9.heap.size) (hz : gx ≤ W.heap.size) :
    StandM w9 w9.heap.size (Value.slice (some ⟨g3, 0, none⟩) n cc).ownBlock (ts ++ [(m, A, c)]) := by
  have hnew : ∀ (B : Option Addr) (l : Pars), ParsAt W gx B l → (l = [] ∨ ∀ g, B = some ⟨g, 0, none⟩ → row ≠ some g) → ParsAt w9 w9.heap.size B l ∧ (l = [] ∨ ∀ g, B = some ⟨g, 0, none⟩ → (some g3 : Option Nat) ≠ some g) := by
    intro B l h1 h2
    have h3 := (h1.more hz).below (below_box W o)
    have h4 := h3.grown hg (by simp) h2
    refine ⟨h4.more (by omega), ?_⟩
    rcases h2 with h2 | h2
    · exact .inl h2
    · by_cases hl : l = []
      · exact .inl hl
      · refine .inr fun g hB e => ?_
        injection e with e
        subst e
        have hlt := h1.lt_of hl hB
        rcases hat with hat | hat
        · exact h2 g3 hB hat
        · omega
  intro t ht
  rcases List.mem_append.1 ht with ht | ht
  · exact hnew t.2.1 t.1.ps (hst t ht).1 (hst t ht).2
  · simp at ht
    subst ht
    refine hnew A m.ps hA ?_
    by_cases hl : m.ps = []
    · exact .inl hl
    · refine .inr fun g hB e => ?_
      have h1 := hf g hB
      have h2 := hrow g e
      omega

set_option maxHeartbeats 4000000 in
set_option maxRecDepth 20000 in
theorem all_any (l : List ByteArray) (A : Option Addr) (c : Nat) (w : World) (hA : StrsIn w A l) (hc : l.length ≤ c) (hl : l.length ≤ 90) (hs : ∀ s ∈ l, s.size ≤ 1000) (hN : (joinL l).length ≤ 1099) :
    Calls Tryz.prog 127 #[.slice A l.length c] w fun e w' => GivesMims (allL l) w e w' := by
  obtain ⟨i0, hi, hz0, hz1, hz2⟩ := info_parts infoMime
  have HI := Lib.hid hi; have HZ0 := Lib.hid hz0; have HZ1 := Lib.hid hz1; have HZ2 := Lib.hid hz2
  clear hi hz0 hz1 hz2
  have HV := Lib.hid (fun (w1 : World) (hb : Below w.heap.size w w1) => values_any l A c w1 (hA.below hb) hc hl hs)
  obtain ⟨hvs, hvn⟩ := values_sizes l 1099 hN
  have HVS := Lib.hid hvs
  have HALL : Hid (allL l = (valuesL l).flatMap addM) := Lib.hid rfl
  generalize allL l = R at *
  generalize valuesL l = vs at *
  clear hA hs hN hvs
  go_enter Tryz.func127, Tryz.ntmps127
  go_wp2_with fail
  refine (HV.out _ (Below.refl _ _)).mono ?_
  rintro e W ⟨A1, c1, rfl, hA1, hbW⟩
  have hbw : Below w.heap.size w W := hbW
  have HAV := Lib.hid hA1
  have HBW := Lib.hid hbw
  clear hA1 hbW hbw HV
  go_wp2_with fail
  go_loopw [3, 11] (fun v i wr => ∃ (k : Nat) (ts : MRow), k ≤ vs.length ∧ i = .int .i64 k ∧ wr.ownsRow w.heap.size 36 3 v ts.length (rowM ts) ∧ Below w.heap.size w wr ∧ StrsIn wr A1 vs ∧ ApartS v A1 vs ∧ ts.map (·.1) = (vs.take k).flatMap addM ∧ StandM wr wr.heap.size v.ownBlock ts ∧ ts.length ≤ k ∧ w.heap.size ≤ wr.heap.size ∧ FreshT w.heap.size ts) (fun _ i _ => vs.length - (intOf i).toNat)
  case atStart => exact ⟨0, [], Nat.zero_le _, rfl, World.ownsRow_nil _ _ _ _, HBW.out, HAV.out, .inr (by intro b off _; simp [Value.ownBlock]), rfl, (by intro t ht; cases ht), Nat.le_refl _, HBW.out.size, (by intro t ht; cases ht)⟩
  case round =>
    obtain ⟨k, ts, hk, rfl, hrow, hb, hav, hap, hts, hst, hlen, hwz, hft⟩ := hrel
    have HB := Lib.hid hb
    have HROW := Lib.hid hrow
    have HST := Lib.hid hst
    have HTS := Lib.hid hts
    have HAVR := Lib.hid hav
    have HFT := Lib.hid hft
    have HAP := Lib.hid hap
    have hWz := hb.size
    clear hrow hst hts hav hap hft
    by_cases hlt : k < vs.length
    · rcases HAVR.out with hnil | ⟨g, off, rfl, hg, hcs⟩
      · rw [hnil] at hlt; simp at hlt
      have c0 := hcs k hlt
      have hsz := HVS.out vs[k] (List.getElem_mem _)
      have HPR := Lib.hid (Parse_own vs[k] wr (by omega))
      have hfit := (parseR_fit vs[k].data.toList).more (show vs[k].data.toList.length ≤ 1099 by rw [← Lib.size_eq]; exact hsz)
      have hsn := flat_take vs k hlt
      unfold addM at hsn
      have HADD : Hid ((vs.take (k + 1)).flatMap addM = (vs.take k).flatMap addM ++ if (parseR vs[k].data.toList).2 = 0 ∧ everyM (parseR vs[k].data.toList).1 = false then [(parseR vs[k].data.toList).1] else []) := Lib.hid hsn
      obtain ⟨code, hcode, hc0⟩ : ∃ code : Int, ((parseR vs[k].data.toList).2 : Int) = code ∧ ((parseR vs[k].data.toList).2 = 0 ∧ code = 0 ∨ (parseR vs[k].data.toList).2 ≠ 0 ∧ (code == 0) = false) := by
        unfold parseR
        split
        · exact ⟨0, rfl, .inl ⟨rfl, rfl⟩⟩
        · exact ⟨2, rfl, .inr ⟨(by decide), rfl⟩⟩
      rw [hcode] at HPR
      generalize (parseR vs[k].data.toList).2 = code0 at *
      generalize (parseR vs[k].data.toList).1 = m at *
      generalize vs[k] = x at *
      unfold mimV at HPR
      clear hcs hb hcode hsn
      go_wp2_with fail
      refine HPR.out.mono ?_
      rintro e w2 ⟨A2, c2, rfl, hA2, hb2, hf2⟩
      have HA2 := Lib.hid hA2
      have HF2 := Lib.hid hf2
      have HB2 := Lib.hid (HB.out.trans (hb2.mono hWz))
      have HAV2 := Lib.hid (HAVR.out.below hb2)
      have HROW2 := Lib.hid (row_stands HROW.out (fun j _ hj => hb2.block j hj))
      have hz2 := hb2.size
      have HST2 : Hid (StandM w2 w2.heap.size u3.ownBlock ts) := Lib.hid (fun t ht => ⟨(HST.out t ht).1.on hb2, (HST.out t ht).2⟩)
      have HOWN := Lib.hid (fun j hj => HROW.out.lt j hj)
      clear hA2 hf2 hb2 HPR HB HROW HST
      have hx2 : (w2.alloc (.cells #[.string (bt m.t), .string (bt m.s), .slice A2 m.ps.length c2] 36)).heap[w2.heap.size]? = some (mimO m A2 c2) := heap_alloc_new w2 _
      have HB3 := Lib.hid (HB2.out.alloc (Nat.le_trans hWz hz2) (.cells #[.string (bt m.t), .string (bt m.s), .slice A2 m.ps.length c2] 36))
      have HAV3 := Lib.hid (HAV2.out.below (below_box w2 (.cells #[.string (bt m.t), .string (bt m.s), .slice A2 m.ps.length c2] 36)))
      have HROW3 := Lib.hid (HROW2.out.alloc (.cells #[.string (bt m.t), .string (bt m.s), .slice A2 m.ps.length c2] 36))
      have HA3 : Hid (ParsAt (w2.alloc (.cells #[.string (bt m.t), .string (bt m.s), .slice A2 m.ps.length c2] 36)) w2.heap.size A2 m.ps) := Lib.hid (HA2.out.below (below_box w2 _))
      have HST3 : Hid (StandM (w2.alloc (.cells #[.string (bt m.t), .string (bt m.s), .slice A2 m.ps.length c2] 36)) w2.heap.size u3.ownBlock ts) := Lib.hid (fun t ht => ⟨(HST2.out t ht).1.below (below_box w2 _), (HST2.out t ht).2⟩)
      have hz3 : w2.heap.size < (w2.alloc (.cells #[.string (bt m.t), .string (bt m.s), .slice A2 m.ps.length c2] 36)).heap.size := by simp
      go_upto_region 6 with fail
      generalize hzx : w2.heap.size = gx at *
      generalize w2.alloc (.cells #[.string (bt m.t), .string (bt m.s), .slice A2 m.ps.length c2] 36) = w3 at *
      clear hzx
      obtain ⟨x0, x1, x2, xz, xlt⟩ := mim_cells hx2
      rcases hc0 with ⟨h0, rfl⟩ | ⟨h0, hc0⟩
      · cases hev : everyM m
        · have HADD2 : Hid ((vs.take (k + 1)).flatMap addM = (ts ++ [(m, A2, c2)]).map (·.1)) := Lib.hid (by rw [HADD.out, if_pos ⟨h0, hev⟩, List.map_append, HTS.out]; rfl)
          have HE := Lib.hid (Essence_par m A2 c2 w3 (hfit.sizes))
          have hq : ((bt (essL m)).toList == [42, 47, 42]) = false := by rw [← hev, Lib.toList_data]; rfl
          generalize bt (essL m) = X at *
          unfold mimV at HE
          go_wp2_with fail
          refine HE.out.mono ?_
          rintro e w6 ⟨rfl, hb6⟩
          have HB6 := Lib.hid (HB3.out.trans (hb6.mono HB3.out.size))
          have HAV6 := Lib.hid (HAV3.out.below hb6)
          have HROW6 := Lib.hid (row_stands HROW3.out (fun j _ hj => hb6.block j hj))
          have HST6 : Hid (StandM w6 gx u3.ownBlock ts) := Lib.hid (fun t ht => ⟨((HST3.out t ht).1.more (Nat.le_of_lt hz3)).below hb6 |> fun h => (ParsAt.keep (HST3.out t ht).1 h), (HST3.out t ht).2⟩)
          have HA6 : Hid (ParsAt w6 gx A2 m.ps) := Lib.hid (ParsAt.keep HA3.out ((HA3.out.more (Nat.le_of_lt hz3)).below hb6))
          have hz6 := HB6.out.size
          have hz26 : gx ≤ w6.heap.size := by have := hb6.size; omega
          have hgx6 : wr.heap.size ≤ gx := by omega
          have hx6 := (hb6.block _ xlt).trans hx2
          clear hb6 HE x0 x1 x2 xz
          obtain ⟨x0, x1, x2, xz, xlt6⟩ := mim_cells hx6
          have K0 := Lib.hid (HROW6.out.alloc (.cells #[.string (bt m.t), .string (bt m.s), .slice A2 m.ps.length c2] 36))
          have K1 : Hid (∀ (j : Nat) (u : Value), (cellsM (m, A2, c2))[j]? = some u → (w6.alloc (.cells #[.string (bt m.t), .string (bt m.s), .slice A2 m.ps.length c2] 36)).cell? ((⟨w6.heap.size, 0, none⟩ : Addr).add j) = some u) := Lib.hid (mim_cells_new w6 (m, A2, c2) 36)
          have K2 := Lib.hid (show ∀ u ∈ cellsM (m, A2, c2), u.oneCell' = true from by intro u hu; simp [cellsM] at hu; rcases hu with rfl | rfl | rfl <;> rfl)
          have K3 := Lib.hid (show ts.length + 1 ≤ maxLen from by unfold maxLen; omega)
          have K4 := Lib.hid (show (ts.length + 1) * 56 ≤ 140737488355328 from by omega)
          have K5 : Hid (w.heap.size ≤ (w6.alloc (.cells #[.string (bt m.t), .string (bt m.s), .slice A2 m.ps.length c2] 36)).heap.size) := Lib.hid (by simp; omega)
          have K6 : Hid ((w6.alloc (.cells #[.string (bt m.t), .string (bt m.s), .slice A2 m.ps.length c2] 36)).heap.size = w6.heap.size + 1) := Lib.hid (by simp)
          have KST : Hid (∀ (w9 : World) (g3 cc : Nat), (w6.alloc (.cells #[.string (bt m.t), .string (bt m.s), .slice A2 m.ps.length c2] 36)).grownBy w9 u3.ownBlock → (u3.ownBlock = some g3 ∨ g3 = w6.heap.size + 1) → w6.heap.size + 1 ≤ w9.heap.size → StandM w9 w9.heap.size (Value.slice (some ⟨g3, 0, none⟩) (ts.length + 1) cc).ownBlock (ts ++ [(m, A2, c2)])) := Lib.hid (fun w9 g3 cc hg hat hzz => stand_snoc HST6.out HA6.out hgx6 HF2.out (fun j hj => (HOWN.out j hj).2) hg hat hzz hz26)
          go_wp2_with (at_builtin; go_must (refine wpList_append_lies _ rfl (.tmp 27) (.tmp 29) 77 rfl w.heap.size 36 i0 (.agg #[.string ByteArray.empty, .string ByteArray.empty, .slice none 0 0]) 3 56 Tryz.underlying77 HI.out HZ0.out HZ1.out HZ2.out rfl (by decide) u3 ts.length (rowM ts) rfl K0.out ⟨w6.heap.size, 0, none⟩ 1 1 (cellsM (m, A2, c2)) rfl rfl K1.out K2.out (by decide) K3.out K4.out K5.out (w6.heap.size + 1) K6.out ?_; intro g3 c3 w9 hown hgrow hat9 hlt9; have HO := Lib.hid hown; have HG := Lib.hid hgrow; have HAT := Lib.hid hat9; have HB9 := Lib.hid ((HB6.out.alloc hz6 (.cells #[.string (bt m.t), .string (bt m.s), .slice A2 m.ps.length c2] 36)).grown hgrow (by simp; omega) (fun j hj => (HOWN.out j hj).1)); have HAV9 := Lib.hid ((HAV6.out.below (below_box _ (.cells #[.string (bt m.t), .string (bt m.s), .slice A2 m.ps.length c2] 36))).grown hgrow HAP.out); have HAP9 := Lib.hid (HAP.out.next (n := ts.length + 1) (c := c3) HAV6.out hat9 (Nat.le_succ _)); clear hown hgrow hat9))
          go_roundw
          case rel => exact ⟨k + 1, ts ++ [(m, A2, c2)], by omega, by go_num, by rw [rowM_snoc, List.length_append]; exact HO.out, HB9.out, HAV9.out, HAP9.out, HADD2.out.symm, KST.out w9 g3 c3 HG.out HAT.out (by have := HG.out.size; simp at this; omega), by rw [List.length_append]; simp; omega, by have := HG.out.size; simp at this; omega, HFT.out.snoc (fun g hg => by have := HF2.out g hg; omega)⟩
          case measure => simp [intOf]; omega
        · have HADD2 : Hid ((vs.take (k + 1)).flatMap addM = ts.map (·.1)) := Lib.hid (by rw [HADD.out, if_neg (by rintro ⟨_, h⟩; rw [hev] at h; cases h), List.append_nil, HTS.out])
          have HE := Lib.hid (Essence_par m A2 c2 w3 (hfit.sizes))
          have hq : ((bt (essL m)).toList == [42, 47, 42]) = true := by rw [← hev, Lib.toList_data]; rfl
          generalize bt (essL m) = X at *
          unfold mimV at HE
          go_wp2_with fail
          refine HE.out.mono ?_
          rintro e w6 ⟨rfl, hb6⟩
          have HB6 := Lib.hid (HB3.out.trans (hb6.mono HB3.out.size))
          have HAV6 := Lib.hid (HAV3.out.below hb6)
          have HROW6 := Lib.hid (row_stands HROW3.out (fun j _ hj => hb6.block j hj))
          have HST6 : Hid (StandM w6 gx u3.ownBlock ts) := Lib.hid (fun t ht => ⟨((HST3.out t ht).1.more (Nat.le_of_lt hz3)).below hb6 |> fun h => (ParsAt.keep (HST3.out t ht).1 h), (HST3.out t ht).2⟩)
          have HA6 : Hid (ParsAt w6 gx A2 m.ps) := Lib.hid (ParsAt.keep HA3.out ((HA3.out.more (Nat.le_of_lt hz3)).below hb6))
          have hz6 := HB6.out.size
          have hz26 : gx ≤ w6.heap.size := by have := hb6.size; omega
          have hgx6 : wr.heap.size ≤ gx := by omega
          have hx6 := (hb6.block _ xlt).trans hx2
          clear hb6 HE x0 x1 x2 xz
          obtain ⟨x0, x1, x2, xz, xlt6⟩ := mim_cells hx6
          go_wp2_with fail
          go_roundw
          case rel => exact ⟨k + 1, ts, by omega, by go_num, HROW6.out, HB6.out, HAV6.out, HAP.out, HADD2.out.symm, fun t ht => ⟨(HST6.out t ht).1.more (by omega), (HST6.out t ht).2⟩, by omega, by omega, HFT.out⟩
          case measure => simp [intOf]; omega
      · have HADD2 : Hid ((vs.take (k + 1)).flatMap addM = ts.map (·.1)) := Lib.hid (by rw [HADD.out, if_neg (fun h => h0 h.1), List.append_nil, HTS.out])
        clear x0 x1 x2 xz
        go_wp2_with fail
        go_roundw
        case rel => exact ⟨k + 1, ts, by omega, by go_num, HROW3.out, HB3.out, HAV3.out, HAP.out, HADD2.out.symm, fun t ht => ⟨(HST3.out t ht).1.more (by omega), (HST3.out t ht).2⟩, by omega, by omega, HFT.out⟩
        case measure => simp [intOf]; omega
    · obtain rfl : k = vs.length := by omega
      rw [List.take_length, ← HALL.out] at HTS
      obtain ⟨A3, c3, hv, hm3⟩ := mimes_of_own HROW.out HST.out HFT.out
      rw [HTS.out] at hv hm3
      have HM3 := Lib.hid hm3
      subst hv
      clear hm3
      go_wp2_with fail
      go_ret
      exact ⟨A3, c3, rfl, HM3.out, HB.out⟩

set_option maxHeartbeats 4000000 in
set_option maxRecDepth 100000 in
theorem rAll_any (l : List ByteArray) (A : Option Addr) (c : Nat) (w : World) (hA : StrsIn w A l) (hl : l.length ≤ 90) (hs : ∀ s ∈ l, s.size ≤ 1000) (hN : (joinL l).length ≤ 1099) :
    Calls Tryz.prog 62 #[.slice A l.length c] w fun e w' => GivesMims (allL l) w e w' := by
  obtain ⟨i0, hi, hz0, hz1, hz2⟩ := info_parts infoMime
  have HI := Lib.hid hi; have HZ0 := Lib.hid hz0; have HZ1 := Lib.hid hz1; have HZ2 := Lib.hid hz2
  clear hi hz0 hz1 hz2
  have HV := Lib.hid (fun (w1 : World) (hb : Below w.heap.size w w1) => rValues_any l A c w1 (hA.below hb) hl hs)
  obtain ⟨hvs, hvn⟩ := values_sizes l 1099 hN
  have HVS := Lib.hid hvs
  have HALL : Hid (allL l = (valuesL l).flatMap addM) := Lib.hid rfl
  generalize allL l = R at *
  generalize valuesL l = vs at *
  clear hA hs hN hvs
  go_enter Tryz.func62, Tryz.ntmps62
  go_wp2_with fail
  refine (HV.out _ (below_box w _)).mono ?_
  rintro e W ⟨A1, c1, rfl, hA1, hbW, hfV⟩
  have hbw : Below w.heap.size w W := (below_box w _).trans (hbW.mono (by simp))
  have HAV := Lib.hid hA1
  have HBW := Lib.hid hbw
  have HFV := Lib.hid hfV
  have hr0 : W.ownsRow w.heap.size 36 3 (.slice (some ⟨w.heap.size, 0, none⟩) 0 0) 0 [] := row_stands (World.ownsRow_lit (base := w.heap.size) (e := 36) (size := 3) w #[] 0 (Nat.le_refl _) (Nat.zero_le _) rfl) (fun j _ hj => hbW.block j hj)
  have HR0 := Lib.hid hr0
  clear hr0 hfV
  clear hA1 hbW hbw HV
  go_wp2_with fail
  go_loopw [3, 5] (fun v i wr => ∃ (k : Nat) (ts : MRow), k ≤ vs.length ∧ i = .int .i64 k ∧ wr.ownsRow w.heap.size 36 3 v ts.length (rowM ts) ∧ Below w.heap.size w wr ∧ StrsIn wr A1 vs ∧ ApartS v A1 vs ∧ ts.map (·.1) = (vs.take k).flatMap addM ∧ StandM wr wr.heap.size v.ownBlock ts ∧ ts.length ≤ k ∧ w.heap.size ≤ wr.heap.size ∧ FreshT w.heap.size ts) (fun _ i _ => vs.length - (intOf i).toNat)
  case atStart => exact ⟨0, [], Nat.zero_le _, rfl, HR0.out, HBW.out, HAV.out, .inr (fun b off hb e => by have := HFV.out b off hb; simp [Value.ownBlock] at e; simp at this; omega), rfl, (by intro t ht; cases ht), Nat.le_refl _, HBW.out.size, (by intro t ht; cases ht)⟩
  case round =>
    obtain ⟨k, ts, hk, rfl, hrow, hb, hav, hap, hts, hst, hlen, hwz, hft⟩ := hrel
    have HB := Lib.hid hb
    have HROW := Lib.hid hrow
    have HST := Lib.hid hst
    have HTS := Lib.hid hts
    have HAVR := Lib.hid hav
    have HFT := Lib.hid hft
    have HAP := Lib.hid hap
    have hWz := hb.size
    clear hrow hst hts hav hap hft
    by_cases hlt : k < vs.length
    · rcases HAVR.out with hnil | ⟨g, off, rfl, hg, hcs⟩
      · rw [hnil] at hlt; simp at hlt
      have c0 := hcs k hlt
      have hsz := HVS.out vs[k] (List.getElem_mem _)
      have HPR := Lib.hid (rParse_own vs[k] wr (by omega))
      have hfit := (parseR_fit vs[k].data.toList).more (show vs[k].data.toList.length ≤ 1099 by rw [← Lib.size_eq]; exact hsz)
      have hsn := flat_take vs k hlt
      unfold addM at hsn
      have HADD : Hid ((vs.take (k + 1)).flatMap addM = (vs.take k).flatMap addM ++ if (parseR vs[k].data.toList).2 = 0 ∧ everyM (parseR vs[k].data.toList).1 = false then [(parseR vs[k].data.toList).1] else []) := Lib.hid hsn
      obtain ⟨code, hcode, hc0⟩ : ∃ code : Int, ((parseR vs[k].data.toList).2 : Int) = code ∧ ((parseR vs[k].data.toList).2 = 0 ∧ code = 0 ∨ (parseR vs[k].data.toList).2 ≠ 0 ∧ (code == 0) = false) := by
        unfold parseR
        split
        · exact ⟨0, rfl, .inl ⟨rfl, rfl⟩⟩
        · exact ⟨2, rfl, .inr ⟨(by decide), rfl⟩⟩
      rw [hcode] at HPR
      generalize (parseR vs[k].data.toList).2 = code0 at *
      generalize (parseR vs[k].data.toList).1 = m at *
      generalize vs[k] = x at *
      unfold mimV at HPR
      clear hcs hb hcode hsn
      go_wp2_with fail
      refine HPR.out.mono ?_
      rintro e w2 ⟨A2, c2, rfl, hA2, hb2, hf2⟩
      have HA2 := Lib.hid hA2
      have HF2 := Lib.hid hf2
      have HB2 := Lib.hid (HB.out.trans (hb2.mono hWz))
      have HAV2 := Lib.hid (HAVR.out.below hb2)
      have HROW2 := Lib.hid (row_stands HROW.out (fun j _ hj => hb2.block j hj))
      have hz2 := hb2.size
      have HST2 : Hid (StandM w2 w2.heap.size u3.ownBlock ts) := Lib.hid (fun t ht => ⟨(HST.out t ht).1.on hb2, (HST.out t ht).2⟩)
      have HOWN := Lib.hid (fun j hj => HROW.out.lt j hj)
      clear hA2 hf2 hb2 HPR HB HROW HST
      have hx2 : (w2.alloc (.cells #[.string (bt m.t), .string (bt m.s), .slice A2 m.ps.length c2] 36)).heap[w2.heap.size]? = some (mimO m A2 c2) := heap_alloc_new w2 _
      have HB3 := Lib.hid (HB2.out.alloc (Nat.le_trans hWz hz2) (.cells #[.string (bt m.t), .string (bt m.s), .slice A2 m.ps.length c2] 36))
      have HAV3 := Lib.hid (HAV2.out.below (below_box w2 (.cells #[.string (bt m.t), .string (bt m.s), .slice A2 m.ps.length c2] 36)))
      have HROW3 := Lib.hid (HROW2.out.alloc (.cells #[.string (bt m.t), .string (bt m.s), .slice A2 m.ps.length c2] 36))
      have HA3 : Hid (ParsAt (w2.alloc (.cells #[.string (bt m.t), .string (bt m.s), .slice A2 m.ps.length c2] 36)) w2.heap.size A2 m.ps) := Lib.hid (HA2.out.below (below_box w2 _))
      have HST3 : Hid (StandM (w2.alloc (.cells #[.string (bt m.t), .string (bt m.s), .slice A2 m.ps.length c2] 36)) w2.heap.size u3.ownBlock ts) := Lib.hid (fun t ht => ⟨(HST2.out t ht).1.below (below_box w2 _), (HST2.out t ht).2⟩)
      have hz3 : w2.heap.size < (w2.alloc (.cells #[.string (bt m.t), .string (bt m.s), .slice A2 m.ps.length c2] 36)).heap.size := by simp
      go_upto_region 6 with fail
      generalize hzx : w2.heap.size = gx at *
      generalize w2.alloc (.cells #[.string (bt m.t), .string (bt m.s), .slice A2 m.ps.length c2] 36) = w3 at *
      clear hzx
      obtain ⟨x0, x1, x2, xz, xlt⟩ := mim_cells hx2
      rcases hc0 with ⟨h0, rfl⟩ | ⟨h0, hc0⟩
      · cases hev : everyM m
        · have HADD2 : Hid ((vs.take (k + 1)).flatMap addM = (ts ++ [(m, A2, c2)]).map (·.1)) := Lib.hid (by rw [HADD.out, if_pos ⟨h0, hev⟩, List.map_append, HTS.out]; rfl)
          have HB6 := HB3
          have HAV6 := HAV3
          have HROW6 := HROW3
          have HST6 := HST3
          have HA6 := HA3
          have hz6 := HB6.out.size
          have hz26 : gx ≤ w3.heap.size := by omega
          have hgx6 : wr.heap.size ≤ gx := by omega
          have HP1 : Hid (_ = (m.t == [42] && m.s == [42])) := Lib.hid (hev.symm.trans (every_parts m))
          have ht0 : ((bt m.t).toList == [42]) = (m.t == [42]) := by rw [Lib.toList_data]; rfl
          have hs0 : ((bt m.s).toList == [42]) = (m.s == [42]) := by rw [Lib.toList_data]; rfl
          have K0 := Lib.hid (HROW6.out.alloc (.cells #[.string (bt m.t), .string (bt m.s), .slice A2 m.ps.length c2] 36))
          have K1 : Hid (∀ (j : Nat) (u : Value), (cellsM (m, A2, c2))[j]? = some u → (w3.alloc (.cells #[.string (bt m.t), .string (bt m.s), .slice A2 m.ps.length c2] 36)).cell? ((⟨w3.heap.size, 0, none⟩ : Addr).add j) = some u) := Lib.hid (mim_cells_new w3 (m, A2, c2) 36)
          have K2 := Lib.hid (show ∀ u ∈ cellsM (m, A2, c2), u.oneCell' = true from by intro u hu; simp [cellsM] at hu; rcases hu with rfl | rfl | rfl <;> rfl)
          have K3 := Lib.hid (show ts.length + 1 ≤ maxLen from by unfold maxLen; omega)
          have K4 := Lib.hid (show (ts.length + 1) * 56 ≤ 140737488355328 from by omega)
          have K5 : Hid (w.heap.size ≤ (w3.alloc (.cells #[.string (bt m.t), .string (bt m.s), .slice A2 m.ps.length c2] 36)).heap.size) := Lib.hid (by simp; omega)
          have K6 : Hid ((w3.alloc (.cells #[.string (bt m.t), .string (bt m.s), .slice A2 m.ps.length c2] 36)).heap.size = w3.heap.size + 1) := Lib.hid (by simp)
          have KST : Hid (∀ (w9 : World) (g3 cc : Nat), (w3.alloc (.cells #[.string (bt m.t), .string (bt m.s), .slice A2 m.ps.length c2] 36)).grownBy w9 u3.ownBlock → (u3.ownBlock = some g3 ∨ g3 = w3.heap.size + 1) → w3.heap.size + 1 ≤ w9.heap.size → StandM w9 w9.heap.size (Value.slice (some ⟨g3, 0, none⟩) (ts.length + 1) cc).ownBlock (ts ++ [(m, A2, c2)])) := Lib.hid (fun w9 g3 cc hg hat hzz => stand_snoc HST6.out HA6.out hgx6 HF2.out (fun j hj => (HOWN.out j hj).2) hg hat hzz hz26)
          cases ht1 : (m.t == [42])
          · rw [ht1] at ht0
            go_wp2_with (at_builtin; go_must (refine wpList_append_lies _ rfl (.tmp 38) (.tmp 40) 77 rfl w.heap.size 36 i0 (.agg #[.string ByteArray.empty, .string ByteArray.empty, .slice none 0 0]) 3 56 Tryz.underlying77 HI.out HZ0.out HZ1.out HZ2.out rfl (by decide) u3 ts.length (rowM ts) rfl K0.out ⟨w3.heap.size, 0, none⟩ 1 1 (cellsM (m, A2, c2)) rfl rfl K1.out K2.out (by decide) K3.out K4.out K5.out (w3.heap.size + 1) K6.out ?_; intro g3 c3 w9 hown hgrow hat9 hlt9; have HO := Lib.hid hown; have HG := Lib.hid hgrow; have HAT := Lib.hid hat9; have HB9 := Lib.hid ((HB6.out.alloc hz6 (.cells #[.string (bt m.t), .string (bt m.s), .slice A2 m.ps.length c2] 36)).grown hgrow (by simp; omega) (fun j hj => (HOWN.out j hj).1)); have HAV9 := Lib.hid ((HAV6.out.below (below_box _ (.cells #[.string (bt m.t), .string (bt m.s), .slice A2 m.ps.length c2] 36))).grown hgrow HAP.out); have HAP9 := Lib.hid (HAP.out.next (n := ts.length + 1) (c := c3) HAV6.out hat9 (Nat.le_succ _)); clear hown hgrow hat9))
            go_roundw
            case rel => exact ⟨k + 1, ts ++ [(m, A2, c2)], by omega, by go_num, by rw [rowM_snoc, List.length_append]; exact HO.out, HB9.out, HAV9.out, HAP9.out, HADD2.out.symm, KST.out w9 g3 c3 HG.out HAT.out (by have := HG.out.size; simp at this; omega), by rw [List.length_append]; simp; omega, by have := HG.out.size; simp at this; omega, HFT.out.snoc (fun g hg => by have := HF2.out g hg; omega)⟩
            case measure => simp [intOf]; omega
          · have hs1 : (m.s == [42]) = false := by have hp1 := HP1.out; rw [ht1] at hp1; simpa using hp1.symm
            rw [ht1] at ht0
            rw [hs1] at hs0
            go_wp2_with (at_builtin; go_must (refine wpList_append_lies _ rfl (.tmp 38) (.tmp 40) 77 rfl w.heap.size 36 i0 (.agg #[.string ByteArray.empty, .string ByteArray.empty, .slice none 0 0]) 3 56 Tryz.underlying77 HI.out HZ0.out HZ1.out HZ2.out rfl (by decide) u3 ts.length (rowM ts) rfl K0.out ⟨w3.heap.size, 0, none⟩ 1 1 (cellsM (m, A2, c2)) rfl rfl K1.out K2.out (by decide) K3.out K4.out K5.out (w3.heap.size + 1) K6.out ?_; intro g3 c3 w9 hown hgrow hat9 hlt9; have HO := Lib.hid hown; have HG := Lib.hid hgrow; have HAT := Lib.hid hat9; have HB9 := Lib.hid ((HB6.out.alloc hz6 (.cells #[.string (bt m.t), .string (bt m.s), .slice A2 m.ps.length c2] 36)).grown hgrow (by simp; omega) (fun j hj => (HOWN.out j hj).1)); have HAV9 := Lib.hid ((HAV6.out.below (below_box _ (.cells #[.string (bt m.t), .string (bt m.s), .slice A2 m.ps.length c2] 36))).grown hgrow HAP.out); have HAP9 := Lib.hid (HAP.out.next (n := ts.length + 1) (c := c3) HAV6.out hat9 (Nat.le_succ _)); clear hown hgrow hat9))
            go_roundw
            case rel => exact ⟨k + 1, ts ++ [(m, A2, c2)], by omega, by go_num, by rw [rowM_snoc, List.length_append]; exact HO.out, HB9.out, HAV9.out, HAP9.out, HADD2.out.symm, KST.out w9 g3 c3 HG.out HAT.out (by have := HG.out.size; simp at this; omega), by rw [List.length_append]; simp; omega, by have := HG.out.size; simp at this; omega, HFT.out.snoc (fun g hg => by have := HF2.out g hg; omega)⟩
            case measure => simp [intOf]; omega
        · have HADD2 : Hid ((vs.take (k + 1)).flatMap addM = ts.map (·.1)) := Lib.hid (by rw [HADD.out, if_neg (by rintro ⟨_, h⟩; rw [hev] at h; cases h), List.append_nil, HTS.out])
          have HB6 := HB3
          have HAV6 := HAV3
          have HROW6 := HROW3
          have HST6 := HST3
          have HA6 := HA3
          have hz6 := HB6.out.size
          have hz26 : gx ≤ w3.heap.size := by omega
          have hgx6 : wr.heap.size ≤ gx := by omega
          have HP1 : Hid (_ = (m.t == [42] && m.s == [42])) := Lib.hid (hev.symm.trans (every_parts m))
          have ht0 : ((bt m.t).toList == [42]) = (m.t == [42]) := by rw [Lib.toList_data]; rfl
          have hs0 : ((bt m.s).toList == [42]) = (m.s == [42]) := by rw [Lib.toList_data]; rfl
          have hp2 := HP1.out.symm
          rw [Bool.and_eq_true] at hp2
          rw [hp2.1] at ht0
          rw [hp2.2] at hs0
          clear hp2
          go_wp2_with fail
          go_roundw
          case rel => exact ⟨k + 1, ts, by omega, by go_num, HROW6.out, HB6.out, HAV6.out, HAP.out, HADD2.out.symm, fun t ht => ⟨(HST6.out t ht).1.more (by omega), (HST6.out t ht).2⟩, by omega, by omega, HFT.out⟩
          case measure => simp [intOf]; omega
      · have HADD2 : Hid ((vs.take (k + 1)).flatMap addM = ts.map (·.1)) := Lib.hid (by rw [HADD.out, if_neg (fun h => h0 h.1), List.append_nil, HTS.out])
        clear x0 x1 x2 xz
        go_wp2_with fail
        go_roundw
        case rel => exact ⟨k + 1, ts, by omega, by go_num, HROW3.out, HB3.out, HAV3.out, HAP.out, HADD2.out.symm, fun t ht => ⟨(HST3.out t ht).1.more (by omega), (HST3.out t ht).2⟩, by omega, by omega, HFT.out⟩
        case measure => simp [intOf]; omega
    · obtain rfl : k = vs.length := by omega
      rw [List.take_length, ← HALL.out] at HTS
      obtain ⟨A3, c3, hv, hm3⟩ := mimes_of_own HROW.out HST.out HFT.out
      rw [HTS.out] at hv hm3
      have HM3 := Lib.hid hm3
      subst hv
      clear hm3
      go_wp2_with fail
      go_ret
      exact ⟨A3, c3, rfl, HM3.out, HB.out⟩

end Go.Proofs.YtcbhkcdphbffpaaGreatDoor

namespace Go.Proofs.YtcbhkcdphbffpaaGreatDoor
open Go.RowKit
set_option linter.unusedSimpArgs false
set_option linter.unusedVariables false

theorem all_fit (l : List ByteArray) (hN : (joinL l).length ≤ 1099) : (∀ m ∈ allL l, FitM 1099 m) ∧ (allL l).length ≤ 1100 := by
  obtain ⟨h1, h2⟩ := values_sizes l 1099 hN
  constructor
  · intro m hm
    unfold allL at hm
    obtain ⟨s, hs, hms⟩ := List.mem_flatMap.1 hm
    unfold addM at hms
    split at hms
    · simp at hms
      subst hms
      exact (parseR_fit s.data.toList).more (by rw [← Lib.size_eq]; exact h1 s hs)
    · cases hms
  · have := flat_len (valuesL l)
    unfold allL
    omega

theorem stepL_fit {m n : MimeL} {set : List UInt8} (hn : FitM 1099 n) (hs : set.length ≤ 1099) : SizesM (stepL m set n).1 ∧ (stepL m set n).2.length ≤ 1099 := by
  unfold stepL
  split
  · exact ⟨hn.sizes, setOf_len hn⟩
  · split
    · refine ⟨⟨Nat.le_trans hn.t (by omega), Nat.le_trans hn.s (by omega), ?_, ?_⟩, hs⟩
      · show (n.ps ++ [(charL, set)]).length ≤ 1100
        rw [List.length_append, List.length_singleton]
        have := hn.n
        omega
      · intro p hp
        rcases List.mem_append.1 hp with hp | hp
        · have := hn.ps p hp
          exact ⟨by omega, by omega⟩
        · simp at hp
          subst hp
          exact ⟨(show charL.length ≤ 1100 by decide), (show set.length ≤ 1100 by omega)⟩
    · exact ⟨hn.sizes, hs⟩

theorem noM_sizes : SizesM noM := ⟨Nat.zero_le _, Nat.zero_le _, Nat.zero_le _, by intro p h; cases h⟩

theorem extractS_fit (ms : List MimeL) (h : ∀ m ∈ ms, FitM 1099 m) (k : Nat) (hk : k ≤ ms.length) : SizesM (extractS (ms.take k)).1 ∧ (extractS (ms.take k)).2.length ≤ 1099 := by
  induction k with
  | zero => exact ⟨noM_sizes, Nat.zero_le _⟩
  | succ k ih =>
    rw [extractS_snoc ms k (by omega)]
    exact stepL_fit (h _ (List.getElem_mem _)) (ih (by omega)).2

/-- What an extract gives. -/
def GivesExt (r : MimeL × Int) (w : World) (e : Ending) (w' : World) : Prop :=
  ∃ A c, e = .returned (.tuple #[mimV r.1 A c, .int .i64 r.2]) ∧ ParsAt w' w'.heap.size A r.1.ps ∧ Below w.heap.size w w' ∧ ∀ g, A = some ⟨g, 0, none⟩ → w.heap.size ≤ g

theorem extractL_none {l : List ByteArray} (h : (allL l).length = 0) : extractL l = (noM, 4) := by
  unfold extractL
  rw [if_pos (List.eq_nil_of_length_eq_zero h)]

theorem extractL_some {l : List ByteArray} (h : (allL l).length ≠ 0) : extractL l = ((extractS (allL l)).1, 0) := by
  unfold extractL
  rw [if_neg (fun e => h (by rw [e]; rfl))]

theorem mim_set3 {w : World} {g : Nat} {m n : MimeL} {A A2 : Option Addr} {c c2 : Nat} (h : w.heap[g]? = some (mimO m A c)) :
    (((w.setCell ⟨g, 0, none⟩ (.string (bt n.t))).setCell ⟨g, 1, none⟩ (.string (bt n.s))).setCell ⟨g, 2, none⟩ (.slice A2 n.ps.length c2)).heap[g]? = some (mimO n A2 c2) := by
  unfold mimO at *
  simp [World.setCell, Array.getElem?_modify, h]

set_option maxHeartbeats 4000000 in
set_option maxRecDepth 20000 in
theorem extract_any (l : List ByteArray) (A : Option Addr) (c : Nat) (w : World) (hA : StrsIn w A l) (hc : l.length ≤ c) (hl : l.length ≤ 90) (hs : ∀ s ∈ l, s.size ≤ 1000) (hN : (joinL l).length ≤ 1099) :
    Calls Tryz.prog 93 #[.slice A l.length c] w fun e w' => GivesExt (extractL l) w e w' := by
  have HAL := Lib.hid (fun (w1 : World) (hb : Below w.heap.size w w1) => all_any l A c w1 (hA.below hb) hc hl hs hN)
  obtain ⟨hfit, hlen⟩ := all_fit l hN
  have HX0 := Lib.hid (@extractL_none l)
  have HX1 := Lib.hid (@extractL_some l)
  generalize extractL l = X at *
  generalize allL l = ms at *
  have HFIT := Lib.hid hfit
  clear hA hc hl hs hN hfit
  have hP : ((w.alloc (.cells #[.string ⟨#[]⟩, .string ⟨#[]⟩, .slice none 0 0] 36)).alloc (.cells #[.string ⟨#[]⟩, .string ⟨#[]⟩, .slice none 0 0] 36)).heap[w.heap.size]? = some (mimO noM none 0) := (Below.heap_alloc _ _ _ (by simp)).trans (heap_alloc_new w _)
  have hM : ((w.alloc (.cells #[.string ⟨#[]⟩, .string ⟨#[]⟩, .slice none 0 0] 36)).alloc (.cells #[.string ⟨#[]⟩, .string ⟨#[]⟩, .slice none 0 0] 36)).heap[w.heap.size + 1]? = some (mimO noM none 0) := by
    rw [show w.heap.size + 1 = (w.alloc (.cells #[.string ⟨#[]⟩, .string ⟨#[]⟩, .slice none 0 0] 36)).heap.size by simp]
    exact heap_alloc_new _ _
  have hb : Below w.heap.size w ((w.alloc (.cells #[.string ⟨#[]⟩, .string ⟨#[]⟩, .slice none 0 0] 36)).alloc (.cells #[.string ⟨#[]⟩, .string ⟨#[]⟩, .slice none 0 0] 36)) := (below_box _ _).alloc (by simp) _
  have hz0 : ((w.alloc (.cells #[.string ⟨#[]⟩, .string ⟨#[]⟩, .slice none 0 0] 36)).alloc (.cells #[.string ⟨#[]⟩, .string ⟨#[]⟩, .slice none 0 0] 36)).heap.size = w.heap.size + 1 + 1 := by simp
  go_enter Tryz.func93, Tryz.ntmps93
  go_upto_region 3 with fail
  generalize ((w.alloc (.cells #[.string ⟨#[]⟩, .string ⟨#[]⟩, .slice none 0 0] 36)).alloc (.cells #[.string ⟨#[]⟩, .string ⟨#[]⟩, .slice none 0 0] 36)) = W0 at *
  go_wp2_with fail
  refine (HAL.out _ hb).mono ?_
  rintro e W ⟨A1, c1, rfl, hA1, hbn⟩
  rw [hz0] at hA1
  have hP := (hbn.block _ (Array.getElem?_eq_some_iff.1 hP).1).trans hP
  have hM := (hbn.block _ (Array.getElem?_eq_some_iff.1 hM).1).trans hM
  have hb := hb.trans (hbn.mono hb.size)
  have HBW := Lib.hid hb
  have HA1 := Lib.hid hA1
  have HP := Lib.hid hP
  have HM := Lib.hid hM
  have hWz : w.heap.size + 1 + 1 ≤ W.heap.size := by have := hbn.size; omega
  clear hA1 hbn hP hM hb HAL
  go_wp2_with fail
  go_loopw [5, 13] (fun s i wr => ∃ (k : Nat) (A3 : Option Addr) (c3 : Nat), k ≤ ms.length ∧ i = .int .i64 k ∧ s = .string (bt (extractS (ms.take k)).2) ∧ wr.heap[w.heap.size]? = some (mimO noM none 0) ∧ wr.heap[w.heap.size + 1]? = some (mimO (extractS (ms.take k)).1 A3 c3) ∧ ParsAt wr wr.heap.size A3 (extractS (ms.take k)).1.ps ∧ (∀ g, A3 = some ⟨g, 0, none⟩ → w.heap.size + 1 < g) ∧ Below w.heap.size w wr ∧ W.heap.size ≤ wr.heap.size ∧ ∀ b, w.heap.size + 1 + 1 ≤ b → b < W.heap.size → wr.heap[b]? = W.heap[b]?) (fun _ i _ => ms.length - (intOf i).toNat)
  case atStart => exact ⟨0, none, 0, Nat.zero_le _, rfl, rfl, HP.out, HM.out, .inl rfl, (by intro g h; cases h), HBW.out, Nat.le_refl _, fun _ _ _ => rfl⟩
  case round =>
    obtain ⟨k, A3, c3, hk, rfl, rfl, hP, hM, hA3, hf3, hb, hzz, hsame⟩ := hrel
    have HB := Lib.hid hb
    have HSAME := Lib.hid hsame
    have HA3 := Lib.hid hA3
    have HF3 := Lib.hid hf3
    obtain ⟨hsz, hss⟩ := extractS_fit ms HFIT.out k hk
    by_cases hlt : k < ms.length
    · have hfx := HFIT.out ms[k] (List.getElem_mem _)
      have HSN := Lib.hid (extractS_snoc ms k hlt)
      rcases HA1.out.same hsame with hnil | ⟨g, rfl, hL, hgB, hcs⟩
      · rw [hnil] at hlt; simp at hlt
      obtain ⟨A2, c2, h0, h1, h2, h3, h4⟩ := hcs k hlt
      have HX2 := Lib.hid h3
      generalize ms[k] = x at *
      generalize (extractS (ms.take k)).1 = m at *
      generalize (extractS (ms.take k)).2 = set at *
      clear hcs hA3 hf3 hsame h3 h4 hb
      have hX : (wr.alloc (.cells #[.string (bt x.t), .string (bt x.s), .slice A2 x.ps.length c2] 36)).heap[wr.heap.size]? = some (mimO x A2 c2) := heap_alloc_new wr _
      have hP1 : (wr.alloc (.cells #[.string (bt x.t), .string (bt x.s), .slice A2 x.ps.length c2] 36)).heap[w.heap.size]? = _ := (Below.heap_alloc _ _ _ (Array.getElem?_eq_some_iff.1 hP).1).trans hP
      have hM1 : (wr.alloc (.cells #[.string (bt x.t), .string (bt x.s), .slice A2 x.ps.length c2] 36)).heap[w.heap.size + 1]? = _ := (Below.heap_alloc _ _ _ (Array.getElem?_eq_some_iff.1 hM).1).trans hM
      have HST := Lib.hid (step_any m x A3 A2 c3 c2 set (wr.alloc (.cells #[.string (bt x.t), .string (bt x.s), .slice A2 x.ps.length c2] 36)) hsz hfx.sizes (Nat.le_trans hfx.n (by omega)) (Nat.le_trans hss (by omega)) (HA3.out.on (below_box wr _)) ((HX2.out.more hzz).on (below_box wr _)))
      have HB1 := Lib.hid (HB.out.alloc HB.out.size (.cells #[.string (bt x.t), .string (bt x.s), .slice A2 x.ps.length c2] 36))
      have HBX := Lib.hid (below_box wr (.cells #[.string (bt x.t), .string (bt x.s), .slice A2 x.ps.length c2] 36))
      have hz1 : (wr.alloc (.cells #[.string (bt x.t), .string (bt x.s), .slice A2 x.ps.length c2] 36)).heap.size = wr.heap.size + 1 := by simp
      go_upto_region 7 with fail
      generalize hzx : wr.heap.size = gx at *
      generalize wr.alloc (.cells #[.string (bt x.t), .string (bt x.s), .slice A2 x.ps.length c2] 36) = w1 at *
      clear h0 h1 h2 hP hM
      obtain ⟨m0, m1, m2, mz, mlt⟩ := mim_cells hM1
      obtain ⟨x0, x1, x2, xz, xlt⟩ := mim_cells hX
      unfold mimV at HST
      obtain ⟨S, hS⟩ : ∃ S, bt set = S := ⟨_, rfl⟩
      rw [hS] at HST ⊢
      go_wp2_with fail
      refine HST.out.mono ?_
      rintro e w2 ⟨A4, c4, rfl, hA4, hb2, hf4⟩
      unfold mimV
      have hP2 := (hb2.block _ (Array.getElem?_eq_some_iff.1 hP1).1).trans hP1
      have hM2 := (hb2.block _ mlt).trans hM1
      have HB2 := Lib.hid (HB1.out.trans (hb2.mono HB1.out.size))
      have HS2 : Hid (∀ b, w.heap.size + 1 + 1 ≤ b → b < W.heap.size → w2.heap[b]? = W.heap[b]?) := Lib.hid (fun b h1 h2 => ((hb2.block b (by omega)).trans (HBX.out.block b (by omega))).trans (HSAME.out b h1 h2))
      have HA4 := Lib.hid hA4
      have hz2 := hb2.size
      have HF4 : Hid (∀ g, A4 = some ⟨g, 0, none⟩ → w.heap.size + 1 < g) := Lib.hid (fun g hg => by have := hf4 g hg; omega)
      clear m0 m1 m2 mz x0 x1 x2 xz hA4 hb2 hf4 HST hX hM1 hP1
      obtain ⟨m0, m1, m2, mz, mlt2⟩ := mim_cells hM2
      have HP2 := Lib.hid hP2
      have HM2 := Lib.hid hM2
      clear hP2 hM2
      go_wp2_with fail
      go_roundw
      case rel =>
        have hfar : ∀ g, A4 = some ⟨g, 0, none⟩ → w.heap.size + 1 ≠ g := fun g hg => by have := HF4.out g hg; omega
        have hne : ∀ b, b ≠ w.heap.size + 1 → (((w2.setCell ⟨w.heap.size + 1, 0, none⟩ (.string (bt (stepL m set x).1.t))).setCell ⟨w.heap.size + 1, 1, none⟩ (.string (bt (stepL m set x).1.s))).setCell ⟨w.heap.size + 1, 2, none⟩ (.slice A4 (stepL m set x).1.ps.length c4)).heap[b]? = w2.heap[b]? := fun b hb => by
          rw [Below.heap_setCell _ _ _ _ hb, Below.heap_setCell _ _ _ _ hb, Below.heap_setCell _ _ _ _ hb]
        refine ⟨k + 1, A4, c4, by omega, by go_num, by rw [HSN.out], ?_, ?_, ?_, HF4.out, ?_, ?_, ?_⟩
        · rw [hne _ (by omega)]; exact HP2.out
        · rw [HSN.out]; exact mim_set3 HM2.out
        · rw [HSN.out]; exact (((HA4.out.set hfar _).set hfar _).set hfar _).more (by simp)
        · exact ((HB2.out.setCell (show w.heap.size ≤ w.heap.size + 1 by omega) _).setCell (show w.heap.size ≤ w.heap.size + 1 by omega) _).setCell (show w.heap.size ≤ w.heap.size + 1 by omega) _
        · simp; omega
        · intro b h1 h2; rw [hne _ (by omega)]; exact HS2.out b h1 h2
      case measure => simp [intOf]; omega
    · obtain rfl : k = ms.length := by omega
      rw [List.take_length] at hM hA3 HA3
      by_cases h0 : ms.length = 0
      · have HV := Lib.hid (HX0.out h0)
        have h0i : ((ms.length : Int) == 0) = true := by rw [h0]; rfl
        obtain ⟨r0, r1, r2, rz, rlt⟩ := mim_cells hP
        clear hP hM hA3 hf3 hsame hb
        go_wp2_with fail
        refine bodyPost_ret (v := .tuple #[mimV noM none 0, .int .i64 4]) ?_ rfl ?_
        · simp [results, Tryz.results93, go_sem, r0, r1, r2, mimV, noM, bt]
        · refine ⟨none, 0, by rw [HV.out], by rw [HV.out]; exact .inl rfl, ?_, by intro g h; cases h⟩
          exact ((HB.out.setCell (show w.heap.size ≤ w.heap.size by omega) _).setCell (show w.heap.size ≤ w.heap.size by omega) _).setCell (show w.heap.size ≤ w.heap.size by omega) _
      · have HV := Lib.hid (HX1.out h0)
        have h0i : ((ms.length : Int) == 0) = false := beq_eq_false_iff_ne.2 (by omega)
        generalize (extractS ms).1 = m at *
        obtain ⟨r0, r1, r2, rz, rlt⟩ := mim_cells hP
        obtain ⟨m0, m1, m2, mz, mlt⟩ := mim_cells hM
        clear hP hM hA3 hf3 hsame hb
        go_wp2_with fail
        refine bodyPost_ret (v := .tuple #[mimV m A3 c3, .int .i64 0]) ?_ rfl ?_
        · simp [results, Tryz.results93, go_sem, r0, r1, r2, mimV]
        · have hfar : ∀ g, A3 = some ⟨g, 0, none⟩ → w.heap.size ≠ g := fun g hg => by have := HF3.out g hg; omega
          refine ⟨A3, c3, by rw [HV.out], ?_, ?_, fun g hg => by have := HF3.out g hg; omega⟩
          · rw [HV.out]
            exact (((HA3.out.set hfar _).set hfar _).set hfar _).more (by simp)
          · exact ((HB.out.setCell (show w.heap.size ≤ w.heap.size by omega) _).setCell (show w.heap.size ≤ w.heap.size by omega) _).setCell (show w.heap.size ≤ w.heap.size by omega) _

set_option maxHeartbeats 1000000 in
set_option maxRecDepth 20000 in
theorem Extract_any (l : List ByteArray) (A : Option Addr) (c : Nat) (w : World) (hA : StrsIn w A l) (hc : l.length ≤ c) (hl : l.length ≤ 90) (hs : ∀ s ∈ l, s.size ≤ 1000) (hN : (joinL l).length ≤ 1099) :
    Calls Tryz.prog 70 #[.slice A l.length c] w fun e w' => GivesExt (extractL l) w e w' := by
  have HEX := Lib.hid (fun (w1 : World) (hb : Below w.heap.size w w1) => extract_any l A c w1 (hA.below hb) hc hl hs hN)
  generalize extractL l = X at *
  clear hA hc hl hs hN
  have hP : (w.alloc (.cells #[.string ⟨#[]⟩, .string ⟨#[]⟩, .slice none 0 0] 36)).heap[w.heap.size]? = some (mimO noM none 0) := heap_alloc_new w _
  have hb : Below w.heap.size w (w.alloc (.cells #[.string ⟨#[]⟩, .string ⟨#[]⟩, .slice none 0 0] 36)) := below_box _ _
  have hz0 : (w.alloc (.cells #[.string ⟨#[]⟩, .string ⟨#[]⟩, .slice none 0 0] 36)).heap.size = w.heap.size + 1 := by simp
  go_enter Tryz.func70, Tryz.ntmps70
  go_upto_region 1 with fail
  generalize w.alloc (.cells #[.string ⟨#[]⟩, .string ⟨#[]⟩, .slice none 0 0] 36) = W0 at *
  go_wp2_with fail
  refine (HEX.out _ hb).mono ?_
  rintro e w1 ⟨A3, c3, rfl, hA3, hbn, hf⟩
  unfold mimV
  have hP := (hbn.block _ (Array.getElem?_eq_some_iff.1 hP).1).trans hP
  have HB := Lib.hid (hb.trans (hbn.mono hb.size))
  have HA3 := Lib.hid hA3
  have HF := Lib.hid (fun g hg => hf g hg)
  clear hA3 hf hbn hb HEX
  obtain ⟨r0, r1, r2, rz, rlt⟩ := mim_cells hP
  clear hP
  go_wp2_with fail
  refine bodyPost_ret (v := .tuple #[mimV X.1 A3 c3, .int .i64 X.2]) ?_ rfl ?_
  · simp [results, Tryz.results70, go_sem, r0, r1, r2, mimV]
  · have hfar : ∀ g, A3 = some ⟨g, 0, none⟩ → w.heap.size ≠ g := fun g hg => by have := HF.out g hg; omega
    refine ⟨A3, c3, rfl, ?_, ?_, fun g hg => by have := HF.out g hg; omega⟩
    · exact (((HA3.out.set hfar _).set hfar _).set hfar _).more (by simp)
    · exact ((HB.out.setCell (show w.heap.size ≤ w.heap.size by omega) _).setCell (show w.heap.size ≤ w.heap.size by omega) _).setCell (show w.heap.size ≤ w.heap.size by omega) _

theorem extractL_sizes (l : List ByteArray) (hN : (joinL l).length ≤ 1099) : SizesM (extractL l).1 := by
  unfold extractL
  split
  · exact noM_sizes
  · have := (extractS_fit (allL l) (all_fit l hN).1 (allL l).length (Nat.le_refl _)).1
    rwa [List.take_length] at this

end Go.Proofs.YtcbhkcdphbffpaaGreatDoor
