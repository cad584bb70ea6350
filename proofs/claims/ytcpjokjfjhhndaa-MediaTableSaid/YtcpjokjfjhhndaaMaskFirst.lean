/-
  Walks: the reference's first pattern that matches.
-/
import Derived.Test.YtcpjokjfjhhndaaMaskFind
import Derived.Test.YtcpjokjfjhhndaaMaskFew
import Derived.Deep.Slices
import Derived.Deep.AppendLies
namespace Go.Proofs.Ytcpjokjfjhhndaa
open Go.RowKit
set_option linter.unusedSimpArgs false
set_option linter.unusedVariables false

theorem rFirst_any (s : ByteArray) (ps : List Pat) (A : Option Addr) (c : Nat) (w : World) (hs : s.size ≤ maxLen) (hps : ∀ i (h : i < ps.length), ps[i].ok) (hn : ps.length ≤ 1000) (hA : PatsAt w w.heap.size A ps) :
    Calls Try.prog 19 #[.string s, .slice A ps.length c] w fun e w' => e = .returned (.int .i64 (findP s ps)) ∧ Below w.heap.size w w' := by
  have HP := Lib.hid hps; clear hps
  have HA := Lib.hid hA; clear hA
  go_enter Try.func19, Try.ntmps19
  go_wp2_with fail
  go_loopw [5] (fun i wr => ∃ n : Nat, n ≤ ps.length ∧ i = .int .i64 n ∧ NoneTo s ps n ∧ Below w.heap.size w wr) (fun i _ => ps.length - (intOf i).toNat)
  case atStart => exact ⟨0, Nat.zero_le _, rfl, fun i _ h => by omega, Below.refl _ _⟩
  case round =>
    obtain ⟨n, hn, rfl, h0, hb⟩ := hrel
    have H0 := Lib.hid h0; clear h0
    by_cases hlt : n < ps.length
    · have hz := hb.size
      have hA2 := HA.out.below hb
      rcases hA2 with hnil | ⟨g, rfl, hg, hcs⟩
      · rw [hnil] at hlt; simp at hlt
      obtain ⟨c0, c1, c2, c3⟩ := hcs n hlt
      have HO := Lib.hid (HP.out n hlt)
      have HB := Lib.hid hb
      clear hcs hb
      cases hm : matchP s ps[n]
      · have HS := Lib.hid (noneTo_step H0.out hlt hm)
        have HM : Hid (matchB s ps[n].b ps[n].m ps[n].k = false) := Lib.hid hm
        clear hm
        generalize ps[n] = p at *
        go_wp2_with fail
        refine (rMatch_any s p.b p.m p.k p.t _ hs HO.out.1 HO.out.2.1 HO.out.2.2).mono ?_
        rintro e w1 ⟨rfl, hb1⟩
        rw [HM.out]
        go_wp2_with fail
        go_roundw
        case rel => exact ⟨n + 1, by omega, by go_num, HS.out, HB.out.trans (hb1.mono HB.out.size)⟩
        case measure => simp [intOf]; omega
      · have HS := Lib.hid (findN_at s ps n hlt H0.out hm)
        have HM : Hid (matchB s ps[n].b ps[n].m ps[n].k = true) := Lib.hid hm
        clear hm
        generalize ps[n] = p at *
        go_wp2_with fail
        refine (rMatch_any s p.b p.m p.k p.t _ hs HO.out.1 HO.out.2.1 HO.out.2.2).mono ?_
        rintro e w1 ⟨rfl, hb1⟩
        rw [HM.out]
        go_wp2_with fail
        go_ret
        exact ⟨ret_int (by unfold findP; rw [HS.out, if_pos hlt]), HB.out.trans (hb1.mono HB.out.size)⟩
    · obtain rfl : n = ps.length := by omega
      have HS := Lib.hid (findN_none s ps H0.out)
      have HB := Lib.hid hb; clear hb
      go_wp2_with fail
      go_ret
      exact ⟨ret_int (by unfold findP; rw [HS.out, if_neg (by omega)]), HB.out⟩

/-- A pattern's cells, and those of some patterns. -/
def patCells (p : Pat) : List Value := [.string p.b, .string p.m, .string p.k, .string p.t]
def rowP (ps : List Pat) : List Value := ps.flatMap patCells

theorem rowP_length (ps : List Pat) : (rowP ps).length = ps.length * 4 := by
  induction ps with
  | nil => rfl
  | cons p r ih => simp only [rowP, List.flatMap_cons, List.length_append, List.length_cons] at *; rw [ih]; simp [patCells]; omega

theorem rowP_snoc (ps : List Pat) (p : Pat) : rowP (ps ++ [p]) = rowP ps ++ patCells p := by simp [rowP]

theorem rowP_at (ps : List Pat) (i : Nat) (hi : i < ps.length) (j : Nat) (hj : j < 4) : (rowP ps)[i * 4 + j]? = (patCells ps[i])[j]? := by
  induction ps generalizing i with
  | nil => simp at hi
  | cons p r ih =>
    cases i with
    | zero =>
      simp only [rowP, List.flatMap_cons]
      rw [List.getElem?_append_left (by simp [patCells]; omega)]
      simp
    | succ i =>
      simp only [rowP, List.flatMap_cons]
      rw [List.getElem?_append_right (by simp [patCells]; omega)]
      have := ih i (by simpa using hi)
      rw [show (i + 1) * 4 + j - (patCells p).length = i * 4 + j by simp [patCells]; omega]
      simpa [rowP] using this

/-- A row of one's own holds patterns. -/
theorem patsAt_own {w : World} {base : Nat} {e : TypeId} {A : Option Addr} {n c : Nat} {ps : List Pat} (h : w.ownsRow base e 4 (.slice A n c) n (rowP ps)) (hn : n = ps.length) : PatsAt w w.heap.size A ps := by
  subst hn
  cases hps : ps with
  | nil => exact .inl rfl
  | cons p r =>
    rw [← hps]
    right
    have hlen : 0 < ps.length := by rw [hps]; simp
    rcases h.2 with ⟨hv, hz⟩ | ⟨g, cap, cur, hv, hb, hg, _⟩
    · omega
    · have hv2 := hv
      simp only [Value.slice.injEq] at hv2
      obtain ⟨rfl, _, rfl⟩ := hv2
      refine ⟨g, rfl, (h.lt g rfl).2, fun i hi => ?_⟩
      have hc : ∀ j, j < 4 → w.cell? ⟨g, i * 4 + j, none⟩ = (patCells ps[i])[j]? := fun j hj => by
        rw [h.cellAt (i * 4 + j) (by omega), rowP_at ps i hi j hj]
      exact ⟨by simpa [patCells] using hc 0 (by omega), by simpa [patCells] using hc 1 (by omega), by simpa [patCells] using hc 2 (by omega), by simpa [patCells] using hc 3 (by omega)⟩

/-- Patterns that came in. -/
def PatsIn (w : World) (A : Option Addr) (ps : List Pat) : Prop :=
  ps = [] ∨ ∃ b off, A = some ⟨b, off, none⟩ ∧ b < w.heap.size ∧ ∀ i (h : i < ps.length), w.cell? ⟨b, off + i * 4, none⟩ = some (.string ps[i].b) ∧ w.cell? ⟨b, off + i * 4 + 1, none⟩ = some (.string ps[i].m) ∧
    w.cell? ⟨b, off + i * 4 + 2, none⟩ = some (.string ps[i].k) ∧ w.cell? ⟨b, off + i * 4 + 3, none⟩ = some (.string ps[i].t)

def Pat.held (p : Pat) : Prop := p.b.size ≤ maxLen ∧ p.m.size ≤ maxLen ∧ p.k.size ≤ maxLen ∧ p.t.size ≤ maxLen

instance : Inhabited Pat := ⟨⟨⟨#[]⟩, ⟨#[]⟩, ⟨#[]⟩, ⟨#[]⟩⟩⟩

open Go.ChangeShapes Go.WideShapes Go.Deep in
/-- A slice of structs of four texts, opened. -/
theorem open_pats {H : Type} {enc : TypeId × Value → H} {P : Program} {w : World} {base : Nat} {spare : Nat → Bool} {held : Bool} {t e ts : TypeId} {f0 f1 f2 f3 : Field} {A : Option Addr} {len cap : Nat} {d : DataW H} {q : List MemPlace}
    (ht : P.underlying t = some (.slice e)) (he : P.underlying e = some (.struct #[f0, f1, f2, f3])) (ce : P.cellsOf e = 4) (o0 : f0.offset = 0) (o1 : f1.offset = 1) (o2 : f2.offset = 2) (o3 : f3.offset = 3)
    (t0 : f0.type = ts) (t1 : f1.type = ts) (t2 : f2.type = ts) (t3 : f3.type = ts) (cs : P.cellsOf ts = 1) (hs : P.underlying ts = some .string)
    (h : DataW.Trod enc P w base spare held t (.slice A len cap) d q) :
    ∃ ps : List Pat, ps.length = len ∧ PatsIn w A ps ∧ (∀ i (h : i < ps.length), ps[i].held) ∧ len ≤ maxLen := by
  obtain ⟨fuel, hf⟩ := h
  rcases open_slice ht hf with ⟨h0, _⟩ | ⟨a, len', cap', m, n, D, Pl, hc, hb, hl, hm, hmm, _, hx⟩
  · simp [Value.cells] at h0
    obtain ⟨_, rfl, _⟩ := h0
    exact ⟨[], rfl, .inl rfl, fun i h => by simp at h, Nat.zero_le _⟩
  simp [Value.cells] at hc
  obtain ⟨rfl, rfl, rfl⟩ := hc
  have hlm : len ≤ m := by rw [hmm]; split <;> omega
  have each : ∀ i, i < len → ∃ p : Pat, w.cell? (a.add (i * 4)) = some (.string p.b) ∧ w.cell? (a.add (i * 4 + 1)) = some (.string p.m) ∧ w.cell? (a.add (i * 4 + 2)) = some (.string p.k) ∧ w.cell? (a.add (i * 4 + 3)) = some (.string p.t) ∧ p.held := by
    intro i hi
    obtain ⟨cs', h1, h2⟩ := hx i (by omega)
    rw [ce] at h1
    obtain ⟨_, hlen, hcell⟩ := World.cells?_some h1
    obtain ⟨xs, k, hk, hxy, _, hxl, hf⟩ := DataW.trod_struct he h2
    match xs, hxl, cs', hlen with
    | [y0, y1, y2, y3], _, [v0, v1, v2, v3], _ =>
      have g0 := hf 0 f0 rfl
      have g1 := hf 1 f1 rfl
      have g2 := hf 2 f2 rfl
      have g3 := hf 3 f3 rfl
      simp [o0, o1, o2, o3, t0, t1, t2, t3, cs] at g0 g1 g2 g3
      have e0 := hcell 0 (by omega)
      have e1 := hcell 1 (by omega)
      have e2 := hcell 2 (by omega)
      have e3 := hcell 3 (by omega)
      rw [add_add] at e0 e1 e2 e3
      obtain ⟨b0, q0, _, s0⟩ := DataW.trod_string hs g0
      obtain ⟨b1, q1, _, s1⟩ := DataW.trod_string hs g1
      obtain ⟨b2, q2, _, s2⟩ := DataW.trod_string hs g2
      obtain ⟨b3, q3, _, s3⟩ := DataW.trod_string hs g3
      simp at q0 q1 q2 q3
      subst q0 q1 q2 q3
      exact ⟨⟨b0, b1, b2, b3⟩, by simpa using e0, by simpa using e1, by simpa using e2, by simpa using e3, s0, s1, s2, s3⟩
  obtain ⟨f, hfs⟩ := choose_lt each
  refine ⟨(List.range len).map f, by simp, ?_, ?_, by omega⟩
  · by_cases hz : len = 0
    · subst hz; exact .inl rfl
    right
    have h0 := (hfs 0 (by omega)).1
    rw [Nat.zero_mul, show a.add 0 = a from rfl] at h0
    obtain ⟨b, off, sp⟩ := a
    have hsp : sp = none := by
      cases sp with
      | none => rfl
      | some k =>
        simp only [World.cell?] at h0
        split at h0 <;> simp at h0
    subst hsp
    refine ⟨b, off, rfl, lt_of_cell h0, fun i hi => ?_⟩
    have hi' : i < len := by simpa using hi
    obtain ⟨h1, h2, h3, h4, _⟩ := hfs i hi'
    simp only [List.getElem_map, List.getElem_range]
    have hadd : ∀ k, (⟨b, off, none⟩ : Addr).add k = ⟨b, off + k, none⟩ := fun k => by
      unfold Addr.add
      split
      · rename_i hk; subst hk; rfl
      · rfl
    rw [hadd] at h1 h2 h3 h4
    exact ⟨h1, h2, h3, h4⟩
  · intro i hi
    have hi' : i < len := by simpa using hi
    simp only [List.getElem_map, List.getElem_range]
    exact (hfs i hi').2.2.2.2

/-- A pattern, somewhat cut. -/
def fewP (p : Pat) : Pat := ⟨cutB p.b 70, cutB p.m 70, cutB p.k 20, cutB p.t 40⟩

theorem fewP_ok (p : Pat) : (fewP p).ok := by
  unfold Pat.ok fewP
  simp only [cutB_size]
  unfold maxLen
  omega

theorem infoPat : (Try.prog.info? 25).map (fun i => (i.zero, i.size, i.bytes)) = some (some (.agg #[.string ⟨#[]⟩, .string ⟨#[]⟩, .string ⟨#[]⟩, .string ⟨#[]⟩]), 4, 64) := by kernel_rfl

theorem cell_four_new (w : World) (a b c d : Value) (e : TypeId) : ∀ j u, ([a, b, c, d] : List Value)[j]? = some u → (w.alloc (.cells #[a, b, c, d] e)).cell? ((⟨w.heap.size, 0, none⟩ : Addr).add j) = some u :=
  World.news_of_block (cs := #[a, b, c, d]) (heap_alloc_new w _)

end Go.Proofs.Ytcpjokjfjhhndaa
