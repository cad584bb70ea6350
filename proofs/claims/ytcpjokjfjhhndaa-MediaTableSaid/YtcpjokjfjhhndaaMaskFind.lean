/-
  Walks of package mask: which of some patterns is the first that matches; the living call.
-/
import Derived.Test.YtcpjokjfjhhndaaMaskTag
import Derived.Conc.MuLone
namespace Go.Proofs.Ytcpjokjfjhhndaa
open Go.RowKit
set_option linter.unusedSimpArgs false
set_option linter.unusedVariables false

/-- A pattern: its bytes, mask, what is passed over, its type. -/
structure Pat where
  b : ByteArray
  m : ByteArray
  k : ByteArray
  t : ByteArray

/-- Sizes that a machine can hold. -/
def Pat.ok (p : Pat) : Prop := p.b.size ≤ maxLen ∧ p.m.size ≤ maxLen ∧ p.k.size ≤ maxLen

def matchP (s : ByteArray) (p : Pat) : Bool := matchB s p.b p.m p.k

/-- The first pattern that matches; how many there are, if none does. -/
def findN (s : ByteArray) : List Pat → Nat
  | [] => 0
  | p :: r => if matchP s p then 0 else findN s r + 1

/-- The same; -1, if none does. -/
def findP (s : ByteArray) (ps : List Pat) : Int := if findN s ps < ps.length then (findN s ps : Int) else -1

/-- The first k do not match. -/
def NoneTo (s : ByteArray) (ps : List Pat) (k : Nat) : Prop := ∀ i (h : i < ps.length), i < k → matchP s ps[i] = false

theorem findN_at (s : ByteArray) (ps : List Pat) (k : Nat) (hk : k < ps.length) (h0 : NoneTo s ps k) (h : matchP s ps[k] = true) : findN s ps = k := by
  induction ps generalizing k with
  | nil => simp at hk
  | cons p r ih =>
    cases k with
    | zero => simp at h; simp [findN, h]
    | succ k =>
      have hp : matchP s p = false := h0 0 (by simp) (by omega)
      have := ih k (by simpa using hk) (fun i hi hik => h0 (i + 1) (by simpa using hi) (by omega)) (by simpa using h)
      simp [findN, hp, this]

theorem findN_none (s : ByteArray) (ps : List Pat) (h0 : NoneTo s ps ps.length) : findN s ps = ps.length := by
  induction ps with
  | nil => rfl
  | cons p r ih =>
    have hp : matchP s p = false := h0 0 (by simp) (by simp)
    have := ih (fun i hi hik => h0 (i + 1) (by simpa using hi) (by simpa using hik))
    simp [findN, hp, this]

theorem noneTo_step {s : ByteArray} {ps : List Pat} {k : Nat} (h : NoneTo s ps k) (hk : k < ps.length) (hm : matchP s ps[k] = false) : NoneTo s ps (k + 1) := fun i hi hik => by
  by_cases e : i = k
  · subst e; exact hm
  · exact h i hi (by omega)

/-- The cells of some patterns lie behind one another. -/
def PatsAt (w : World) (B : Nat) (A : Option Addr) (ps : List Pat) : Prop :=
  ps = [] ∨ ∃ g, A = some ⟨g, 0, none⟩ ∧ g < B ∧ ∀ i (h : i < ps.length), w.cell? ⟨g, i * 4, none⟩ = some (.string ps[i].b) ∧ w.cell? ⟨g, i * 4 + 1, none⟩ = some (.string ps[i].m) ∧
    w.cell? ⟨g, i * 4 + 2, none⟩ = some (.string ps[i].k) ∧ w.cell? ⟨g, i * 4 + 3, none⟩ = some (.string ps[i].t)

theorem PatsAt.below {w w' : World} {B : Nat} {A : Option Addr} {ps : List Pat} (h : PatsAt w B A ps) (hb : Below B w w') : PatsAt w' B A ps := by
  rcases h with h | ⟨g, hA, hg, hc⟩
  · exact .inl h
  · refine .inr ⟨g, hA, hg, fun i hi => ?_⟩
    obtain ⟨h1, h2, h3, h4⟩ := hc i hi
    exact ⟨by rw [cell_below hb hg]; exact h1, by rw [cell_below hb hg]; exact h2, by rw [cell_below hb hg]; exact h3, by rw [cell_below hb hg]; exact h4⟩

theorem PatsAt.more {w : World} {B B' : Nat} {A : Option Addr} {ps : List Pat} (h : PatsAt w B A ps) (hB : B ≤ B') : PatsAt w B' A ps := by
  rcases h with h | ⟨g, hA, hg, hc⟩
  · exact .inl h
  · exact .inr ⟨g, hA, by omega, hc⟩

theorem find1_any (s b m k t : ByteArray) (gs : Nat) (w : World) (hgs : gs < w.heap.size) (hc : w.cell? ⟨gs, 0, none⟩ = some (.string s)) (hs : s.size ≤ maxLen) (hb : b.size ≤ maxLen) (hm : m.size ≤ maxLen) :
    Calls Try.prog 86 #[patV b m k t, .pointer (some ⟨gs, 0, none⟩)] w fun e w' => e = .returned (.bool (matchB s b m k)) ∧ Below w.heap.size w w' := by
  go_enter Try.func86, Try.ntmps86
  go_wp2_with (go_at_call 65; refine (match_any s b m k t _ hs hb hm).mono ?_; rintro e w1 ⟨rfl, hb1⟩)
  go_ret
  exact ⟨rfl, below_after hb1⟩

set_option maxHeartbeats 400000 in
theorem indexFunc_any (s : ByteArray) (ps : List Pat) (A : Option Addr) (c gs : Nat) (w : World) (hgs : gs < w.heap.size) (hc : w.cell? ⟨gs, 0, none⟩ = some (.string s)) (hs : s.size ≤ maxLen) (hps : ∀ i (h : i < ps.length), ps[i].ok) (hn : ps.length ≤ 1000)
    (hA : PatsAt w w.heap.size A ps) :
    Calls Try.prog 85 #[.slice A ps.length c, .func (.func 86) #[] #[.pointer (some ⟨gs, 0, none⟩)]] w fun e w' => e = .returned (.int .i64 (findP s ps)) ∧ Below w.heap.size w w' := by
  have hcf : ∀ (args : Array Value) (w : World), (callFunc 86 args).run Try.prog w = .ok (.enter 86 args) w := fun args w => MuLone.run_callFunc_enter Try.func86 (by kernel_rfl) rfl args w
  have HP := Lib.hid hps; clear hps
  have HA := Lib.hid hA; clear hA
  go_enter Try.func85, Try.ntmps85
  go_wp2_with fail
  go_loopw [8] (fun i wr => ∃ n : Nat, n ≤ ps.length ∧ i = .int .i64 n ∧ NoneTo s ps n ∧ Below w.heap.size w wr) (fun i _ => ps.length - (intOf i).toNat)
  case atStart => exact ⟨0, Nat.zero_le _, rfl, fun i _ h => by omega, Below.refl _ _⟩
  case round =>
    obtain ⟨n, hn, rfl, h0, hb⟩ := hrel
    have H0 := Lib.hid h0; clear h0
    by_cases hlt : n < ps.length
    · have hz := hb.size
      have hA2 := HA.out.below hb
      rcases hA2 with hnil | ⟨g, rfl, hg, hcs⟩
      · rw [hnil] at hlt; simp at hlt
      obtain ⟨c0, c1, c2, c3⟩ := hcs n hlt
      have hcg : wr.cell? ⟨gs, 0, none⟩ = some (.string s) := by rw [cell_below hb hgs]; exact hc
      have HO := Lib.hid (HP.out n hlt)
      have HB := Lib.hid hb
      have HG := Lib.hid (show gs < wr.heap.size by omega)
      clear hcs hb
      cases hm : matchP s ps[n]
      · have HS := Lib.hid (noneTo_step H0.out hlt hm)
        have HM : Hid (matchB s ps[n].b ps[n].m ps[n].k = false) := Lib.hid hm
        clear hm
        generalize ps[n] = p at *
        go_wp2_with fail
        refine (find1_any s p.b p.m p.k p.t gs _ HG.out hcg hs HO.out.1 HO.out.2.1).mono ?_
        rintro e w1 ⟨rfl, hb1⟩
        rw [HM.out]
        go_wp2_with fail
        go_roundw
        case rel => exact ⟨n + 1, by omega, by go_num, HS.out, HB.out.trans (hb1.mono HB.out.size)⟩
        case measure => simp [intOf]; omega
      · have HS := Lib.hid (findN_at s ps n hlt H0.out hm)
        have HM : Hid (matchB s ps[n].b ps[n].m ps[n].k = true) := Lib.hid hm
        clear hm
        generalize ps[n] = p at *
        go_wp2_with fail
        refine (find1_any s p.b p.m p.k p.t gs _ HG.out hcg hs HO.out.1 HO.out.2.1).mono ?_
        rintro e w1 ⟨rfl, hb1⟩
        rw [HM.out]
        go_wp2_with fail
        go_ret
        exact ⟨ret_int (by unfold findP; rw [HS.out, if_pos hlt]), HB.out.trans (hb1.mono HB.out.size)⟩
    · obtain rfl : n = ps.length := by omega
      have HS := Lib.hid (findN_none s ps H0.out)
      have HB := Lib.hid hb; clear hb
      go_wp2_with fail
      go_ret
      exact ⟨ret_int (by unfold findP; rw [HS.out, if_neg (by omega)]), HB.out⟩

theorem find_any (s : ByteArray) (ps : List Pat) (A : Option Addr) (c : Nat) (w : World) (hs : s.size ≤ maxLen) (hps : ∀ i (h : i < ps.length), ps[i].ok) (hn : ps.length ≤ 1000) (hA : PatsAt w w.heap.size A ps) :
    Calls Try.prog 63 #[.string s, .slice A ps.length c] w fun e w' => e = .returned (.int .i64 (findP s ps)) ∧ Below w.heap.size w w' := by
  have hmf : ∀ (fn : Fn) (first cap : Array Value) (w : World), (Instr.makeFunc fn first cap).run Try.prog w = .ok (.func fn first cap) w := fun _ _ _ _ => rfl
  have HP := Lib.hid hps; clear hps
  have HA := Lib.hid hA; clear hA
  go_enter Try.func63, Try.ntmps63
  go_wp2_with fail
  refine (indexFunc_any s ps A c w.heap.size _ (by simp) (by simp [go_sem]) hs HP.out hn ?_).mono ?_
  · exact (HA.out.below (below_box _ _)).more (by simp)
  rintro e w1 ⟨rfl, hb1⟩
  go_wp2_with fail
  go_ret
  exact ⟨rfl, below_after hb1⟩

/-- The type of the first pattern that matches; empty, if none does. -/
def typeP (s : ByteArray) (ps : List Pat) : ByteArray := match ps[findN s ps]? with | some p => p.t | none => ⟨#[]⟩

theorem typeP_at {s : ByteArray} {ps : List Pat} (h : findN s ps < ps.length) : typeP s ps = ps[findN s ps].t := by
  unfold typeP; rw [List.getElem?_eq_getElem h]

theorem typeP_none {s : ByteArray} {ps : List Pat} (h : ¬ findN s ps < ps.length) : typeP s ps = ⟨#[]⟩ := by
  unfold typeP; rw [List.getElem?_eq_none (by omega)]

theorem Type_any (s : ByteArray) (ps : List Pat) (A : Option Addr) (c : Nat) (w : World) (hs : s.size ≤ maxLen) (hps : ∀ i (h : i < ps.length), ps[i].ok) (hn : ps.length ≤ 1000) (hA : PatsAt w w.heap.size A ps) :
    Calls Try.prog 20 #[.string s, .slice A ps.length c] w fun e w' => e = .returned (.string (typeP s ps)) ∧ Below w.heap.size w w' := by
  have HP := Lib.hid hps; clear hps
  have HA := Lib.hid hA; clear hA
  by_cases h : findN s ps < ps.length
  · have HT := Lib.hid (typeP_at h)
    have HF : Hid (findP s ps = (findN s ps : Int)) := Lib.hid (if_pos h)
    generalize findN s ps = i at *
    go_enter Try.func20, Try.ntmps20
    go_wp2_with fail
    refine (find_any s ps A c _ hs HP.out hn HA.out).mono ?_
    rintro e w1 ⟨rfl, hb1⟩
    rw [HF.out]
    rcases HA.out.below hb1 with hnil | ⟨g, rfl, hg, hcs⟩
    · rw [hnil] at h; simp at h
    obtain ⟨c0, c1, c2, c3⟩ := hcs i h
    clear hcs c0 c1 c2
    generalize ps[i] = p at *
    go_wp2_with fail
    go_ret
    exact ⟨ret_string HT.out.symm, hb1⟩
  · have HT := Lib.hid (typeP_none h)
    have HF : Hid (findP s ps = -1) := Lib.hid (if_neg h)
    go_enter Try.func20, Try.ntmps20
    go_wp2_with fail
    refine (find_any s ps A c _ hs HP.out hn HA.out).mono ?_
    rintro e w1 ⟨rfl, hb1⟩
    rw [HF.out]
    go_wp2_with fail
    go_ret
    exact ⟨ret_string HT.out.symm, hb1⟩

theorem First_mask (s : ByteArray) (ps : List Pat) (A : Option Addr) (c : Nat) (w : World) (hs : s.size ≤ maxLen) (hps : ∀ i (h : i < ps.length), ps[i].ok) (hn : ps.length ≤ 1000) (hA : PatsAt w w.heap.size A ps) :
    Calls Try.prog 18 #[.string s, .slice A ps.length c] w fun e w' => e = .returned (.tuple #[.int .i64 (max (findP s ps) 0), .bool (decide (0 ≤ findP s ps))]) ∧ Below w.heap.size w w' := by
  have HP := Lib.hid hps; clear hps
  have HA := Lib.hid hA; clear hA
  have HC := fun (w : World) (h : PatsAt w w.heap.size A ps) => find_any s ps A c w hs HP.out hn h
  have HC2 := Lib.hid HC
  clear HC
  generalize findP s ps = i at *
  by_cases h : 0 ≤ i
  · go_enter Try.func18, Try.ntmps18
    go_wp2_with (go_at_call 63; refine (HC2.out _ HA.out).mono ?_; rintro e w1 ⟨rfl, hb1⟩)
    all_goals go_ret2
    all_goals exact ⟨ret_ib (by omega) (by first | exact decide_eq_decide.2 (by omega) | exact (decide_eq_false (by omega)).symm | exact (decide_eq_true (by omega)).symm | (rw [Bool.eq_iff_iff]; simp only [Bool.or_eq_true, Bool.and_eq_true, beq_iff_eq, bne_iff_ne, ne_eq, decide_eq_true_eq, Bool.not_eq_true, Bool.false_eq_true, true_iff, false_iff, iff_true, iff_false] <;> omega)), hb1⟩
  · go_enter Try.func18, Try.ntmps18
    go_wp2_with (go_at_call 63; refine (HC2.out _ HA.out).mono ?_; rintro e w1 ⟨rfl, hb1⟩)
    all_goals go_ret2
    all_goals exact ⟨ret_ib (by omega) (by first | exact decide_eq_decide.2 (by omega) | exact (decide_eq_false (by omega)).symm | exact (decide_eq_true (by omega)).symm | (rw [Bool.eq_iff_iff]; simp only [Bool.or_eq_true, Bool.and_eq_true, beq_iff_eq, bne_iff_ne, ne_eq, decide_eq_true_eq, Bool.not_eq_true, Bool.false_eq_true, true_iff, false_iff, iff_true, iff_false] <;> omega)), hb1⟩

/-- The tag of the living call. -/
def livesPat : Pat := ⟨tagB ⟨#[60, 80]⟩, maskB ⟨#[60, 80]⟩, tagSkip, ⟨#[116, 101, 120, 116, 47, 104, 116, 109, 108]⟩⟩

theorem livesPat_ok : ∀ i (h : i < [livesPat].length), [livesPat][i].ok := by
  have h0 : livesPat.ok := by unfold Pat.ok maxLen; decide +kernel
  intro i h
  match i, h with
  | 0, _ => exact h0

set_option maxRecDepth 20000 in
theorem lives06_any (w : World) :
    Calls Try.prog 21 #[] w fun e w' => e = .returned (.bool true) ∧ Below w.heap.size w w' := by
  have h1 : Hid (matchB ⟨#[32, 32, 60, 112, 62]⟩ (tagB ⟨#[60, 80]⟩) (maskB ⟨#[60, 80]⟩) tagSkip = true) := Lib.hid (by decide +kernel)
  have h2 : Hid (matchB ⟨#[60, 113]⟩ (tagB ⟨#[60, 80]⟩) (maskB ⟨#[60, 80]⟩) tagSkip = false) := Lib.hid (by decide +kernel)
  have h3 : Hid (typeP ⟨#[60, 80]⟩ [livesPat] = ⟨#[116, 101, 120, 116, 47, 104, 116, 109, 108]⟩) := Lib.hid (by decide +kernel)
  have hb : (tagB ⟨#[60, 80]⟩).size ≤ maxLen := by unfold maxLen; decide +kernel
  have hm : (maskB ⟨#[60, 80]⟩).size ≤ maxLen := by unfold maxLen; decide +kernel
  have HB := Lib.hid hb
  have HM := Lib.hid hm
  clear hb hm
  go_enter Try.func21, Try.ntmps21
  go_wp2_with fail
  refine (Tag_any ⟨#[60, 80]⟩ _ _ (by decide)).mono ?_
  rintro e w1 ⟨rfl, hb1⟩
  go_wp2_with fail
  refine (Match_any _ _ _ _ _ _ (by unfold maxLen; decide) HB.out HM.out).mono ?_
  rintro e w2 ⟨rfl, hb2⟩
  rw [h1.out]
  obtain ⟨hc2, hf2⟩ := bcell hb2
  have hz2 : w1.heap.size < w2.heap.size := by have := hb2.size; simp at this; omega
  go_wp2_with fail
  refine (Match_any _ _ _ _ _ _ (by unfold maxLen; decide) HB.out HM.out).mono ?_
  rintro e w3 ⟨rfl, hb3⟩
  rw [h2.out]
  obtain ⟨hc3, hf3⟩ := bcell hb3
  have hz3 : w1.heap.size < w3.heap.size := by have := hb3.size; omega
  go_wp2_with fail
  refine (Type_any ⟨#[60, 80]⟩ [livesPat] _ _ _ (by unfold maxLen; decide) livesPat_ok (by decide) (.inr ⟨w3.heap.size, rfl, by simp, ?_⟩)).mono ?_
  · intro i h
    have hi : i = 0 := by simpa using h
    subst hi
    simp [go_sem, livesPat]
  rintro e w4 ⟨rfl, hb4⟩
  rw [h3.out]
  go_wp2_with fail
  go_ret
  have B1 : Below w.heap.size w w2 := below_step hb1 hb2
  have B2 := B1.trans (hb3.mono B1.size)
  exact ⟨rfl, below_step B2 hb4⟩

end Go.Proofs.Ytcpjokjfjhhndaa
