/-
  Walks of package mime: where a parameter stands; whether a type is good.
-/
import Derived.Test.YtigclegknofhmaaMimeA
namespace Go.Proofs.Ytigclegknofhmaa
open Go.RowKit
set_option linter.unusedSimpArgs false
set_option linter.unusedVariables false

/-- Parameters lie from a block's head on. -/
def ParsAt (w : World) (B : Nat) (A : Option Addr) (l : Pars) : Prop :=
  l = [] ∨ ∃ g, A = some ⟨g, 0, none⟩ ∧ g < B ∧ ∀ i (h : i < l.length), w.cell? ⟨g, i * 2, none⟩ = some (.string (bt l[i].1)) ∧ w.cell? ⟨g, i * 2 + 1, none⟩ = some (.string (bt l[i].2))

theorem ParsAt.below {w w' : World} {B : Nat} {A : Option Addr} {l : Pars} (h : ParsAt w B A l) (hb : Below B w w') : ParsAt w' B A l := by
  rcases h with h | ⟨g, hA, hg, hc⟩
  · exact .inl h
  · refine .inr ⟨g, hA, hg, fun i hi => ?_⟩
    obtain ⟨h1, h2⟩ := hc i hi
    exact ⟨by rw [cell_below hb hg]; exact h1, by rw [cell_below hb hg]; exact h2⟩

theorem ParsAt.more {w : World} {B B' : Nat} {A : Option Addr} {l : Pars} (h : ParsAt w B A l) (hB : B ≤ B') : ParsAt w B' A l := by
  rcases h with h | ⟨g, hA, hg, hc⟩
  · exact .inl h
  · exact .inr ⟨g, hA, by omega, hc⟩

/-- Parameters that are there, whatever has been made since. -/
theorem ParsAt.on {w w' : World} {A : Option Addr} {l : Pars} (h : ParsAt w w.heap.size A l) (hb : Below w.heap.size w w') : ParsAt w' w'.heap.size A l :=
  (h.below hb).more hb.size

def SizesP (l : Pars) : Prop := l.length ≤ 1000 ∧ ∀ p ∈ l, p.1.length ≤ 1000 ∧ p.2.length ≤ 1000

structure SizesM (m : MimeL) : Prop where
  t : m.t.length ≤ 1000
  s : m.s.length ≤ 1000
  ps : SizesP m.ps

def mimV (m : MimeL) (A : Option Addr) (c : Nat) : Value := .agg #[.string (bt m.t), .string (bt m.s), .slice A m.ps.length c]

theorem bt_max {l : List UInt8} (h : l.length ≤ 1000) : (bt l).size ≤ maxLen := by
  rw [bt_size]; unfold maxLen; omega

/-- None of the first so many has the name. -/
def NoneQ (l : Pars) (n : List UInt8) (k : Nat) : Prop := ∀ i (h : i < l.length), i < k → l[i].1 ≠ n

theorem noneQ_step {l : Pars} {n : List UInt8} {k : Nat} (h : NoneQ l n k) (hk : k < l.length) (hn : l[k].1 ≠ n) : NoneQ l n (k + 1) := by
  intro i hi hlt
  by_cases e : i = k
  · subst e; exact hn
  · exact h i hi (by omega)

theorem atL_found {l : Pars} {n : List UInt8} {k : Nat} (h : NoneQ l n k) (hk : k < l.length) (hn : l[k].1 = n) : atL l n = k := by
  induction l generalizing k with
  | nil => simp at hk
  | cons p r ih =>
    unfold atL
    cases k with
    | zero => rw [if_pos (by simpa using hn)]; rfl
    | succ k =>
      have h0 : p.1 ≠ n := h 0 (by simp) (by omega)
      rw [if_neg h0, ih (k := k) (fun i hi hlt => h (i + 1) (by simp; omega) (by omega)) (by simpa using hk) (by simpa using hn)]
      rw [if_neg (by omega)]
      omega

theorem atL_none {l : Pars} {n : List UInt8} (h : NoneQ l n l.length) : atL l n = -1 := by
  induction l with
  | nil => rfl
  | cons p r ih =>
    unfold atL
    have h0 : p.1 ≠ n := h 0 (by simp) (by simp)
    rw [if_neg h0, ih (fun i hi hlt => h (i + 1) (by simp; omega) (by simp; omega))]
    rfl

theorem eq_text (a : List UInt8) (s : ByteArray) : ((bt a).toList == s.toList) = (a == s.data.toList) := by
  rw [Lib.toList_data, Lib.toList_data]
  rfl

theorem find1m_any (n v : List UInt8) (s : ByteArray) (gs : Nat) (w : World) (hgs : gs < w.heap.size) (hc : w.cell? ⟨gs, 0, none⟩ = some (.string s)) :
    Calls Try.prog 86 #[.agg #[.string (bt n), .string (bt v)], .pointer (some ⟨gs, 0, none⟩)] w fun e w' => e = .returned (.bool (n == s.data.toList)) ∧ Below w.heap.size w w' := by
  have HE := Lib.hid (eq_text n s)
  generalize bt n = N at *
  go_enter Try.func86, Try.ntmps86
  go_wp2_with fail
  go_ret
  exact ⟨ret_bool HE.out, below_box _ _⟩

set_option maxHeartbeats 400000 in
theorem indexPar_any (s : ByteArray) (l : Pars) (A : Option Addr) (c gs : Nat) (w : World) (hgs : gs < w.heap.size) (hc : w.cell? ⟨gs, 0, none⟩ = some (.string s)) (hn : l.length ≤ 1000)
    (hA : ParsAt w w.heap.size A l) :
    Calls Try.prog 85 #[.slice A l.length c, .func (.func 86) #[] #[.pointer (some ⟨gs, 0, none⟩)]] w fun e w' => e = .returned (.int .i64 (atL l s.data.toList)) ∧ Below w.heap.size w w' := by
  have hcf : ∀ (args : Array Value) (w : World), (callFunc 86 args).run Try.prog w = .ok (.enter 86 args) w := fun args w => MuLone.run_callFunc_enter Try.func86 (by kernel_rfl) rfl args w
  have HA := Lib.hid hA; clear hA
  go_enter Try.func85, Try.ntmps85
  go_wp2_with fail
  go_loopw [8] (fun i wr => ∃ n : Nat, n ≤ l.length ∧ i = .int .i64 n ∧ NoneQ l s.data.toList n ∧ Below w.heap.size w wr) (fun i _ => l.length - (intOf i).toNat)
  case atStart => exact ⟨0, Nat.zero_le _, rfl, fun i _ h => by omega, Below.refl _ _⟩
  case round =>
    obtain ⟨n, hn, rfl, h0, hb⟩ := hrel
    have H0 := Lib.hid h0; clear h0
    by_cases hlt : n < l.length
    · have hz := hb.size
      have hA2 := HA.out.below hb
      rcases hA2 with hnil | ⟨g, rfl, hg, hcs⟩
      · rw [hnil] at hlt; simp at hlt
      obtain ⟨c0, c1⟩ := hcs n hlt
      have hcg : wr.cell? ⟨gs, 0, none⟩ = some (.string s) := by rw [cell_below hb hgs]; exact hc
      have HB := Lib.hid hb
      have HG := Lib.hid (show gs < wr.heap.size by omega)
      have HC := Lib.hid (find1m_any l[n].1 l[n].2 s gs wr HG.out hcg)
      clear hcs hb
      by_cases hm : l[n].1 = s.data.toList
      · have HS := Lib.hid (atL_found H0.out hlt hm)
        rw [hm, beq_self_eq_true] at HC
        rw [hm] at c0
        clear hm
        generalize l[n] = p at *
        go_wp2_with fail
        refine HC.out.mono ?_
        rintro e w1 ⟨rfl, hb1⟩
        have HB1 := Lib.hid hb1
        clear hb1
        go_wp2_with fail
        go_ret
        exact ⟨ret_int HS.out.symm, HB.out.trans (HB1.out.mono HB.out.size)⟩
      · have HS := Lib.hid (noneQ_step H0.out hlt hm)
        rw [beq_eq_false_iff_ne.2 hm] at HC
        clear hm
        generalize l[n] = p at *
        go_wp2_with fail
        refine HC.out.mono ?_
        rintro e w1 ⟨rfl, hb1⟩
        have HB1 := Lib.hid hb1
        clear hb1
        go_wp2_with fail
        go_roundw
        case rel => exact ⟨n + 1, by omega, by go_num, HS.out, HB.out.trans (HB1.out.mono HB.out.size)⟩
        case measure => simp [intOf]; omega
    · obtain rfl : n = l.length := by omega
      have HS := Lib.hid (atL_none H0.out)
      go_wp2_with fail
      go_ret
      exact ⟨ret_int HS.out.symm, hb⟩

theorem find_par (m : MimeL) (A : Option Addr) (c : Nat) (s : ByteArray) (w : World) (hm : SizesM m) (hA : ParsAt w w.heap.size A m.ps) :
    Calls Try.prog 50 #[mimV m A c, .string s] w fun e w' => e = .returned (.int .i64 (atL m.ps s.data.toList)) ∧ Below w.heap.size w w' := by
  obtain ⟨t, u, l⟩ := m
  have hl := hm.ps.1
  dsimp only at hA hl ⊢
  have HL := Lib.hid hl
  clear hm hl
  unfold mimV
  dsimp only
  have HI := Lib.hid (fun (w1 : World) (hgs : w.heap.size + 1 < w1.heap.size) (hc : w1.cell? ⟨w.heap.size + 1, 0, none⟩ = some (.string s)) (hA : ParsAt w1 w1.heap.size A l) => indexPar_any s l A c (w.heap.size + 1) w1 hgs hc HL.out hA)
  generalize atL l s.data.toList = r at *
  generalize bt t = T at *
  generalize bt u = U at *
  go_enter Try.func50, Try.ntmps50
  go_wp2_with fail
  refine (HI.out _ (by simp) (by simp [go_sem]) (hA.on ((below_box w _).alloc (by simp) _))).mono ?_
  rintro e w1 ⟨rfl, hb1⟩
  have HB1 := Lib.hid (((below_box w (.cells #[.string T, .string U, .slice A l.length c] 48)).alloc (by simp) (.cells #[.string s] 9)).trans (hb1.mono (by simp; omega)))
  clear hb1
  go_wp2_with fail
  go_ret
  exact ⟨rfl, HB1.out⟩

set_option maxHeartbeats 400000 in
theorem rAt_par (m : MimeL) (A : Option Addr) (c : Nat) (s : ByteArray) (w : World) (hm : SizesM m) (hA : ParsAt w w.heap.size A m.ps) :
    Calls Try.prog 23 #[mimV m A c, .string s] w fun e w' => e = .returned (.int .i64 (atL m.ps s.data.toList)) ∧ Below w.heap.size w w' := by
  obtain ⟨t, u, l⟩ := m
  have hl := hm.ps.1
  dsimp only at hA hl ⊢
  clear hm
  unfold mimV
  dsimp only
  have HA := Lib.hid hA; clear hA
  generalize bt t = T at *
  generalize bt u = U at *
  go_enter Try.func23, Try.ntmps23
  go_wp2_with fail
  go_loopw [5] (fun i wr => ∃ n : Nat, n ≤ l.length ∧ i = .int .i64 n ∧ NoneQ l s.data.toList n ∧ Below w.heap.size w wr ∧ w.heap.size < wr.heap.size ∧ wr.cell? ⟨w.heap.size, 2, none⟩ = some (.slice A l.length c)) (fun i _ => l.length - (intOf i).toNat)
  case atStart => exact ⟨0, Nat.zero_le _, rfl, fun i _ h => by omega, below_box _ _, by simp, by simp [go_sem]⟩
  case round =>
    obtain ⟨n, hn, rfl, h0, hb, hz1, d2⟩ := hrel
    have H0 := Lib.hid h0; clear h0
    have HB := Lib.hid hb
    have HD2 := Lib.hid d2
    by_cases hlt : n < l.length
    · have hz := hb.size
      have hA2 := HA.out.below hb
      rcases hA2 with hnil | ⟨g, rfl, hg, hcs⟩
      · rw [hnil] at hlt; simp at hlt
      obtain ⟨c0, c1⟩ := hcs n hlt
      have HE := Lib.hid (eq_text l[n].1 s)
      clear hcs hb
      by_cases hm : l[n].1 = s.data.toList
      · have HS := Lib.hid (atL_found H0.out hlt hm)
        have HX : Hid (((bt l[n].1).toList == s.toList) = true) := Lib.hid (by rw [HE.out, hm, beq_self_eq_true])
        clear hm HE
        generalize bt l[n].1 = N at *
        generalize l[n] = p at *
        have hx := HX.out
        go_wp2_with fail
        go_ret
        exact ⟨ret_int HS.out.symm, HB.out⟩
      · have HS := Lib.hid (noneQ_step H0.out hlt hm)
        have HX : Hid (((bt l[n].1).toList == s.toList) = false) := Lib.hid (by rw [HE.out, beq_eq_false_iff_ne.2 hm])
        clear hm HE
        generalize bt l[n].1 = N at *
        generalize l[n] = p at *
        have hx := HX.out
        go_wp2_with fail
        go_roundw
        case rel => exact ⟨n + 1, by omega, by go_num, HS.out, HB.out, hz1, HD2.out⟩
        case measure => simp [intOf]; omega
    · obtain rfl : n = l.length := by omega
      have HS := Lib.hid (atL_none H0.out)
      clear hb
      go_wp2_with fail
      go_ret
      exact ⟨ret_int HS.out.symm, HB.out⟩

end Go.Proofs.Ytigclegknofhmaa
