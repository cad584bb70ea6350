/-
  Walks of package mime: a type's two names, a parameter's value, two types that are one.
-/
import Derived.Test.YtigclegknofhmaaMimeC
import Derived.Laws.StructEq
namespace Go.Proofs.Ytigclegknofhmaa
open Go.RowKit
set_option linter.unusedSimpArgs false
set_option linter.unusedVariables false

def essL (m : MimeL) : List UInt8 := m.t ++ 47 :: m.s

theorem bt_append (a b : List UInt8) : bt a ++ bt b = bt (a ++ b) := by
  apply bytes_ext
  rw [ByteArray.data_append, Array.toList_append]
  rfl

theorem essence_eq (m : MimeL) : bt m.t ++ ⟨#[47]⟩ ++ bt m.s = bt (essL m) := by
  show bt m.t ++ bt [47] ++ bt m.s = _
  rw [bt_append, bt_append]
  simp [essL]

theorem essence_par (m : MimeL) (A : Option Addr) (c : Nat) (w : World) (hm : SizesM m) :
    Calls Try.prog 70 #[mimV m A c] w fun e w' => e = .returned (.string (bt (essL m))) ∧ Below w.heap.size w w' := by
  have HE := Lib.hid (essence_eq m)
  have h1 : (bt m.t).size ≤ 1000 := by rw [bt_size]; exact hm.t
  have h2 : (bt m.s).size ≤ 1000 := by rw [bt_size]; exact hm.s
  have h3 : (⟨#[47]⟩ : ByteArray).size = 1 := rfl
  have h4 : (bt m.t ++ ⟨#[47]⟩).size = (bt m.t).size + 1 := ByteArray.size_append
  clear hm
  unfold mimV
  generalize bt (essL m) = R at *
  generalize bt m.t = T at *
  generalize bt m.s = U at *
  go_enter Try.func70, Try.ntmps70
  go_wp2_with fail
  go_ret
  exact ⟨ret_string HE.out, below_box _ _⟩

theorem Essence_par (m : MimeL) (A : Option Addr) (c : Nat) (w : World) (hm : SizesM m) :
    Calls Try.prog 34 #[mimV m A c] w fun e w' => e = .returned (.string (bt (essL m))) ∧ Below w.heap.size w w' := by
  have HG := Lib.hid (fun (w1 : World) => essence_par m A c w1 hm)
  clear hm
  unfold mimV at HG ⊢
  generalize bt (essL m) = R at *
  go_enter Try.func34, Try.ntmps34
  go_wp2_with fail
  refine (HG.out _).mono ?_
  rintro e w1 ⟨rfl, hb1⟩
  have HB1 := Lib.hid (below_after hb1)
  clear hb1
  go_wp2_with fail
  go_ret
  exact ⟨rfl, HB1.out⟩

theorem Param_yes (m : MimeL) (A : Option Addr) (c : Nat) (s : ByteArray) (w : World) (hm : SizesM m) (hA : ParsAt w w.heap.size A m.ps) (k : Nat) (hk : atL m.ps s.data.toList = k) (hlt : k < m.ps.length) :
    Calls Try.prog 22 #[mimV m A c, .string s] w fun e w' => e = .returned (.tuple #[.string (bt m.ps[k].2), .bool true]) ∧ Below w.heap.size w w' := by
  have HF := Lib.hid (fun (w1 : World) (hb : Below w.heap.size w w1) => find_par m A c s w1 hm (hA.on hb))
  rw [hk] at HF
  clear hk
  have hl := hm.ps.1
  clear hm
  obtain ⟨t, u, l⟩ := m
  dsimp only at *
  unfold mimV at HF ⊢
  dsimp only at *
  generalize bt t = T at *
  generalize bt u = U at *
  rcases hA with hnil | ⟨g, rfl, hg, hcs⟩
  · rw [hnil] at hlt; simp at hlt
  obtain ⟨c0, c1⟩ := hcs k hlt
  clear hcs
  generalize bt l[k].2 = V at *
  generalize bt l[k].1 = N at *
  go_enter Try.func22, Try.ntmps22
  go_wp2_with fail
  refine (HF.out _ (below_box _ _)).mono ?_
  rintro e w1 ⟨rfl, hb1⟩
  have HB1 := Lib.hid (below_after hb1)
  have d2 : w1.cell? ⟨w.heap.size, 2, none⟩ = some (.slice (some ⟨g, 0, none⟩) l.length c) := by rw [cell_below hb1 (by simp)]; simp [go_sem]
  rw [← cell_below HB1.out hg] at c0 c1
  clear hb1
  go_wp2_with fail
  go_ret2
  exact ⟨rfl, HB1.out⟩

theorem Param_no (m : MimeL) (A : Option Addr) (c : Nat) (s : ByteArray) (w : World) (hm : SizesM m) (hA : ParsAt w w.heap.size A m.ps) (hk : atL m.ps s.data.toList < 0) :
    Calls Try.prog 22 #[mimV m A c, .string s] w fun e w' => e = .returned (.tuple #[.string ⟨#[]⟩, .bool false]) ∧ Below w.heap.size w w' := by
  have HF := Lib.hid (fun (w1 : World) (hb : Below w.heap.size w w1) => find_par m A c s w1 hm (hA.on hb))
  generalize atL m.ps s.data.toList = k at *
  clear hm hA
  unfold mimV at HF ⊢
  go_enter Try.func22, Try.ntmps22
  go_wp2_with fail
  refine (HF.out _ (below_box _ _)).mono ?_
  rintro e w1 ⟨rfl, hb1⟩
  have HB1 := Lib.hid (below_after hb1)
  clear hb1
  go_wp2_with fail
  go_ret2
  exact ⟨rfl, HB1.out⟩

def sameM (m o : MimeL) : Bool := m.t == o.t && m.s == o.s && m.ps == o.ps

theorem sameM_self (m : MimeL) : sameM m m = true := by simp [sameM]

theorem sameM_iff (m o : MimeL) : sameM m o = true ↔ m = o := by
  obtain ⟨a, b, c⟩ := m
  obtain ⟨d, e, f⟩ := o
  simp [sameM, and_assoc]

def EqTo (l q : Pars) (n : Nat) : Prop := ∀ j (h1 : j < l.length) (h2 : j < q.length), j < n → l[j] = q[j]

theorem eqTo_all {l q : Pars} (hn : l.length = q.length) (h : EqTo l q l.length) : l = q :=
  List.ext_getElem hn fun j h1 h2 => h j h1 h2 h1

theorem eq_textL (a b : List UInt8) : ((bt a).toList == (bt b).toList) = (a == b) := by
  rw [Lib.toList_data, Lib.toList_data]
  rfl

theorem neq_par (a b c d : ByteArray) (w : World) : (binOp .neq 54 (.agg #[.string a, .string b]) (.agg #[.string c, .string d])).run Try.prog w = .ok (.bool (!(a.toList == c.toList && b.toList == d.toList))) w := by
  rw [run_neq_struct]
  simp [go_sem]
  by_cases h1 : a.toList = c.toList <;> by_cases h2 : b.toList = d.toList <;> simp [h1, h2]

theorem neq_pars (p q : List UInt8 × List UInt8) (w : World) : (binOp .neq 54 (.agg #[.string (bt p.1), .string (bt p.2)]) (.agg #[.string (bt q.1), .string (bt q.2)])).run Try.prog w = .ok (.bool (!decide (p = q))) w := by
  rw [neq_par, eq_textL, eq_textL]
  obtain ⟨a, b⟩ := p
  obtain ⟨c, d⟩ := q
  congr 3
  rw [Bool.eq_iff_iff]
  simp

set_option maxHeartbeats 4000000 in
set_option maxRecDepth 20000 in
theorem rSame_par (m o : MimeL) (A A2 : Option Addr) (c c2 : Nat) (w : World) (hm : SizesM m) (ho : SizesM o) (hA : ParsAt w w.heap.size A m.ps) (hA2 : ParsAt w w.heap.size A2 o.ps) :
    Calls Try.prog 26 #[mimV m A c, mimV o A2 c2] w fun e w' => e = .returned (.bool (sameM m o)) ∧ Below w.heap.size w w' := by
  have hl := hm.ps.1
  have hl2 := ho.ps.1
  clear hm ho
  obtain ⟨t, u, l⟩ := m
  obtain ⟨t2, u2, q⟩ := o
  unfold sameM mimV
  dsimp only at *
  have HE1 := Lib.hid (eq_textL t t2)
  have HE2 := Lib.hid (eq_textL u u2)
  have HA := Lib.hid hA
  have HA2 := Lib.hid hA2
  clear hA hA2
  obtain ⟨rt, hrt⟩ : ∃ r : Bool, (t == t2) = r := ⟨_, rfl⟩
  obtain ⟨ru, hru⟩ : ∃ r : Bool, (u == u2) = r := ⟨_, rfl⟩
  rw [hrt] at HE1 ⊢
  rw [hru] at HE2 ⊢
  clear hrt hru
  generalize bt t = T at *
  generalize bt u = U at *
  generalize bt t2 = T2 at *
  generalize bt u2 = U2 at *
  go_enter Try.func26, Try.ntmps26
  cases rt
  · have he1 := HE1.out
    go_wp2_with fail
    go_ret
    exact ⟨rfl, (below_box w _).alloc (by simp) _⟩
  · cases ru
    · have he1 := HE1.out
      have he2 := HE2.out
      go_wp2_with fail
      go_ret
      exact ⟨rfl, (below_box w _).alloc (by simp) _⟩
    · have he1 := HE1.out
      have he2 := HE2.out
      by_cases hn : l.length = q.length
      · have HLQ : Hid (l ≠ q → (l == q) = false) := Lib.hid (fun h => beq_eq_false_iff_ne.2 h)
        have HN := Lib.hid hn
        have hle : ((l.length : Int) == (q.length : Int)) = true := by rw [hn, beq_self_eq_true]
        clear hn
        go_wp2_with fail
        clear hle
        go_loopw [5] (fun i wr => ∃ n : Nat, n ≤ l.length ∧ i = .int .i64 n ∧ EqTo l q n ∧ Below w.heap.size w wr ∧ w.heap.size + 1 < wr.heap.size ∧ wr.cell? ⟨w.heap.size, 2, none⟩ = some (.slice A l.length c) ∧ wr.cell? ⟨w.heap.size + 1, 2, none⟩ = some (.slice A2 q.length c2)) (fun i _ => l.length - (intOf i).toNat)
        case atStart => exact ⟨0, Nat.zero_le _, rfl, fun j _ _ h => by omega, (below_box w _).alloc (by simp) _, by simp, by simp [go_sem], by simp [go_sem]⟩
        case round =>
          obtain ⟨n, hn', rfl, h0, hb, hz1, d2, d4⟩ := hrel
          have H0 := Lib.hid h0; clear h0
          have HB := Lib.hid hb
          have HD2 := Lib.hid d2
          have HD4 := Lib.hid d4
          have hz := hb.size
          by_cases hlt : n < l.length
          · rcases HA.out.below hb with hnil | ⟨g, rfl, hg, hcs⟩
            · rw [hnil] at hlt; simp at hlt
            obtain ⟨c0, c1⟩ := hcs n hlt
            have hlt2 : n < q.length := by have := HN.out; omega
            rcases HA2.out.below hb with hnil | ⟨g2, rfl, hg2, hcs2⟩
            · rw [hnil] at hlt2; simp at hlt2
            obtain ⟨c2', c3⟩ := hcs2 n hlt2
            have HSTEP : Hid (l[n] = q[n] → EqTo l q (n + 1)) := Lib.hid (fun h j h1 h2 hj => by
              by_cases e : j = n
              · subst e; exact h
              · exact H0.out j h1 h2 (by omega))
            have HNEQ : Hid (l[n] ≠ q[n] → l ≠ q) := Lib.hid (fun h e => h (by simp only [e]))
            clear hcs hcs2 hb
            have HX := Lib.hid (neq_pars l[n] q[n])
            have hgw : g < wr.heap.size := by omega
            have hgw2 : g2 < wr.heap.size := by omega
            have hzz : w.heap.size < wr.heap.size := by omega
            have hx := @InB.cells wr
            go_upto_region 6 with fail
            by_cases he : l[n] = q[n]
            · have HS := Lib.hid (HSTEP.out he)
              have hnq := HX.out
              rw [decide_eq_true he] at hnq
              clear HSTEP HNEQ he HX
              generalize l[n] = p at *
              generalize q[n] = p2 at *
              generalize bt p.1 = bN at *
              generalize bt p.2 = bV at *
              generalize bt p2.1 = bN2 at *
              generalize bt p2.2 = bV2 at *
              refine wp_region_inb (by kernel_rfl) (by kernel_rfl) ?_; (repeat (first | go_big_quiet_skip | (go_big_quiet_want; go_big_quiet_op; first | go_big_quiet_on | (apply Exists.intro; refine ⟨fun x => ?_, ?_⟩; (· (fail)); go_big_quiet_on)))); refine wpQuiet_nil ?_; intro _ hw'; obtain ⟨⟨wq, hbq⟩, rfl⟩ := hw'
              have HBQ := Lib.hid hbq
              have hz3 := hbq.size
              clear hbq
              go_wp2_with fail
              go_roundw
              case rel => exact ⟨n + 1, by omega, by go_num, HS.out, HB.out.trans (HBQ.out.mono hz), by omega, by rw [cell_below HBQ.out (by omega)]; exact HD2.out, by rw [cell_below HBQ.out (by omega)]; exact HD4.out⟩
              case measure => simp [intOf]; omega
            · have HS := Lib.hid (HLQ.out (HNEQ.out he))
              have hnq := HX.out
              rw [decide_eq_false he] at hnq
              clear HSTEP HNEQ he HX HLQ
              generalize l[n] = p at *
              generalize q[n] = p2 at *
              generalize bt p.1 = bN at *
              generalize bt p.2 = bV at *
              generalize bt p2.1 = bN2 at *
              generalize bt p2.2 = bV2 at *
              refine wp_region_inb (by kernel_rfl) (by kernel_rfl) ?_; (repeat (first | go_big_quiet_skip | (go_big_quiet_want; go_big_quiet_op; first | go_big_quiet_on | (apply Exists.intro; refine ⟨fun x => ?_, ?_⟩; (· (fail)); go_big_quiet_on)))); refine wpQuiet_nil ?_; intro _ hw'; obtain ⟨⟨wq, hbq⟩, rfl⟩ := hw'
              have HBQ := Lib.hid hbq
              clear hbq
              go_wp2_with fail
              go_ret
              exact ⟨ret_bool (by rw [HS.out]; rfl), HB.out.trans (HBQ.out.mono hz)⟩
          · obtain rfl : n = l.length := by omega
            have HS := Lib.hid (eqTo_all HN.out H0.out)
            clear hb
            go_wp2_with fail
            go_ret
            exact ⟨ret_bool (by rw [HS.out]; simp), HB.out⟩
      · go_wp2_with fail
        go_ret
        refine ⟨ret_bool ?_, (below_box w _).alloc (by simp) _⟩
        have : (l == q) = false := beq_eq_false_iff_ne.2 (fun e => hn (by rw [e]))
        simp [this]

set_option maxHeartbeats 4000000 in
set_option maxRecDepth 20000 in
theorem equal_pars (l q : Pars) (A A2 : Option Addr) (c c2 : Nat) (w : World) (hl : l.length ≤ 1000) (hl2 : q.length ≤ 1000) (hA : ParsAt w w.heap.size A l) (hA2 : ParsAt w w.heap.size A2 q) :
    Calls Try.prog 71 #[.slice A l.length c, .slice A2 q.length c2] w fun e w' => e = .returned (.bool (l == q)) ∧ Below w.heap.size w w' := by
  have HA := Lib.hid hA
  have HA2 := Lib.hid hA2
  clear hA hA2
  go_enter Try.func71, Try.ntmps71
  by_cases hn : l.length = q.length
  · have HLQ : Hid (l ≠ q → (l == q) = false) := Lib.hid (fun h => beq_eq_false_iff_ne.2 h)
    have HN := Lib.hid hn
    have hle : ((l.length : Int) == (q.length : Int)) = true := by rw [hn, beq_self_eq_true]
    clear hn
    go_wp2_with fail
    clear hle
    go_loopw [13] (fun i wr => ∃ n : Nat, n ≤ l.length ∧ i = .int .i64 n ∧ EqTo l q n ∧ Below w.heap.size w wr) (fun i _ => l.length - (intOf i).toNat)
    case atStart => exact ⟨0, Nat.zero_le _, rfl, fun j _ _ h => by omega, Below.refl _ _⟩
    case round =>
      obtain ⟨n, hn', rfl, h0, hb⟩ := hrel
      have H0 := Lib.hid h0; clear h0
      have HB := Lib.hid hb
      have hz := hb.size
      by_cases hlt : n < l.length
      · rcases HA.out.below hb with hnil | ⟨g, rfl, hg, hcs⟩
        · rw [hnil] at hlt; simp at hlt
        obtain ⟨c0, c1⟩ := hcs n hlt
        have hlt2 : n < q.length := by have := HN.out; omega
        rcases HA2.out.below hb with hnil | ⟨g2, rfl, hg2, hcs2⟩
        · rw [hnil] at hlt2; simp at hlt2
        obtain ⟨c2', c3⟩ := hcs2 n hlt2
        have HSTEP : Hid (l[n] = q[n] → EqTo l q (n + 1)) := Lib.hid (fun h j h1 h2 hj => by
          by_cases e : j = n
          · subst e; exact h
          · exact H0.out j h1 h2 (by omega))
        have HNEQ : Hid (l[n] ≠ q[n] → l ≠ q) := Lib.hid (fun h e => h (by simp only [e]))
        clear hcs hcs2 hb
        have HX := Lib.hid (neq_pars l[n] q[n])
        have hgw : g < wr.heap.size := by omega
        have hgw2 : g2 < wr.heap.size := by omega
        have hx := @InB.cells wr
        go_upto_region 6 with fail
        by_cases he : l[n] = q[n]
        · have HS := Lib.hid (HSTEP.out he)
          have hnq := HX.out
          rw [decide_eq_true he] at hnq
          clear HSTEP HNEQ he HX
          generalize l[n] = p at *
          generalize q[n] = p2 at *
          generalize bt p.1 = bN at *
          generalize bt p.2 = bV at *
          generalize bt p2.1 = bN2 at *
          generalize bt p2.2 = bV2 at *
          refine wp_region_inb (by kernel_rfl) (by kernel_rfl) ?_; (repeat (first | go_big_quiet_skip | (go_big_quiet_want; go_big_quiet_op; first | go_big_quiet_on | (apply Exists.intro; refine ⟨fun x => ?_, ?_⟩; (· (fail)); go_big_quiet_on)))); refine wpQuiet_nil ?_; intro _ hw'; obtain ⟨⟨wq, hbq⟩, rfl⟩ := hw'
          have HBQ := Lib.hid hbq
          clear hbq
          go_wp2_with fail
          go_roundw
          case rel => exact ⟨n + 1, by omega, by go_num, HS.out, HB.out.trans (HBQ.out.mono hz)⟩
          case measure => simp [intOf]; omega
        · have HS := Lib.hid (HLQ.out (HNEQ.out he))
          have hnq := HX.out
          rw [decide_eq_false he] at hnq
          clear HSTEP HNEQ he HX HLQ
          generalize l[n] = p at *
          generalize q[n] = p2 at *
          generalize bt p.1 = bN at *
          generalize bt p.2 = bV at *
          generalize bt p2.1 = bN2 at *
          generalize bt p2.2 = bV2 at *
          refine wp_region_inb (by kernel_rfl) (by kernel_rfl) ?_; (repeat (first | go_big_quiet_skip | (go_big_quiet_want; go_big_quiet_op; first | go_big_quiet_on | (apply Exists.intro; refine ⟨fun x => ?_, ?_⟩; (· (fail)); go_big_quiet_on)))); refine wpQuiet_nil ?_; intro _ hw'; obtain ⟨⟨wq, hbq⟩, rfl⟩ := hw'
          have HBQ := Lib.hid hbq
          clear hbq
          go_wp2_with fail
          go_ret
          exact ⟨ret_bool (by rw [HS.out]), HB.out.trans (HBQ.out.mono hz)⟩
      · obtain rfl : n = l.length := by omega
        have HS := Lib.hid (eqTo_all HN.out H0.out)
        clear hb
        go_wp2_with fail
        go_ret
        exact ⟨ret_bool (by rw [HS.out]; simp), HB.out⟩
  · have hle : ((l.length : Int) == (q.length : Int)) = false := beq_eq_false_iff_ne.2 (by omega)
    have HS : Hid ((l == q) = false) := Lib.hid (beq_eq_false_iff_ne.2 (fun e => hn (by rw [e])))
    clear hn
    go_wp2_with fail
    go_ret
    exact ⟨ret_bool HS.out.symm, Below.refl _ _⟩

set_option maxHeartbeats 1000000 in
theorem Same_par (m o : MimeL) (A A2 : Option Addr) (c c2 : Nat) (w : World) (hm : SizesM m) (ho : SizesM o) (hA : ParsAt w w.heap.size A m.ps) (hA2 : ParsAt w w.heap.size A2 o.ps) :
    Calls Try.prog 35 #[mimV m A c, mimV o A2 c2] w fun e w' => e = .returned (.bool (sameM m o)) ∧ Below w.heap.size w w' := by
  have HEQ := Lib.hid (fun (w1 : World) (hb : Below w.heap.size w w1) => equal_pars m.ps o.ps A A2 c c2 w1 hm.ps.1 ho.ps.1 (hA.on hb) (hA2.on hb))
  clear hm ho hA hA2
  obtain ⟨t, u, l⟩ := m
  obtain ⟨t2, u2, q⟩ := o
  unfold sameM mimV
  dsimp only at *
  have HE1 := Lib.hid (eq_textL t t2)
  have HE2 := Lib.hid (eq_textL u u2)
  obtain ⟨rt, hrt⟩ : ∃ r : Bool, (t == t2) = r := ⟨_, rfl⟩
  obtain ⟨ru, hru⟩ : ∃ r : Bool, (u == u2) = r := ⟨_, rfl⟩
  rw [hrt] at HE1 ⊢
  rw [hru] at HE2 ⊢
  clear hrt hru
  generalize bt t = T at *
  generalize bt u = U at *
  generalize bt t2 = T2 at *
  generalize bt u2 = U2 at *
  obtain ⟨r, hr⟩ : ∃ r : Bool, (l == q) = r := ⟨_, rfl⟩
  rw [hr] at HEQ ⊢
  clear hr
  have he1 := HE1.out
  have he2 := HE2.out
  go_enter Try.func35, Try.ntmps35
  cases rt
  · go_wp2_with fail
    go_ret
    exact ⟨rfl, (below_box w _).alloc (by simp) _⟩
  · cases ru
    · go_wp2_with fail
      go_ret
      exact ⟨rfl, (below_box w _).alloc (by simp) _⟩
    · have HB := Lib.hid ((below_box w (.cells #[.string T, .string U, .slice A l.length c] 48)).alloc (by simp) (.cells #[.string T2, .string U2, .slice A2 q.length c2] 48))
      go_wp2_with fail
      refine (HEQ.out _ HB.out).mono ?_
      rintro e w1 ⟨rfl, hb1⟩
      have HB1 := Lib.hid (HB.out.trans (hb1.mono HB.out.size))
      clear hb1
      go_wp2_with fail
      go_ret
      exact ⟨ret_bool (by simp), HB1.out⟩

end Go.Proofs.Ytigclegknofhmaa
