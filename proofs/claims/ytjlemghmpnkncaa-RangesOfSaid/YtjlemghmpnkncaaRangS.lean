/-
  Walks of the reference of package ranges: Parse.
-/
import Derived.Test.YtjlemghmpnkncaaRangR
import Derived.Test.YtjlemghmpnkncaaRangV
import Derived.Test.YtjlemghmpnkncaaRangD
namespace Go.Proofs.Ytjlemghmpnkncaa
open Go.RowKit
set_option linter.unusedSimpArgs false
set_option linter.unusedVariables false

theorem cut24_bl (q : List UInt8) (w : World) (hq : q.length ≤ 1000) :
    Calls Try.prog 54 #[.string (bl q)] w fun e w' => e = .returned (.string (bl (q.dropWhile isTab))) ∧ w = w' := by
  have := cut24_any (bl q) w (by rw [bl_size]; unfold maxLen; omega)
  rwa [bl_list] at this

theorem run24_bl (q : List UInt8) (w : World) (hq : q.length ≤ 1000) :
    Calls Try.prog 43 #[.string (bl q)] w fun e w' => e = .returned (.int .i64 ((q.takeWhile isDigit).length : Nat)) ∧ w = w' := by
  have := Run_any (bl q) w (by rw [bl_size]; unfold maxLen; omega)
  rwa [bl_list] at this

theorem bl_run (q : List UInt8) : (bl q).extract 0 (q.takeWhile isDigit).length = bl (q.takeWhile isDigit) ∧ (bl q).extract (q.takeWhile isDigit).length (bl q).size = bl (q.dropWhile isDigit) ∧ (q.takeWhile isDigit).length ≤ (bl q).size := by
  have h := tw_split isDigit q
  unfold spanN at h
  refine ⟨?_, ?_, ?_⟩
  · rw [bl_take, h.1]
  · rw [bl_drop, h.2]
  · rw [bl_size]; exact (List.takeWhile_sublist isDigit).length_le

theorem askedV_none {l : List UInt8} (h : askL l = none) : askedV l = .tuple #[.agg #[.int .i64 0, .int .i64 0], .int .i64 2] := by unfold askedV; rw [h]

theorem numOk_iff (l : List UInt8) : numOk l = true ↔ (l = [] ∨ valL l ≤ mostN) := by unfold numOk; rw [decide_eq_true_eq]

theorem askedV_some {l f t : List UInt8} (h : askL l = some (f, t)) :
    askedV l = if numOk f = false ∨ numOk t = false ∨ (0 ≤ saidN t ∧ saidN t < saidN f) then .tuple #[.agg #[.int .i64 0, .int .i64 0], .int .i64 9] else .tuple #[.agg #[.int .i64 (saidN f), .int .i64 (saidN t)], .int .i64 0] := by
  unfold askedV
  rw [h]
  have h1 := saidE_zero f t
  rw [← numOk_iff, ← numOk_iff] at h1
  have h2 := saidN_least t
  have e : (saidE t (saidE f 0) ≠ 0 ∨ (saidN t < saidN f ∧ saidN t ≠ -1)) ↔ (numOk f = false ∨ numOk t = false ∨ (0 ≤ saidN t ∧ saidN t < saidN f)) := by
    rw [ne_eq, h1]
    cases numOk f <;> cases numOk t <;> simp <;> omega
  simp only [e]

set_option maxRecDepth 20000 in
set_option maxHeartbeats 2000000 in
theorem rParse24_any (s : ByteArray) (w : World) (hs : s.size ≤ 1000) :
    Calls Try.prog 28 #[.string s] w fun e w' => e = .returned (askedV s.data.toList) ∧ Below w.heap.size w w' := by
  have HU := Lib.hid (fun w => unit24_any s w (by unfold maxLen; omega))
  have hll : s.data.toList.length ≤ 1000 := by rw [← Lib.size_eq]; exact hs
  generalize s.data.toList = l at *
  have hR : askL l = askL l := rfl
  conv at hR => rhs; unfold askL
  have HC := Lib.hid (fun q w hq => cut24_bl q w hq)
  have HK := Lib.hid (fun q w hq => run24_bl q w hq)
  have hb : Below w.heap.size w ((w.alloc (.cells #[.int .i64 0, .int .i64 0] 43)).alloc (.cells #[.int .i64 0, .int .i64 0] 43)) := (below_box w _).alloc (by simp) _
  have hx0 : ((w.alloc (.cells #[.int .i64 0, .int .i64 0] 43)).alloc (.cells #[.int .i64 0, .int .i64 0] 43)).heap[w.heap.size]? = some (.cells #[.int .i64 0, .int .i64 0] 43 (0, 0)) := (Below.heap_alloc _ _ _ (by simp)).trans (heap_alloc_new w _)
  have hx1 : ((w.alloc (.cells #[.int .i64 0, .int .i64 0] 43)).alloc (.cells #[.int .i64 0, .int .i64 0] 43)).heap[w.heap.size + 1]? = some (.cells #[.int .i64 0, .int .i64 0] 43 (0, 0)) := by
    have := heap_alloc_new (w.alloc (.cells #[.int .i64 0, .int .i64 0] 43)) (.cells #[.int .i64 0, .int .i64 0] 43)
    simpa using this
  go_enter Try.func28, Try.ntmps28
  go_upto_region 2 with fail
  generalize (w.alloc (.cells #[.int .i64 0, .int .i64 0] 43)).alloc (.cells #[.int .i64 0, .int .i64 0] 43) = W at *
  go_wp2_with fail
  refine (HU.out _).mono ?_
  rintro e w1 ⟨rfl, hbu⟩
  have hy0 := (hbu.block _ (Array.getElem?_eq_some_iff.1 hx0).1).trans hx0
  have hy1 := (hbu.block _ (Array.getElem?_eq_some_iff.1 hx1).1).trans hx1
  have HB := Lib.hid (hb.trans (hbu.mono hb.size))
  clear hx0 hx1 hbu hb HU
  have o0 := (Lib.cell_of_heap hy0 (j := 0))
  have o1 := (Lib.cell_of_heap hy0 (j := 1))
  have n0 := (Lib.cell_of_heap hy1 (j := 0))
  have n1 := (Lib.cell_of_heap hy1 (j := 1))
  have of := fun i => Lib.frozen_of_heap hy0 i
  simp at o0 o1 n0 n1
  have hz0 : w.heap.size < w1.heap.size := lt_of_cell o0
  clear hy0 hy1
  unfold unitV
  cases hu : unitOk (l.dropWhile isTab)
  · rw [if_neg (by rw [hu]; simp)] at hR
    have HV := Lib.hid (askedV_none hR)
    have HC1 : Hid (∀ w, Calls Try.prog 54 #[.string ⟨#[]⟩] w fun e w' => e = .returned (.string ⟨#[]⟩) ∧ w = w') := Lib.hid (fun w => HC.out [] w (by decide))
    clear hu hR
    go_wp2_with (first | (go_at_call 54; (with_reducible refine (HC1.out _).mono ?_); rintro e w2 ⟨rfl, rfl⟩) | (go_at_call 43; (with_reducible refine (HK1.out _).mono ?_); rintro e w2 ⟨rfl, rfl⟩) | (go_at_call 55; first | ((with_reducible refine (HNF.out _).mono ?_); rintro e w2 ⟨rfl, rfl⟩) | ((with_reducible refine (HNT.out _).mono ?_); rintro e w2 ⟨rfl, rfl⟩)))
    refine bodyPost_ret (v := (.tuple #[.agg #[.int .i64 0, .int .i64 0], .int .i64 2])) ?_ rfl ⟨by rw [HV.out], (HB.out.setCell (by simp) _).setCell (by simp) _⟩
    simp [results, Try.results28, go_sem, o0, o1, hz0]
  rw [if_pos hu] at hR
  rw [if_pos rfl]
  clear hu
  replace hll := dw_le isLetter (dw_le isTab hll)
  generalize (l.dropWhile isTab).dropWhile isLetter = l2 at *
  unfold ask2 at hR
  have HC1 := Lib.hid (fun w => HC.out l2 w hll)
  replace hll := dw_le isTab hll
  generalize l2.dropWhile isTab = l3 at *
  go_upto_region 4 with (first | (go_at_call 54; (with_reducible refine (HC1.out _).mono ?_); rintro e w2 ⟨rfl, rfl⟩) | (go_at_call 43; (with_reducible refine (HK1.out _).mono ?_); rintro e w2 ⟨rfl, rfl⟩) | (go_at_call 55; first | ((with_reducible refine (HNF.out _).mono ?_); rintro e w2 ⟨rfl, rfl⟩) | ((with_reducible refine (HNT.out _).mono ?_); rintro e w2 ⟨rfl, rfl⟩)))
  clear HC1
  cases l3 with
  | nil =>
    rw [if_neg (by simp [signOk])] at hR
    have HV := Lib.hid (askedV_none hR)
    have he := bl_empty (l := []) rfl
    clear hR
    generalize bl [] = Q at *
    go_wp2_with (first | (go_at_call 54; (with_reducible refine (HC1.out _).mono ?_); rintro e w2 ⟨rfl, rfl⟩) | (go_at_call 43; (with_reducible refine (HK1.out _).mono ?_); rintro e w2 ⟨rfl, rfl⟩) | (go_at_call 55; first | ((with_reducible refine (HNF.out _).mono ?_); rintro e w2 ⟨rfl, rfl⟩) | ((with_reducible refine (HNT.out _).mono ?_); rintro e w2 ⟨rfl, rfl⟩)))
    refine bodyPost_ret (v := (.tuple #[.agg #[.int .i64 0, .int .i64 0], .int .i64 2])) ?_ rfl ⟨by rw [HV.out], (HB.out.setCell (by simp) _).setCell (by simp) _⟩
    simp [results, Try.results28, go_sem, o0, o1, hz0]
  | cons x r =>
  have he := bl_full (l := x :: r) (by simp)
  have hix := bl_head x r
  have hpos : (0 : Int) < ((bl (x :: r)).size : Int) := by have := bl_cons_size x r; omega
  have hpo1 : (1 : Int) ≤ ((bl (x :: r)).size : Int) := by omega
  have hdr : (bl (x :: r)).extract 1 (bl (x :: r)).size = bl r := bl_drop 1 _
  by_cases hxb : x = 61
  case neg =>
    rw [if_neg (by simp [signOk, hxb])] at hR
    have HV := Lib.hid (askedV_none hR)
    have hxi : ((x.toNat : Int) == 61) = false := beq_eq_false_iff_ne.2 (fun e => hxb (by apply UInt8.toNat_inj.1; have hq : (61 : UInt8).toNat = 61 := rfl; omega))
    clear hR
    generalize bl (x :: r) = Q at *
    clear hxb
    go_wp2_with (first | (go_at_call 54; (with_reducible refine (HC1.out _).mono ?_); rintro e w2 ⟨rfl, rfl⟩) | (go_at_call 43; (with_reducible refine (HK1.out _).mono ?_); rintro e w2 ⟨rfl, rfl⟩) | (go_at_call 55; first | ((with_reducible refine (HNF.out _).mono ?_); rintro e w2 ⟨rfl, rfl⟩) | ((with_reducible refine (HNT.out _).mono ?_); rintro e w2 ⟨rfl, rfl⟩)))
    refine bodyPost_ret (v := (.tuple #[.agg #[.int .i64 0, .int .i64 0], .int .i64 2])) ?_ rfl ⟨by rw [HV.out], (HB.out.setCell (by simp) _).setCell (by simp) _⟩
    simp [results, Try.results28, go_sem, o0, o1, hz0]
  have hxi : (x.toNat : Int) = 61 := by rw [hxb]; rfl
  rw [if_pos (by simp [signOk, hxb])] at hR
  replace hll : r.length ≤ 1000 := by simp at hll; omega
  simp only [List.tail_cons] at hR
  clear hxb
  have HC1 := Lib.hid (fun w => HC.out r w hll)
  generalize bl (x :: r) = Q at *
  go_upto_region 7 with (first | (go_at_call 54; (with_reducible refine (HC1.out _).mono ?_); rintro e w2 ⟨rfl, rfl⟩) | (go_at_call 43; (with_reducible refine (HK1.out _).mono ?_); rintro e w2 ⟨rfl, rfl⟩) | (go_at_call 55; first | ((with_reducible refine (HNF.out _).mono ?_); rintro e w2 ⟨rfl, rfl⟩) | ((with_reducible refine (HNT.out _).mono ?_); rintro e w2 ⟨rfl, rfl⟩)))
  clear HC1 hdr hix hpos hpo1 he hxi
  unfold ask3 at hR
  replace hll := dw_le isTab hll
  generalize r.dropWhile isTab = l5 at *
  have HK1 := Lib.hid (fun w => HK.out l5 w hll)
  obtain ⟨hq1, hq2, hq3⟩ := bl_run l5
  have hq4 : (((l5.takeWhile isDigit).length : Nat) : Int) ≤ ((bl l5).size : Int) := by omega
  have hq5 : (0 : Int) ≤ (((l5.takeWhile isDigit).length : Nat) : Int) := by omega
  have HNF := Lib.hid (fun w => num24_any (l5.takeWhile isDigit) w (tk_le isDigit hll) (twAll isDigit l5))
  replace hll := dw_le isDigit hll
  have HC1 := Lib.hid (fun w => HC.out (l5.dropWhile isDigit) w hll)
  generalize (l5.takeWhile isDigit).length = k at *
  generalize l5.takeWhile isDigit = f at *
  generalize l5.dropWhile isDigit = l6 at *
  generalize bl l5 = Q5 at *
  go_upto_region 10 with (first | (go_at_call 54; (with_reducible refine (HC1.out _).mono ?_); rintro e w2 ⟨rfl, rfl⟩) | (go_at_call 43; (with_reducible refine (HK1.out _).mono ?_); rintro e w2 ⟨rfl, rfl⟩) | (go_at_call 55; first | ((with_reducible refine (HNF.out _).mono ?_); rintro e w2 ⟨rfl, rfl⟩) | ((with_reducible refine (HNT.out _).mono ?_); rintro e w2 ⟨rfl, rfl⟩)))
  clear HC1 HK1 hq1 hq2 hq3 hq4 hq5
  unfold ask4 at hR
  replace hll := dw_le isTab hll
  generalize l6.dropWhile isTab = l7 at *
  cases l7 with
  | nil =>
    rw [if_neg (by simp [signOk])] at hR
    have HV := Lib.hid (askedV_none hR)
    have he := bl_empty (l := []) rfl
    clear hR
    generalize bl [] = Q at *
    go_wp2_with (first | (go_at_call 54; (with_reducible refine (HC1.out _).mono ?_); rintro e w2 ⟨rfl, rfl⟩) | (go_at_call 43; (with_reducible refine (HK1.out _).mono ?_); rintro e w2 ⟨rfl, rfl⟩) | (go_at_call 55; first | ((with_reducible refine (HNF.out _).mono ?_); rintro e w2 ⟨rfl, rfl⟩) | ((with_reducible refine (HNT.out _).mono ?_); rintro e w2 ⟨rfl, rfl⟩)))
    refine bodyPost_ret (v := (.tuple #[.agg #[.int .i64 0, .int .i64 0], .int .i64 2])) ?_ rfl ⟨by rw [HV.out], (HB.out.setCell (by simp) _).setCell (by simp) _⟩
    simp [results, Try.results28, go_sem, o0, o1, hz0]
  | cons x r2 =>
  have he := bl_full (l := x :: r2) (by simp)
  have hix := bl_head x r2
  have hpos : (0 : Int) < ((bl (x :: r2)).size : Int) := by have := bl_cons_size x r2; omega
  have hpo1 : (1 : Int) ≤ ((bl (x :: r2)).size : Int) := by omega
  have hdr : (bl (x :: r2)).extract 1 (bl (x :: r2)).size = bl r2 := bl_drop 1 _
  by_cases hxb : x = 45
  case neg =>
    rw [if_neg (by simp [signOk, hxb])] at hR
    have HV := Lib.hid (askedV_none hR)
    have hxi : ((x.toNat : Int) == 45) = false := beq_eq_false_iff_ne.2 (fun e => hxb (by apply UInt8.toNat_inj.1; have hq : (45 : UInt8).toNat = 45 := rfl; omega))
    clear hR
    generalize bl (x :: r2) = Q at *
    clear hxb
    go_wp2_with (first | (go_at_call 54; (with_reducible refine (HC1.out _).mono ?_); rintro e w2 ⟨rfl, rfl⟩) | (go_at_call 43; (with_reducible refine (HK1.out _).mono ?_); rintro e w2 ⟨rfl, rfl⟩) | (go_at_call 55; first | ((with_reducible refine (HNF.out _).mono ?_); rintro e w2 ⟨rfl, rfl⟩) | ((with_reducible refine (HNT.out _).mono ?_); rintro e w2 ⟨rfl, rfl⟩)))
    refine bodyPost_ret (v := (.tuple #[.agg #[.int .i64 0, .int .i64 0], .int .i64 2])) ?_ rfl ⟨by rw [HV.out], (HB.out.setCell (by simp) _).setCell (by simp) _⟩
    simp [results, Try.results28, go_sem, o0, o1, hz0]
  have hxi : (x.toNat : Int) = 45 := by rw [hxb]; rfl
  rw [if_pos (by simp [signOk, hxb])] at hR
  replace hll : r2.length ≤ 1000 := by simp at hll; omega
  simp only [List.tail_cons] at hR
  clear hxb
  have HC1 := Lib.hid (fun w => HC.out r2 w hll)
  generalize bl (x :: r2) = Q at *
  go_upto_region 13 with (first | (go_at_call 54; (with_reducible refine (HC1.out _).mono ?_); rintro e w2 ⟨rfl, rfl⟩) | (go_at_call 43; (with_reducible refine (HK1.out _).mono ?_); rintro e w2 ⟨rfl, rfl⟩) | (go_at_call 55; first | ((with_reducible refine (HNF.out _).mono ?_); rintro e w2 ⟨rfl, rfl⟩) | ((with_reducible refine (HNT.out _).mono ?_); rintro e w2 ⟨rfl, rfl⟩)))
  clear HC1 hdr hix hpos hpo1 he hxi
  unfold ask5 at hR
  replace hll := dw_le isTab hll
  generalize r2.dropWhile isTab = l9 at *
  have HK1 := Lib.hid (fun w => HK.out l9 w hll)
  obtain ⟨hq1, hq2, hq3⟩ := bl_run l9
  have hq4 : (((l9.takeWhile isDigit).length : Nat) : Int) ≤ ((bl l9).size : Int) := by omega
  have hq5 : (0 : Int) ≤ (((l9.takeWhile isDigit).length : Nat) : Int) := by omega
  have HNT := Lib.hid (fun w => num24_any (l9.takeWhile isDigit) w (tk_le isDigit hll) (twAll isDigit l9))
  replace hll := dw_le isDigit hll
  have HC1 := Lib.hid (fun w => HC.out (l9.dropWhile isDigit) w hll)
  generalize (l9.takeWhile isDigit).length = k2 at *
  generalize l9.takeWhile isDigit = t at *
  generalize l9.dropWhile isDigit = l10 at *
  generalize bl l9 = Q9 at *
  unfold ask6 at hR
  generalize l10.dropWhile isTab = l11 at *
  by_cases h11 : l11 = []
  case neg =>
    rw [if_neg h11] at hR
    have HV := Lib.hid (askedV_none hR)
    have he := bl_full h11
    clear hR h11
    generalize bl l11 = Q11 at *
    go_wp2_with (first | (go_at_call 54; (with_reducible refine (HC1.out _).mono ?_); rintro e w2 ⟨rfl, rfl⟩) | (go_at_call 43; (with_reducible refine (HK1.out _).mono ?_); rintro e w2 ⟨rfl, rfl⟩) | (go_at_call 55; first | ((with_reducible refine (HNF.out _).mono ?_); rintro e w2 ⟨rfl, rfl⟩) | ((with_reducible refine (HNT.out _).mono ?_); rintro e w2 ⟨rfl, rfl⟩)))
    refine bodyPost_ret (v := (.tuple #[.agg #[.int .i64 0, .int .i64 0], .int .i64 2])) ?_ rfl ⟨by rw [HV.out], (HB.out.setCell (by simp) _).setCell (by simp) _⟩
    simp [results, Try.results28, go_sem, o0, o1, hz0]
  rw [if_pos h11] at hR
  have he := bl_empty h11
  clear h11
  generalize bl l11 = Q11 at *
  by_cases hf : f = []
  · by_cases ht : t = []
    · rw [if_pos ⟨hf, ht⟩] at hR
      have HV := Lib.hid (askedV_none hR)
      have hef := bl_empty hf
      have het := bl_empty ht
      clear hR hf ht HNF HNT
      generalize bl f = FT at *
      generalize bl t = TT at *
      go_wp2_with (first | (go_at_call 54; (with_reducible refine (HC1.out _).mono ?_); rintro e w2 ⟨rfl, rfl⟩) | (go_at_call 43; (with_reducible refine (HK1.out _).mono ?_); rintro e w2 ⟨rfl, rfl⟩) | (go_at_call 55; first | ((with_reducible refine (HNF.out _).mono ?_); rintro e w2 ⟨rfl, rfl⟩) | ((with_reducible refine (HNT.out _).mono ?_); rintro e w2 ⟨rfl, rfl⟩)))
      refine bodyPost_ret (v := (.tuple #[.agg #[.int .i64 0, .int .i64 0], .int .i64 2])) ?_ rfl ⟨by rw [HV.out], (HB.out.setCell (by simp) _).setCell (by simp) _⟩
      simp [results, Try.results28, go_sem, o0, o1, hz0]
    · rw [if_neg (fun h => ht h.2)] at hR
      have HV0 := askedV_some hR
      have hef := bl_empty hf
      have het := bl_full ht
      clear hR hf ht
      generalize bl f = FT at *
      generalize bl t = TT at *
      generalize numOk f = nof at *
      generalize numOk t = notk at *
      generalize saidN f = nf at *
      generalize saidN t = nt at *
      cases nof
      · have HV := Lib.hid (HV0.trans (if_pos (.inl rfl)))
        clear HV0
        go_wp2_with (first | (go_at_call 54; (with_reducible refine (HC1.out _).mono ?_); rintro e w2 ⟨rfl, rfl⟩) | (go_at_call 43; (with_reducible refine (HK1.out _).mono ?_); rintro e w2 ⟨rfl, rfl⟩) | (go_at_call 55; first | ((with_reducible refine (HNF.out _).mono ?_); rintro e w2 ⟨rfl, rfl⟩) | ((with_reducible refine (HNT.out _).mono ?_); rintro e w2 ⟨rfl, rfl⟩)))
        refine bodyPost_ret (v := (.tuple #[.agg #[.int .i64 0, .int .i64 0], .int .i64 9])) ?_ rfl ⟨by rw [HV.out], (HB.out.setCell (by simp) _).setCell (by simp) _⟩
        simp [results, Try.results28, go_sem, o0, o1, hz0]
      cases notk
      · have HV := Lib.hid (HV0.trans (if_pos (.inr (.inl rfl))))
        clear HV0
        go_wp2_with (first | (go_at_call 54; (with_reducible refine (HC1.out _).mono ?_); rintro e w2 ⟨rfl, rfl⟩) | (go_at_call 43; (with_reducible refine (HK1.out _).mono ?_); rintro e w2 ⟨rfl, rfl⟩) | (go_at_call 55; first | ((with_reducible refine (HNF.out _).mono ?_); rintro e w2 ⟨rfl, rfl⟩) | ((with_reducible refine (HNT.out _).mono ?_); rintro e w2 ⟨rfl, rfl⟩)))
        refine bodyPost_ret (v := (.tuple #[.agg #[.int .i64 0, .int .i64 0], .int .i64 9])) ?_ rfl ⟨by rw [HV.out], (HB.out.setCell (by simp) _).setCell (by simp) _⟩
        simp [results, Try.results28, go_sem, o0, o1, hz0]
      by_cases hn0 : 0 ≤ nt
      · by_cases hlt : nt < nf
        · have HV := Lib.hid (HV0.trans (if_pos (.inr (.inr ⟨hn0, hlt⟩))))
          clear HV0
          go_wp2_with (first | (go_at_call 54; (with_reducible refine (HC1.out _).mono ?_); rintro e w2 ⟨rfl, rfl⟩) | (go_at_call 43; (with_reducible refine (HK1.out _).mono ?_); rintro e w2 ⟨rfl, rfl⟩) | (go_at_call 55; first | ((with_reducible refine (HNF.out _).mono ?_); rintro e w2 ⟨rfl, rfl⟩) | ((with_reducible refine (HNT.out _).mono ?_); rintro e w2 ⟨rfl, rfl⟩)))
          refine bodyPost_ret (v := (.tuple #[.agg #[.int .i64 0, .int .i64 0], .int .i64 9])) ?_ rfl ⟨by rw [HV.out], (HB.out.setCell (by simp) _).setCell (by simp) _⟩
          simp [results, Try.results28, go_sem, o0, o1, hz0]
        · have HV := Lib.hid (HV0.trans (if_neg (by simp [hlt])))
          clear HV0
          go_wp2_with (first | (go_at_call 54; (with_reducible refine (HC1.out _).mono ?_); rintro e w2 ⟨rfl, rfl⟩) | (go_at_call 43; (with_reducible refine (HK1.out _).mono ?_); rintro e w2 ⟨rfl, rfl⟩) | (go_at_call 55; first | ((with_reducible refine (HNF.out _).mono ?_); rintro e w2 ⟨rfl, rfl⟩) | ((with_reducible refine (HNT.out _).mono ?_); rintro e w2 ⟨rfl, rfl⟩)))
          refine bodyPost_ret (v := (.tuple #[.agg #[.int .i64 nf, .int .i64 nt], .int .i64 0])) ?_ rfl ⟨by rw [HV.out], (HB.out.setCell (by simp) _).setCell (by simp) _⟩
          simp [results, Try.results28, go_sem, o0, o1, hz0]
      · have HV := Lib.hid (HV0.trans (if_neg (by simp [hn0])))
        clear HV0
        go_wp2_with (first | (go_at_call 54; (with_reducible refine (HC1.out _).mono ?_); rintro e w2 ⟨rfl, rfl⟩) | (go_at_call 43; (with_reducible refine (HK1.out _).mono ?_); rintro e w2 ⟨rfl, rfl⟩) | (go_at_call 55; first | ((with_reducible refine (HNF.out _).mono ?_); rintro e w2 ⟨rfl, rfl⟩) | ((with_reducible refine (HNT.out _).mono ?_); rintro e w2 ⟨rfl, rfl⟩)))
        refine bodyPost_ret (v := (.tuple #[.agg #[.int .i64 nf, .int .i64 nt], .int .i64 0])) ?_ rfl ⟨by rw [HV.out], (HB.out.setCell (by simp) _).setCell (by simp) _⟩
        simp [results, Try.results28, go_sem, o0, o1, hz0]
  · rw [if_neg (fun h => hf h.1)] at hR
    have HV0 := askedV_some hR
    have hef := bl_full hf
    clear hR hf
    generalize bl f = FT at *
    generalize bl t = TT at *
    generalize numOk f = nof at *
    generalize numOk t = notk at *
    generalize saidN f = nf at *
    generalize saidN t = nt at *
    cases nof
    · have HV := Lib.hid (HV0.trans (if_pos (.inl rfl)))
      clear HV0
      go_wp2_with (first | (go_at_call 54; (with_reducible refine (HC1.out _).mono ?_); rintro e w2 ⟨rfl, rfl⟩) | (go_at_call 43; (with_reducible refine (HK1.out _).mono ?_); rintro e w2 ⟨rfl, rfl⟩) | (go_at_call 55; first | ((with_reducible refine (HNF.out _).mono ?_); rintro e w2 ⟨rfl, rfl⟩) | ((with_reducible refine (HNT.out _).mono ?_); rintro e w2 ⟨rfl, rfl⟩)))
      refine bodyPost_ret (v := (.tuple #[.agg #[.int .i64 0, .int .i64 0], .int .i64 9])) ?_ rfl ⟨by rw [HV.out], (HB.out.setCell (by simp) _).setCell (by simp) _⟩
      simp [results, Try.results28, go_sem, o0, o1, hz0]
    cases notk
    · have HV := Lib.hid (HV0.trans (if_pos (.inr (.inl rfl))))
      clear HV0
      go_wp2_with (first | (go_at_call 54; (with_reducible refine (HC1.out _).mono ?_); rintro e w2 ⟨rfl, rfl⟩) | (go_at_call 43; (with_reducible refine (HK1.out _).mono ?_); rintro e w2 ⟨rfl, rfl⟩) | (go_at_call 55; first | ((with_reducible refine (HNF.out _).mono ?_); rintro e w2 ⟨rfl, rfl⟩) | ((with_reducible refine (HNT.out _).mono ?_); rintro e w2 ⟨rfl, rfl⟩)))
      refine bodyPost_ret (v := (.tuple #[.agg #[.int .i64 0, .int .i64 0], .int .i64 9])) ?_ rfl ⟨by rw [HV.out], (HB.out.setCell (by simp) _).setCell (by simp) _⟩
      simp [results, Try.results28, go_sem, o0, o1, hz0]
    by_cases hn0 : 0 ≤ nt
    · by_cases hlt : nt < nf
      · have HV := Lib.hid (HV0.trans (if_pos (.inr (.inr ⟨hn0, hlt⟩))))
        clear HV0
        go_wp2_with (first | (go_at_call 54; (with_reducible refine (HC1.out _).mono ?_); rintro e w2 ⟨rfl, rfl⟩) | (go_at_call 43; (with_reducible refine (HK1.out _).mono ?_); rintro e w2 ⟨rfl, rfl⟩) | (go_at_call 55; first | ((with_reducible refine (HNF.out _).mono ?_); rintro e w2 ⟨rfl, rfl⟩) | ((with_reducible refine (HNT.out _).mono ?_); rintro e w2 ⟨rfl, rfl⟩)))
        refine bodyPost_ret (v := (.tuple #[.agg #[.int .i64 0, .int .i64 0], .int .i64 9])) ?_ rfl ⟨by rw [HV.out], (HB.out.setCell (by simp) _).setCell (by simp) _⟩
        simp [results, Try.results28, go_sem, o0, o1, hz0]
      · have HV := Lib.hid (HV0.trans (if_neg (by simp [hlt])))
        clear HV0
        go_wp2_with (first | (go_at_call 54; (with_reducible refine (HC1.out _).mono ?_); rintro e w2 ⟨rfl, rfl⟩) | (go_at_call 43; (with_reducible refine (HK1.out _).mono ?_); rintro e w2 ⟨rfl, rfl⟩) | (go_at_call 55; first | ((with_reducible refine (HNF.out _).mono ?_); rintro e w2 ⟨rfl, rfl⟩) | ((with_reducible refine (HNT.out _).mono ?_); rintro e w2 ⟨rfl, rfl⟩)))
        refine bodyPost_ret (v := (.tuple #[.agg #[.int .i64 nf, .int .i64 nt], .int .i64 0])) ?_ rfl ⟨by rw [HV.out], (HB.out.setCell (by simp) _).setCell (by simp) _⟩
        simp [results, Try.results28, go_sem, o0, o1, hz0]
    · have HV := Lib.hid (HV0.trans (if_neg (by simp [hn0])))
      clear HV0
      go_wp2_with (first | (go_at_call 54; (with_reducible refine (HC1.out _).mono ?_); rintro e w2 ⟨rfl, rfl⟩) | (go_at_call 43; (with_reducible refine (HK1.out _).mono ?_); rintro e w2 ⟨rfl, rfl⟩) | (go_at_call 55; first | ((with_reducible refine (HNF.out _).mono ?_); rintro e w2 ⟨rfl, rfl⟩) | ((with_reducible refine (HNT.out _).mono ?_); rintro e w2 ⟨rfl, rfl⟩)))
      refine bodyPost_ret (v := (.tuple #[.agg #[.int .i64 nf, .int .i64 nt], .int .i64 0])) ?_ rfl ⟨by rw [HV.out], (HB.out.setCell (by simp) _).setCell (by simp) _⟩
      simp [results, Try.results28, go_sem, o0, o1, hz0]

end Go.Proofs.Ytjlemghmpnkncaa
