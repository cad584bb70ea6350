/-
  Lemmas of this claim, part 16: the texts RangT, one behind the other.
-/
import Derived.Test.YtcbhkcdphbffpaaGreatDoorM15
import Derived.BigRegion

namespace Go.Proofs.YtcbhkcdphbffpaaGreatDoor
open Go.RowKit
set_option linter.unusedSimpArgs false
set_option linter.unusedVariables false

theorem tw_len_all (l : List UInt8) : (l.takeWhile isDigit).length = l.length ↔ l.all isDigit = true := by
  constructor
  · intro h
    have := twAll isDigit l
    rwa [(List.takeWhile_prefix isDigit).eq_of_length h] at this
  · intro h
    rw [tw_full h]

theorem conV_none {l : List UInt8} (h : conL l = none) : conV l = .tuple #[.agg #[.int .i64 0, .int .i64 0, .int .i64 0], .int .i64 2] := by unfold conV; rw [h]

theorem conV_some {l f t a : List UInt8} (h : conL l = some (f, t, a)) :
    conV l = if numOk f = false ∨ numOk t = false ∨ numOk a = false ∨ part_goodP (saidN f) (saidN t) (saidN a) = false then .tuple #[.agg #[.int .i64 0, .int .i64 0, .int .i64 0], .int .i64 9] else .tuple #[.agg #[.int .i64 (saidN f), .int .i64 (saidN t), .int .i64 (saidN a)], .int .i64 0] := by
  unfold conV
  rw [h]
  have h1 := saidE_zero3 f t a
  rw [← numOk_iff, ← numOk_iff, ← numOk_iff] at h1
  have e : (saidE a (saidE t (saidE f 0)) ≠ 0 ∨ part_goodP (saidN f) (saidN t) (saidN a) = false) ↔ (numOk f = false ∨ numOk t = false ∨ numOk a = false ∨ part_goodP (saidN f) (saidN t) (saidN a) = false) := by
    rw [ne_eq, h1]
    cases numOk f <;> cases numOk t <;> cases numOk a <;> simp
  simp only [e]

theorem rcon_off {l f t r : List UInt8} (h : conL l = if r = [42] ∧ f ≠ [] then some (f, t, []) else if r = [] ∨ r.all isDigit = false then none else some (f, t, r)) (hn : ¬ (r = [42] ∧ f ≠ [])) : conL l = if r = [] ∨ r.all isDigit = false then none else some (f, t, r) := h.trans (if_neg hn)

theorem rcon_on {l f t r : List UInt8} (h : conL l = if r = [42] ∧ f ≠ [] then some (f, t, []) else if r = [] ∨ r.all isDigit = false then none else some (f, t, r)) (hn : r = [42] ∧ f ≠ []) : conL l = some (f, t, []) := h.trans (if_pos hn)

theorem ends_bl (q : List UInt8) (w : World) (hq : q.length ≤ 1000) :
    Calls Tryz.prog 87 #[.string (bl q)] w fun e w' => e = .returned (.string (bl (trimEnd isTab q))) ∧ w = w' := by
  have := rEnds_any (bl q) w (by rw [bl_size]; unfold maxLen; omega)
  unfold endsB at this
  rwa [bl_list] at this

set_option maxRecDepth 20000 in
set_option maxHeartbeats 4000000 in
theorem rContent24_any (s : ByteArray) (w : World) (hs : s.size ≤ 1000) :
    Calls Tryz.prog 67 #[.string s] w fun e w' => e = .returned (conV s.data.toList) ∧ Below w.heap.size w w' := by
  have HU := Lib.hid (fun w => unit24_any s w (by unfold maxLen; omega))
  have hll : s.data.toList.length ≤ 1000 := by rw [← Lib.size_eq]; exact hs
  generalize s.data.toList = l at *
  have hR : conL l = conL l := rfl
  conv at hR => rhs; unfold conL
  have HC := Lib.hid (fun q w hq => cut24_bl q w hq)
  have HK := Lib.hid (fun q w hq => run24_bl q w hq)
  have hb : Below w.heap.size w ((w.alloc (.cells #[.int .i64 0, .int .i64 0, .int .i64 0] 66)).alloc (.cells #[.int .i64 0, .int .i64 0, .int .i64 0] 66)) := (below_box w _).alloc (by simp) _
  have hx0 : ((w.alloc (.cells #[.int .i64 0, .int .i64 0, .int .i64 0] 66)).alloc (.cells #[.int .i64 0, .int .i64 0, .int .i64 0] 66)).heap[w.heap.size]? = some (.cells #[.int .i64 0, .int .i64 0, .int .i64 0] 66 (0, 0)) := (Below.heap_alloc _ _ _ (by simp)).trans (heap_alloc_new w _)
  have hx1 : ((w.alloc (.cells #[.int .i64 0, .int .i64 0, .int .i64 0] 66)).alloc (.cells #[.int .i64 0, .int .i64 0, .int .i64 0] 66)).heap[w.heap.size + 1]? = some (.cells #[.int .i64 0, .int .i64 0, .int .i64 0] 66 (0, 0)) := by
    have := heap_alloc_new (w.alloc (.cells #[.int .i64 0, .int .i64 0, .int .i64 0] 66)) (.cells #[.int .i64 0, .int .i64 0, .int .i64 0] 66)
    simpa using this
  go_enter Tryz.func67, Tryz.ntmps67
  go_upto_region 2 with fail
  generalize (w.alloc (.cells #[.int .i64 0, .int .i64 0, .int .i64 0] 66)).alloc (.cells #[.int .i64 0, .int .i64 0, .int .i64 0] 66) = W at *
  go_wp2_with fail
  refine (HU.out _).mono ?_
  rintro e w1 ⟨rfl, hbu⟩
  have hy0 := (hbu.block _ (Array.getElem?_eq_some_iff.1 hx0).1).trans hx0
  have hy1 := (hbu.block _ (Array.getElem?_eq_some_iff.1 hx1).1).trans hx1
  have HB := Lib.hid (hb.trans (hbu.mono hb.size))
  clear hx0 hx1 hbu hb HU
  have HY0 := Lib.hid hy0
  have HY1 := Lib.hid hy1
  have o0 := (Lib.cell_of_heap hy0 (j := 0))
  have o1 := (Lib.cell_of_heap hy0 (j := 1))
  have o2 := (Lib.cell_of_heap hy0 (j := 2))
  have n0 := (Lib.cell_of_heap hy1 (j := 0))
  have n1 := (Lib.cell_of_heap hy1 (j := 1))
  have n2 := (Lib.cell_of_heap hy1 (j := 2))
  have of := fun i => Lib.frozen_of_heap hy0 i
  simp at o0 o1 o2 n0 n1 n2
  have hz0 : w.heap.size < w1.heap.size := lt_of_cell o0
  have hz1 : w.heap.size + 1 < w1.heap.size := lt_of_cell n0
  clear hy0 hy1
  unfold unitV
  cases hu : unitOk (l.dropWhile isTab)
  · rw [if_neg (by rw [hu]; simp)] at hR
    have HV := Lib.hid (conV_none hR)
    clear hu hR
    go_wp2_with (first | (go_at_call 88; (with_reducible refine (HC1.out _).mono ?_); rintro e w2 ⟨rfl, rfl⟩) | (go_at_call 87; (with_reducible refine (HE1.out _).mono ?_); rintro e w2 ⟨rfl, rfl⟩) | (go_at_call 86; (with_reducible refine (HTB.out _).mono ?_); rintro e w2 ⟨rfl, rfl⟩) | (go_at_call 89; (with_reducible refine (HK1.out _).mono ?_); rintro e w2 ⟨rfl, rfl⟩) | (go_at_call 90; first | ((with_reducible refine (HNF.out _).mono ?_); rintro e w2 ⟨rfl, rfl⟩) | ((with_reducible refine (HNT.out _).mono ?_); rintro e w2 ⟨rfl, rfl⟩) | ((with_reducible refine (HNA.out _).mono ?_); rintro e w2 ⟨rfl, rfl⟩)))
    refine bodyPost_ret (v := (.tuple #[.agg #[.int .i64 0, .int .i64 0, .int .i64 0], .int .i64 2])) ?_ rfl ⟨by rw [HV.out], ((HB.out.setCell (by simp) _).setCell (by simp) _).setCell (by simp) _⟩
    simp [results, Tryz.results67, go_sem, o0, o1, o2, hz0]
  rw [if_pos hu] at hR
  rw [if_pos rfl]
  clear hu
  replace hll := dw_le isLetter (dw_le isTab hll)
  generalize (l.dropWhile isTab).dropWhile isLetter = l2 at *
  unfold con2 at hR
  cases l2 with
  | nil =>
    rw [if_pos (show List.takeWhile isTab [] = [] from rfl)] at hR
    have HV := Lib.hid (conV_none hR)
    have he := bl_empty (l := []) rfl
    clear hR
    generalize bl [] = Q at *
    go_wp2_with (first | (go_at_call 88; (with_reducible refine (HC1.out _).mono ?_); rintro e w2 ⟨rfl, rfl⟩) | (go_at_call 87; (with_reducible refine (HE1.out _).mono ?_); rintro e w2 ⟨rfl, rfl⟩) | (go_at_call 86; (with_reducible refine (HTB.out _).mono ?_); rintro e w2 ⟨rfl, rfl⟩) | (go_at_call 89; (with_reducible refine (HK1.out _).mono ?_); rintro e w2 ⟨rfl, rfl⟩) | (go_at_call 90; first | ((with_reducible refine (HNF.out _).mono ?_); rintro e w2 ⟨rfl, rfl⟩) | ((with_reducible refine (HNT.out _).mono ?_); rintro e w2 ⟨rfl, rfl⟩) | ((with_reducible refine (HNA.out _).mono ?_); rintro e w2 ⟨rfl, rfl⟩)))
    refine bodyPost_ret (v := (.tuple #[.agg #[.int .i64 0, .int .i64 0, .int .i64 0], .int .i64 2])) ?_ rfl ⟨by rw [HV.out], ((HB.out.setCell (by simp) _).setCell (by simp) _).setCell (by simp) _⟩
    simp [results, Tryz.results67, go_sem, o0, o1, o2, hz0]
  | cons x0 r0 =>
  have he := bl_full (l := x0 :: r0) (by simp)
  have hix := bl_head x0 r0
  have hpos : (0 : Int) < ((bl (x0 :: r0)).size : Int) := by have := bl_cons_size x0 r0; omega
  have HTB := Lib.hid (fun w => rTab_any x0 w)
  cases htb : isTab x0
  · rw [if_pos (by rw [List.takeWhile_cons, if_neg (by rw [htb]; simp)])] at hR
    have HV := Lib.hid (conV_none hR)
    rw [htb] at HTB
    clear hR htb
    generalize bl (x0 :: r0) = Q at *
    go_wp2_with (first | (go_at_call 88; (with_reducible refine (HC1.out _).mono ?_); rintro e w2 ⟨rfl, rfl⟩) | (go_at_call 87; (with_reducible refine (HE1.out _).mono ?_); rintro e w2 ⟨rfl, rfl⟩) | (go_at_call 86; (with_reducible refine (HTB.out _).mono ?_); rintro e w2 ⟨rfl, rfl⟩) | (go_at_call 89; (with_reducible refine (HK1.out _).mono ?_); rintro e w2 ⟨rfl, rfl⟩) | (go_at_call 90; first | ((with_reducible refine (HNF.out _).mono ?_); rintro e w2 ⟨rfl, rfl⟩) | ((with_reducible refine (HNT.out _).mono ?_); rintro e w2 ⟨rfl, rfl⟩) | ((with_reducible refine (HNA.out _).mono ?_); rintro e w2 ⟨rfl, rfl⟩)))
    refine bodyPost_ret (v := (.tuple #[.agg #[.int .i64 0, .int .i64 0, .int .i64 0], .int .i64 2])) ?_ rfl ⟨by rw [HV.out], ((HB.out.setCell (by simp) _).setCell (by simp) _).setCell (by simp) _⟩
    simp [results, Tryz.results67, go_sem, o0, o1, o2, hz0]
  rw [if_neg (by rw [List.takeWhile_cons, if_pos htb]; simp), con3_ends] at hR
  rw [htb] at HTB
  clear htb
  have HC1 := Lib.hid (fun w => HC.out (x0 :: r0) w hll)
  replace hll := dw_le isTab hll
  generalize bl (x0 :: r0) = Q at *
  generalize (x0 :: r0).dropWhile isTab = l3 at *
  have HE1 := Lib.hid (fun w => ends_bl l3 w hll)
  replace hll := Nat.le_trans (trimEnd_le isTab l3) hll
  generalize trimEnd isTab l3 = y at *
  go_upto_region 7 with (first | (go_at_call 88; (with_reducible refine (HC1.out _).mono ?_); rintro e w2 ⟨rfl, rfl⟩) | (go_at_call 87; (with_reducible refine (HE1.out _).mono ?_); rintro e w2 ⟨rfl, rfl⟩) | (go_at_call 86; (with_reducible refine (HTB.out _).mono ?_); rintro e w2 ⟨rfl, rfl⟩) | (go_at_call 89; (with_reducible refine (HK1.out _).mono ?_); rintro e w2 ⟨rfl, rfl⟩) | (go_at_call 90; first | ((with_reducible refine (HNF.out _).mono ?_); rintro e w2 ⟨rfl, rfl⟩) | ((with_reducible refine (HNT.out _).mono ?_); rintro e w2 ⟨rfl, rfl⟩) | ((with_reducible refine (HNA.out _).mono ?_); rintro e w2 ⟨rfl, rfl⟩)))
  clear HC1 HE1 HTB he hix hpos
  unfold rcon3 at hR
  by_cases hs42 : signOk 42 y = true
  case pos =>
    rw [if_pos hs42] at hR
    cases y with
    | nil => simp [signOk] at hs42
    | cons x l4 =>
    have hx42 : x = 42 := by simpa [signOk] using hs42
    have hxi : (x.toNat : Int) = 42 := by rw [hx42]; rfl
    have he := bl_full (l := x :: l4) (by simp)
    have hix := bl_head x l4
    have hpos : (0 : Int) < ((bl (x :: l4)).size : Int) := by have := bl_cons_size x l4; omega
    have hpo1 : (1 : Int) ≤ ((bl (x :: l4)).size : Int) := by omega
    have hdr : (bl (x :: l4)).extract 1 (bl (x :: l4)).size = bl l4 := bl_drop 1 _
    replace hll : l4.length ≤ 1000 := by simp at hll; omega
    simp only [List.tail_cons] at hR
    clear hs42 hx42
    generalize bl (x :: l4) = Q at *
    go_upto_region 17 with (first | (go_at_call 88; (with_reducible refine (HC1.out _).mono ?_); rintro e w2 ⟨rfl, rfl⟩) | (go_at_call 87; (with_reducible refine (HE1.out _).mono ?_); rintro e w2 ⟨rfl, rfl⟩) | (go_at_call 86; (with_reducible refine (HTB.out _).mono ?_); rintro e w2 ⟨rfl, rfl⟩) | (go_at_call 89; (with_reducible refine (HK1.out _).mono ?_); rintro e w2 ⟨rfl, rfl⟩) | (go_at_call 90; first | ((with_reducible refine (HNF.out _).mono ?_); rintro e w2 ⟨rfl, rfl⟩) | ((with_reducible refine (HNT.out _).mono ?_); rintro e w2 ⟨rfl, rfl⟩) | ((with_reducible refine (HNA.out _).mono ?_); rintro e w2 ⟨rfl, rfl⟩)))
    clear hdr hix hpos hpo1 he hxi
    unfold rcon6 at hR
    have HNF : Hid (∀ w, Calls Tryz.prog 90 #[.string ⟨#[]⟩] w fun e w' => e = .returned (.tuple #[.int .i64 (saidN []), .bool (numOk [])]) ∧ w = w') := Lib.hid (fun w => num24_any [] w (by decide) rfl)
    cases l4 with
    | nil =>
      rw [if_neg (by simp [signOk])] at hR
      have HV := Lib.hid (conV_none hR)
      have he := bl_empty (l := []) rfl
      clear hR
      generalize bl [] = Q at *
      go_wp2_with (first | (go_at_call 88; (with_reducible refine (HC1.out _).mono ?_); rintro e w2 ⟨rfl, rfl⟩) | (go_at_call 87; (with_reducible refine (HE1.out _).mono ?_); rintro e w2 ⟨rfl, rfl⟩) | (go_at_call 86; (with_reducible refine (HTB.out _).mono ?_); rintro e w2 ⟨rfl, rfl⟩) | (go_at_call 89; (with_reducible refine (HK1.out _).mono ?_); rintro e w2 ⟨rfl, rfl⟩) | (go_at_call 90; first | ((with_reducible refine (HNF.out _).mono ?_); rintro e w2 ⟨rfl, rfl⟩) | ((with_reducible refine (HNT.out _).mono ?_); rintro e w2 ⟨rfl, rfl⟩) | ((with_reducible refine (HNA.out _).mono ?_); rintro e w2 ⟨rfl, rfl⟩)))
      refine bodyPost_ret (v := (.tuple #[.agg #[.int .i64 0, .int .i64 0, .int .i64 0], .int .i64 2])) ?_ rfl ⟨by rw [HV.out], ((HB.out.setCell (by simp) _).setCell (by simp) _).setCell (by simp) _⟩
      simp [results, Tryz.results67, go_sem, o0, o1, o2, hz0]
    | cons x r3 =>
    have he := bl_full (l := x :: r3) (by simp)
    have hix := bl_head x r3
    have hpos : (0 : Int) < ((bl (x :: r3)).size : Int) := by have := bl_cons_size x r3; omega
    have hpo1 : (1 : Int) ≤ ((bl (x :: r3)).size : Int) := by omega
    have hdr : (bl (x :: r3)).extract 1 (bl (x :: r3)).size = bl r3 := bl_drop 1 _
    by_cases hxb : x = 47
    case neg =>
      rw [if_neg (by simp [signOk, hxb])] at hR
      have HV := Lib.hid (conV_none hR)
      have hxi : ((x.toNat : Int) == 47) = false := beq_eq_false_iff_ne.2 (fun e => hxb (by apply UInt8.toNat_inj.1; have hq : (47 : UInt8).toNat = 47 := rfl; omega))
      clear hR
      generalize bl (x :: r3) = Q at *
      clear hxb
      go_wp2_with (first | (go_at_call 88; (with_reducible refine (HC1.out _).mono ?_); rintro e w2 ⟨rfl, rfl⟩) | (go_at_call 87; (with_reducible refine (HE1.out _).mono ?_); rintro e w2 ⟨rfl, rfl⟩) | (go_at_call 86; (with_reducible refine (HTB.out _).mono ?_); rintro e w2 ⟨rfl, rfl⟩) | (go_at_call 89; (with_reducible refine (HK1.out _).mono ?_); rintro e w2 ⟨rfl, rfl⟩) | (go_at_call 90; first | ((with_reducible refine (HNF.out _).mono ?_); rintro e w2 ⟨rfl, rfl⟩) | ((with_reducible refine (HNT.out _).mono ?_); rintro e w2 ⟨rfl, rfl⟩) | ((with_reducible refine (HNA.out _).mono ?_); rintro e w2 ⟨rfl, rfl⟩)))
      refine bodyPost_ret (v := (.tuple #[.agg #[.int .i64 0, .int .i64 0, .int .i64 0], .int .i64 2])) ?_ rfl ⟨by rw [HV.out], ((HB.out.setCell (by simp) _).setCell (by simp) _).setCell (by simp) _⟩
      simp [results, Tryz.results67, go_sem, o0, o1, o2, hz0]
    have hxi : (x.toNat : Int) = 47 := by rw [hxb]; rfl
    rw [if_pos (by simp [signOk, hxb])] at hR
    replace hll : r3.length ≤ 1000 := by simp at hll; omega
    simp only [List.tail_cons] at hR
    clear hxb
    generalize bl (x :: r3) = Q at *
    go_upto_region 20 with (first | (go_at_call 88; (with_reducible refine (HC1.out _).mono ?_); rintro e w2 ⟨rfl, rfl⟩) | (go_at_call 87; (with_reducible refine (HE1.out _).mono ?_); rintro e w2 ⟨rfl, rfl⟩) | (go_at_call 86; (with_reducible refine (HTB.out _).mono ?_); rintro e w2 ⟨rfl, rfl⟩) | (go_at_call 89; (with_reducible refine (HK1.out _).mono ?_); rintro e w2 ⟨rfl, rfl⟩) | (go_at_call 90; first | ((with_reducible refine (HNF.out _).mono ?_); rintro e w2 ⟨rfl, rfl⟩) | ((with_reducible refine (HNT.out _).mono ?_); rintro e w2 ⟨rfl, rfl⟩) | ((with_reducible refine (HNA.out _).mono ?_); rintro e w2 ⟨rfl, rfl⟩)))
    clear hdr hix hpos hpo1 he hxi
    have HK1 := Lib.hid (fun w => HK.out r3 w hll)
    have hlen := bl_size r3
    by_cases h42 : r3 = [42]
    · have hs42 : (bl r3).toList = [42] := by rw [Lib.toList_data, bl_list]; exact h42
      replace hR := rcon_off hR (show ¬ (r3 = [42] ∧ ([] : List UInt8) ≠ []) from fun h => h.2 rfl)
      replace hR := hR.trans (if_pos (.inr (by rw [h42]; rfl)))
      have HV := Lib.hid (conV_none hR)
      have hk0 : (r3.takeWhile isDigit).length = 0 := by rw [h42]; rfl
      have hk1 : (bl r3).size = 1 := by rw [hlen, h42]; rfl
      rw [hk0] at HK1
      clear hR h42 hlen hk0
      generalize bl r3 = Q3 at *
      go_wp2_with (first | (go_at_call 88; (with_reducible refine (HC1.out _).mono ?_); rintro e w2 ⟨rfl, rfl⟩) | (go_at_call 87; (with_reducible refine (HE1.out _).mono ?_); rintro e w2 ⟨rfl, rfl⟩) | (go_at_call 86; (with_reducible refine (HTB.out _).mono ?_); rintro e w2 ⟨rfl, rfl⟩) | (go_at_call 89; (with_reducible refine (HK1.out _).mono ?_); rintro e w2 ⟨rfl, rfl⟩) | (go_at_call 90; first | ((with_reducible refine (HNF.out _).mono ?_); rintro e w2 ⟨rfl, rfl⟩) | ((with_reducible refine (HNT.out _).mono ?_); rintro e w2 ⟨rfl, rfl⟩) | ((with_reducible refine (HNA.out _).mono ?_); rintro e w2 ⟨rfl, rfl⟩)))
      refine bodyPost_ret (v := (.tuple #[.agg #[.int .i64 0, .int .i64 0, .int .i64 0], .int .i64 2])) ?_ rfl ⟨by rw [HV.out], ((HB.out.setCell (by simp) _).setCell (by simp) _).setCell (by simp) _⟩
      simp [results, Tryz.results67, go_sem, o0, o1, o2, hz0]
    replace hR := rcon_off hR (show ¬ (r3 = [42] ∧ ([] : List UInt8) ≠ []) from fun h => h42 h.1)
    have hs42 : ((bl r3).toList == [42]) = false := beq_eq_false_iff_ne.2 (by rw [Lib.toList_data, bl_list]; exact h42)
    clear h42
    by_cases h0 : r3 = []
    · replace hR := hR.trans (if_pos (.inl h0))
      have HV := Lib.hid (conV_none hR)
      have he := bl_empty h0
      clear hR h0 HK1 hlen
      generalize bl r3 = Q3 at *
      go_wp2_with (first | (go_at_call 88; (with_reducible refine (HC1.out _).mono ?_); rintro e w2 ⟨rfl, rfl⟩) | (go_at_call 87; (with_reducible refine (HE1.out _).mono ?_); rintro e w2 ⟨rfl, rfl⟩) | (go_at_call 86; (with_reducible refine (HTB.out _).mono ?_); rintro e w2 ⟨rfl, rfl⟩) | (go_at_call 89; (with_reducible refine (HK1.out _).mono ?_); rintro e w2 ⟨rfl, rfl⟩) | (go_at_call 90; first | ((with_reducible refine (HNF.out _).mono ?_); rintro e w2 ⟨rfl, rfl⟩) | ((with_reducible refine (HNT.out _).mono ?_); rintro e w2 ⟨rfl, rfl⟩) | ((with_reducible refine (HNA.out _).mono ?_); rintro e w2 ⟨rfl, rfl⟩)))
      refine bodyPost_ret (v := (.tuple #[.agg #[.int .i64 0, .int .i64 0, .int .i64 0], .int .i64 2])) ?_ rfl ⟨by rw [HV.out], ((HB.out.setCell (by simp) _).setCell (by simp) _).setCell (by simp) _⟩
      simp [results, Tryz.results67, go_sem, o0, o1, o2, hz0]
    have he := bl_full h0
    by_cases ha : r3.all isDigit = false
    · replace hR := hR.trans (if_pos (.inr ha))
      have HV := Lib.hid (conV_none hR)
      have hk2 : (((r3.takeWhile isDigit).length : Nat) : Int) ≠ ((bl r3).size : Int) := by rw [hlen]; exact fun h => absurd ((tw_len_all r3).1 (by omega)) (by rw [ha]; simp)
      clear hR h0 ha hlen
      generalize (r3.takeWhile isDigit).length = k3 at *
      generalize bl r3 = Q3 at *
      go_wp2_with (first | (go_at_call 88; (with_reducible refine (HC1.out _).mono ?_); rintro e w2 ⟨rfl, rfl⟩) | (go_at_call 87; (with_reducible refine (HE1.out _).mono ?_); rintro e w2 ⟨rfl, rfl⟩) | (go_at_call 86; (with_reducible refine (HTB.out _).mono ?_); rintro e w2 ⟨rfl, rfl⟩) | (go_at_call 89; (with_reducible refine (HK1.out _).mono ?_); rintro e w2 ⟨rfl, rfl⟩) | (go_at_call 90; first | ((with_reducible refine (HNF.out _).mono ?_); rintro e w2 ⟨rfl, rfl⟩) | ((with_reducible refine (HNT.out _).mono ?_); rintro e w2 ⟨rfl, rfl⟩) | ((with_reducible refine (HNA.out _).mono ?_); rintro e w2 ⟨rfl, rfl⟩)))
      refine bodyPost_ret (v := (.tuple #[.agg #[.int .i64 0, .int .i64 0, .int .i64 0], .int .i64 2])) ?_ rfl ⟨by rw [HV.out], ((HB.out.setCell (by simp) _).setCell (by simp) _).setCell (by simp) _⟩
      simp [results, Tryz.results67, go_sem, o0, o1, o2, hz0]
    replace hR := hR.trans (if_neg (by rintro (h | h); exact h0 h; exact ha h))
    have ha2 : r3.all isDigit = true := by simpa using ha
    have hk2 : (r3.takeWhile isDigit).length = (bl r3).size := by rw [hlen]; exact (tw_len_all r3).2 ha2
    have HNA := Lib.hid (fun w => num24_any r3 w hll ha2)
    rw [hk2] at HK1
    clear h0 ha ha2 hk2 hlen
    generalize bl r3 = Q3 at *
    have HV0 := conV_some hR
    clear hR
    generalize numOk [] = nof at *
    generalize numOk r3 = noa at *
    generalize saidN [] = nf at *
    generalize saidN r3 = na at *
    cases nof
    case false =>
      have HV := Lib.hid (HV0.trans (if_pos (.inl rfl)))
      clear HV0
      go_wp2_with (first | (go_at_call 88; (with_reducible refine (HC1.out _).mono ?_); rintro e w2 ⟨rfl, rfl⟩) | (go_at_call 87; (with_reducible refine (HE1.out _).mono ?_); rintro e w2 ⟨rfl, rfl⟩) | (go_at_call 86; (with_reducible refine (HTB.out _).mono ?_); rintro e w2 ⟨rfl, rfl⟩) | (go_at_call 89; (with_reducible refine (HK1.out _).mono ?_); rintro e w2 ⟨rfl, rfl⟩) | (go_at_call 90; first | ((with_reducible refine (HNF.out _).mono ?_); rintro e w2 ⟨rfl, rfl⟩) | ((with_reducible refine (HNT.out _).mono ?_); rintro e w2 ⟨rfl, rfl⟩) | ((with_reducible refine (HNA.out _).mono ?_); rintro e w2 ⟨rfl, rfl⟩)))
      refine bodyPost_ret (v := (.tuple #[.agg #[.int .i64 0, .int .i64 0, .int .i64 0], .int .i64 9])) ?_ rfl ⟨by rw [HV.out], (((HB.out.setCell (by simp) _).setCell (by simp) _).setCell (by simp) _).alloc (by have := HB.out.size; simpa [World.setCell] using this) _⟩
      simp [results, Tryz.results67, go_sem, o0, o1, o2, hz0, Nat.ne_of_lt hz0]
    cases noa
    case false =>
      have HV := Lib.hid (HV0.trans (if_pos (.inr (.inr (.inl rfl)))))
      clear HV0
      go_wp2_with (first | (go_at_call 88; (with_reducible refine (HC1.out _).mono ?_); rintro e w2 ⟨rfl, rfl⟩) | (go_at_call 87; (with_reducible refine (HE1.out _).mono ?_); rintro e w2 ⟨rfl, rfl⟩) | (go_at_call 86; (with_reducible refine (HTB.out _).mono ?_); rintro e w2 ⟨rfl, rfl⟩) | (go_at_call 89; (with_reducible refine (HK1.out _).mono ?_); rintro e w2 ⟨rfl, rfl⟩) | (go_at_call 90; first | ((with_reducible refine (HNF.out _).mono ?_); rintro e w2 ⟨rfl, rfl⟩) | ((with_reducible refine (HNT.out _).mono ?_); rintro e w2 ⟨rfl, rfl⟩) | ((with_reducible refine (HNA.out _).mono ?_); rintro e w2 ⟨rfl, rfl⟩)))
      refine bodyPost_ret (v := (.tuple #[.agg #[.int .i64 0, .int .i64 0, .int .i64 0], .int .i64 9])) ?_ rfl ⟨by rw [HV.out], (((HB.out.setCell (by simp) _).setCell (by simp) _).setCell (by simp) _).alloc (by have := HB.out.size; simpa [World.setCell] using this) _⟩
      simp [results, Tryz.results67, go_sem, o0, o1, o2, hz0, Nat.ne_of_lt hz0]
    have HG := Lib.hid (fun w => rGood_any nf nf na w)
    go_upto_region 28 with (first | (go_at_call 88; (with_reducible refine (HC1.out _).mono ?_); rintro e w2 ⟨rfl, rfl⟩) | (go_at_call 87; (with_reducible refine (HE1.out _).mono ?_); rintro e w2 ⟨rfl, rfl⟩) | (go_at_call 86; (with_reducible refine (HTB.out _).mono ?_); rintro e w2 ⟨rfl, rfl⟩) | (go_at_call 89; (with_reducible refine (HK1.out _).mono ?_); rintro e w2 ⟨rfl, rfl⟩) | (go_at_call 90; first | ((with_reducible refine (HNF.out _).mono ?_); rintro e w2 ⟨rfl, rfl⟩) | ((with_reducible refine (HNT.out _).mono ?_); rintro e w2 ⟨rfl, rfl⟩) | ((with_reducible refine (HNA.out _).mono ?_); rintro e w2 ⟨rfl, rfl⟩)))
    have HB2 := Lib.hid (HB.out.alloc HB.out.size (.cells #[.int .i64 nf, .int .i64 nf, .int .i64 na] 66))
    have hyp : (w1.alloc (.cells #[.int .i64 nf, .int .i64 nf, .int .i64 na] 66)).heap[w1.heap.size]? = some (.cells #[.int .i64 nf, .int .i64 nf, .int .i64 na] 66 (0, 0)) := heap_alloc_new w1 _
    have hyo : (w1.alloc (.cells #[.int .i64 nf, .int .i64 nf, .int .i64 na] 66)).heap[w.heap.size]? = some (.cells #[.int .i64 0, .int .i64 0, .int .i64 0] 66 (0, 0)) := (Below.heap_alloc _ _ _ hz0).trans HY0.out
    have hyn : (w1.alloc (.cells #[.int .i64 nf, .int .i64 nf, .int .i64 na] 66)).heap[w.heap.size + 1]? = some (.cells #[.int .i64 0, .int .i64 0, .int .i64 0] 66 (0, 0)) := (Below.heap_alloc _ _ _ (Array.getElem?_eq_some_iff.1 HY1.out).1).trans HY1.out
    generalize hP : w1.heap.size = P at *
    generalize w1.alloc (.cells #[.int .i64 nf, .int .i64 nf, .int .i64 na] 66) = W2 at *
    clear o0 o1 o2 n0 n1 n2 of hz0 hz1
    have p0 := (Lib.cell_of_heap hyp (j := 0))
    have p1 := (Lib.cell_of_heap hyp (j := 1))
    have p2 := (Lib.cell_of_heap hyp (j := 2))
    simp at p0 p1 p2
    cases hgd : part_goodP nf nf na
    · have HV := Lib.hid (HV0.trans (if_pos (by simp [hgd])))
      rw [hgd] at HG
      clear HV0 hgd
      go_upto_region 29 with (go_at_call 91; (with_reducible refine (HG.out _).mono ?_); rintro e w3 ⟨rfl, hb3⟩)
      have hyo3 := (hb3.block _ (Array.getElem?_eq_some_iff.1 hyo).1).trans hyo
      have hyn3 := (hb3.block _ (Array.getElem?_eq_some_iff.1 hyn).1).trans hyn
      have hyp3 := (hb3.block _ (Array.getElem?_eq_some_iff.1 hyp).1).trans hyp
      have HB3 := HB2.out.trans (hb3.mono HB2.out.size)
      have q0 := (Lib.cell_of_heap hyo3 (j := 0))
      have q1 := (Lib.cell_of_heap hyo3 (j := 1))
      have q2 := (Lib.cell_of_heap hyo3 (j := 2))
      have r0 := (Lib.cell_of_heap hyn3 (j := 0))
      have r1 := (Lib.cell_of_heap hyn3 (j := 1))
      have r2 := (Lib.cell_of_heap hyn3 (j := 2))
      have s0 := (Lib.cell_of_heap hyp3 (j := 0))
      have s1 := (Lib.cell_of_heap hyp3 (j := 1))
      have s2 := (Lib.cell_of_heap hyp3 (j := 2))
      have qf := fun i => Lib.frozen_of_heap hyo3 i
      simp at q0 q1 q2 r0 r1 r2 s0 s1 s2
      have hz3 : w.heap.size < w3.heap.size := lt_of_cell q0
      clear hyo3 hyn3 hyp3 hb3
      go_wp2_with fail
      refine bodyPost_ret (v := (.tuple #[.agg #[.int .i64 0, .int .i64 0, .int .i64 0], .int .i64 9])) ?_ rfl ⟨by rw [HV.out], ((HB3.setCell (by simp) _).setCell (by simp) _).setCell (by simp) _⟩
      simp [results, Tryz.results67, go_sem, q0, q1, q2, hz3]
    · have HV := Lib.hid (HV0.trans (if_neg (by simp [hgd])))
      rw [hgd] at HG
      clear HV0 hgd
      go_upto_region 30 with (go_at_call 91; (with_reducible refine (HG.out _).mono ?_); rintro e w3 ⟨rfl, hb3⟩)
      have hyo3 := (hb3.block _ (Array.getElem?_eq_some_iff.1 hyo).1).trans hyo
      have hyn3 := (hb3.block _ (Array.getElem?_eq_some_iff.1 hyn).1).trans hyn
      have hyp3 := (hb3.block _ (Array.getElem?_eq_some_iff.1 hyp).1).trans hyp
      have HB3 := HB2.out.trans (hb3.mono HB2.out.size)
      have q0 := (Lib.cell_of_heap hyo3 (j := 0))
      have q1 := (Lib.cell_of_heap hyo3 (j := 1))
      have q2 := (Lib.cell_of_heap hyo3 (j := 2))
      have r0 := (Lib.cell_of_heap hyn3 (j := 0))
      have r1 := (Lib.cell_of_heap hyn3 (j := 1))
      have r2 := (Lib.cell_of_heap hyn3 (j := 2))
      have s0 := (Lib.cell_of_heap hyp3 (j := 0))
      have s1 := (Lib.cell_of_heap hyp3 (j := 1))
      have s2 := (Lib.cell_of_heap hyp3 (j := 2))
      have qf := fun i => Lib.frozen_of_heap hyo3 i
      simp at q0 q1 q2 r0 r1 r2 s0 s1 s2
      have hz3 : w.heap.size < w3.heap.size := lt_of_cell q0
      clear hyo3 hyn3 hyp3 hb3
      go_wp2_with fail
      refine bodyPost_ret (v := (.tuple #[.agg #[.int .i64 nf, .int .i64 nf, .int .i64 na], .int .i64 0])) ?_ rfl ⟨by rw [HV.out], ((HB3.setCell (by simp) _).setCell (by simp) _).setCell (by simp) _⟩
      simp [results, Tryz.results67, go_sem, q0, q1, q2, hz3]
  rw [if_neg hs42] at hR
  have HK1 := Lib.hid (fun w => HK.out y w hll)
  cases y with
  | nil =>
    have HV := Lib.hid (conV_none (hR.trans (if_pos rfl)))
    have he := bl_empty (l := []) rfl
    have hz : (bl []).size = 0 := rfl
    have hq1 : (bl []).extract 0 0 = bl [] := bl_take 0 []
    have hq2 : (bl []).extract 0 (bl []).size = bl [] := bl_drop 0 []
    have HK1 : Hid (∀ w, Calls Tryz.prog 89 #[.string (bl [])] w fun e w' => e = .returned (.int .i64 0) ∧ w = w') := Lib.hid HK1.out
    clear hR hs42
    generalize bl [] = Q at *
    go_upto_region 10 with (first | (go_at_call 88; (with_reducible refine (HC1.out _).mono ?_); rintro e w2 ⟨rfl, rfl⟩) | (go_at_call 87; (with_reducible refine (HE1.out _).mono ?_); rintro e w2 ⟨rfl, rfl⟩) | (go_at_call 86; (with_reducible refine (HTB.out _).mono ?_); rintro e w2 ⟨rfl, rfl⟩) | (go_at_call 89; (with_reducible refine (HK1.out _).mono ?_); rintro e w2 ⟨rfl, rfl⟩) | (go_at_call 90; first | ((with_reducible refine (HNF.out _).mono ?_); rintro e w2 ⟨rfl, rfl⟩) | ((with_reducible refine (HNT.out _).mono ?_); rintro e w2 ⟨rfl, rfl⟩) | ((with_reducible refine (HNA.out _).mono ?_); rintro e w2 ⟨rfl, rfl⟩)))
    go_region
    replace HB := Lib.hid HB.out.drew
    have HYa : Hid (w1.drew.heap[w.heap.size]? = some (.cells #[.int .i64 0, .int .i64 0, .int .i64 0] 66 (0, 0))) := Lib.hid HY0.out
    have HYb : Hid (w1.drew.heap[w.heap.size + 1]? = some (.cells #[.int .i64 0, .int .i64 0, .int .i64 0] 66 (0, 0))) := Lib.hid HY1.out
    clear o0 o1 o2 n0 n1 n2 of hz0 hz1 HY0 HY1
    generalize w1.drew = w1 at *
    have HY0 := HYa
    have HY1 := HYb
    clear HYa HYb
    have o0 := (Lib.cell_of_heap HY0.out (j := 0))
    have o1 := (Lib.cell_of_heap HY0.out (j := 1))
    have o2 := (Lib.cell_of_heap HY0.out (j := 2))
    have n0 := (Lib.cell_of_heap HY1.out (j := 0))
    have n1 := (Lib.cell_of_heap HY1.out (j := 1))
    have n2 := (Lib.cell_of_heap HY1.out (j := 2))
    have of := fun i => Lib.frozen_of_heap HY0.out i
    simp at o0 o1 o2 n0 n1 n2
    have hz0 : w.heap.size < w1.heap.size := lt_of_cell o0
    have hz1 : w.heap.size + 1 < w1.heap.size := lt_of_cell n0
    go_wp2_with (first | (go_at_call 88; (with_reducible refine (HC1.out _).mono ?_); rintro e w2 ⟨rfl, rfl⟩) | (go_at_call 87; (with_reducible refine (HE1.out _).mono ?_); rintro e w2 ⟨rfl, rfl⟩) | (go_at_call 86; (with_reducible refine (HTB.out _).mono ?_); rintro e w2 ⟨rfl, rfl⟩) | (go_at_call 89; (with_reducible refine (HK1.out _).mono ?_); rintro e w2 ⟨rfl, rfl⟩) | (go_at_call 90; first | ((with_reducible refine (HNF.out _).mono ?_); rintro e w2 ⟨rfl, rfl⟩) | ((with_reducible refine (HNT.out _).mono ?_); rintro e w2 ⟨rfl, rfl⟩) | ((with_reducible refine (HNA.out _).mono ?_); rintro e w2 ⟨rfl, rfl⟩)))
    refine bodyPost_ret (v := (.tuple #[.agg #[.int .i64 0, .int .i64 0, .int .i64 0], .int .i64 2])) ?_ rfl ⟨by rw [HV.out], ((HB.out.setCell (by simp) _).setCell (by simp) _).setCell (by simp) _⟩
    simp [results, Tryz.results67, go_sem, o0, o1, o2, hz0]
  | cons x r =>
  have hx42 : x ≠ 42 := fun e => hs42 (by rw [e]; rfl)
  have hxi : ((x.toNat : Int) == 42) = false := beq_eq_false_iff_ne.2 (fun e => hx42 (by apply UInt8.toNat_inj.1; have hq : (42 : UInt8).toNat = 42 := rfl; omega))
  have he := bl_full (l := x :: r) (by simp)
  have hix := bl_head x r
  have hpos : (0 : Int) < ((bl (x :: r)).size : Int) := by have := bl_cons_size x r; omega
  obtain ⟨hq1, hq2, hq3⟩ := bl_run (x :: r)
  have hq4 : ((((x :: r).takeWhile isDigit).length : Nat) : Int) ≤ ((bl (x :: r)).size : Int) := by omega
  have hq5 : (0 : Int) ≤ ((((x :: r).takeWhile isDigit).length : Nat) : Int) := by omega
  have HNF := Lib.hid (fun w => num24_any ((x :: r).takeWhile isDigit) w (tk_le isDigit hll) (twAll isDigit (x :: r)))
  replace hll := dw_le isDigit hll
  clear hs42 hx42
  generalize ((x :: r).takeWhile isDigit).length = k at *
  generalize (x :: r).takeWhile isDigit = f at *
  generalize (x :: r).dropWhile isDigit = l4 at *
  generalize bl (x :: r) = Q5 at *
  unfold rcon4 at hR
  go_upto_region 10 with (first | (go_at_call 88; (with_reducible refine (HC1.out _).mono ?_); rintro e w2 ⟨rfl, rfl⟩) | (go_at_call 87; (with_reducible refine (HE1.out _).mono ?_); rintro e w2 ⟨rfl, rfl⟩) | (go_at_call 86; (with_reducible refine (HTB.out _).mono ?_); rintro e w2 ⟨rfl, rfl⟩) | (go_at_call 89; (with_reducible refine (HK1.out _).mono ?_); rintro e w2 ⟨rfl, rfl⟩) | (go_at_call 90; first | ((with_reducible refine (HNF.out _).mono ?_); rintro e w2 ⟨rfl, rfl⟩) | ((with_reducible refine (HNT.out _).mono ?_); rintro e w2 ⟨rfl, rfl⟩) | ((with_reducible refine (HNA.out _).mono ?_); rintro e w2 ⟨rfl, rfl⟩)))
  go_region
  replace HB := Lib.hid HB.out.drew
  have HYa : Hid (w1.drew.heap[w.heap.size]? = some (.cells #[.int .i64 0, .int .i64 0, .int .i64 0] 66 (0, 0))) := Lib.hid HY0.out
  have HYb : Hid (w1.drew.heap[w.heap.size + 1]? = some (.cells #[.int .i64 0, .int .i64 0, .int .i64 0] 66 (0, 0))) := Lib.hid HY1.out
  clear o0 o1 o2 n0 n1 n2 of hz0 hz1 HY0 HY1
  generalize w1.drew = w1 at *
  have HY0 := HYa
  have HY1 := HYb
  clear HYa HYb
  have o0 := (Lib.cell_of_heap HY0.out (j := 0))
  have o1 := (Lib.cell_of_heap HY0.out (j := 1))
  have o2 := (Lib.cell_of_heap HY0.out (j := 2))
  have n0 := (Lib.cell_of_heap HY1.out (j := 0))
  have n1 := (Lib.cell_of_heap HY1.out (j := 1))
  have n2 := (Lib.cell_of_heap HY1.out (j := 2))
  have of := fun i => Lib.frozen_of_heap HY0.out i
  simp at o0 o1 o2 n0 n1 n2
  have hz0 : w.heap.size < w1.heap.size := lt_of_cell o0
  have hz1 : w.heap.size + 1 < w1.heap.size := lt_of_cell n0
  clear hq1 hq2 hq3 hq4 hq5 hix hpos hxi HK1 he
  by_cases hf : f = []
  · replace hR := hR.trans (if_pos hf)
    have HV := Lib.hid (conV_none hR)
    have hef := bl_empty hf
    clear hR hf
    generalize bl f = FT at *
    go_wp2_with (first | (go_at_call 88; (with_reducible refine (HC1.out _).mono ?_); rintro e w2 ⟨rfl, rfl⟩) | (go_at_call 87; (with_reducible refine (HE1.out _).mono ?_); rintro e w2 ⟨rfl, rfl⟩) | (go_at_call 86; (with_reducible refine (HTB.out _).mono ?_); rintro e w2 ⟨rfl, rfl⟩) | (go_at_call 89; (with_reducible refine (HK1.out _).mono ?_); rintro e w2 ⟨rfl, rfl⟩) | (go_at_call 90; first | ((with_reducible refine (HNF.out _).mono ?_); rintro e w2 ⟨rfl, rfl⟩) | ((with_reducible refine (HNT.out _).mono ?_); rintro e w2 ⟨rfl, rfl⟩) | ((with_reducible refine (HNA.out _).mono ?_); rintro e w2 ⟨rfl, rfl⟩)))
    refine bodyPost_ret (v := (.tuple #[.agg #[.int .i64 0, .int .i64 0, .int .i64 0], .int .i64 2])) ?_ rfl ⟨by rw [HV.out], ((HB.out.setCell (by simp) _).setCell (by simp) _).setCell (by simp) _⟩
    simp [results, Tryz.results67, go_sem, o0, o1, o2, hz0]
  replace hR := hR.trans (if_neg hf)
  have hef := bl_full hf
  cases l4 with
  | nil =>
    rw [if_neg (by simp [signOk])] at hR
    have HV := Lib.hid (conV_none hR)
    have he := bl_empty (l := []) rfl
    clear hR
    generalize bl [] = Q at *
    go_wp2_with (first | (go_at_call 88; (with_reducible refine (HC1.out _).mono ?_); rintro e w2 ⟨rfl, rfl⟩) | (go_at_call 87; (with_reducible refine (HE1.out _).mono ?_); rintro e w2 ⟨rfl, rfl⟩) | (go_at_call 86; (with_reducible refine (HTB.out _).mono ?_); rintro e w2 ⟨rfl, rfl⟩) | (go_at_call 89; (with_reducible refine (HK1.out _).mono ?_); rintro e w2 ⟨rfl, rfl⟩) | (go_at_call 90; first | ((with_reducible refine (HNF.out _).mono ?_); rintro e w2 ⟨rfl, rfl⟩) | ((with_reducible refine (HNT.out _).mono ?_); rintro e w2 ⟨rfl, rfl⟩) | ((with_reducible refine (HNA.out _).mono ?_); rintro e w2 ⟨rfl, rfl⟩)))
    refine bodyPost_ret (v := (.tuple #[.agg #[.int .i64 0, .int .i64 0, .int .i64 0], .int .i64 2])) ?_ rfl ⟨by rw [HV.out], ((HB.out.setCell (by simp) _).setCell (by simp) _).setCell (by simp) _⟩
    simp [results, Tryz.results67, go_sem, o0, o1, o2, hz0]
  | cons x r2 =>
  have he := bl_full (l := x :: r2) (by simp)
  have hix := bl_head x r2
  have hpos : (0 : Int) < ((bl (x :: r2)).size : Int) := by have := bl_cons_size x r2; omega
  have hpo1 : (1 : Int) ≤ ((bl (x :: r2)).size : Int) := by omega
  have hdr : (bl (x :: r2)).extract 1 (bl (x :: r2)).size = bl r2 := bl_drop 1 _
  by_cases hxb : x = 45
  case neg =>
    rw [if_neg (by simp [signOk, hxb])] at hR
    have HV := Lib.hid (conV_none hR)
    have hxi : ((x.toNat : Int) == 45) = false := beq_eq_false_iff_ne.2 (fun e => hxb (by apply UInt8.toNat_inj.1; have hq : (45 : UInt8).toNat = 45 := rfl; omega))
    clear hR
    generalize bl (x :: r2) = Q at *
    clear hxb
    go_wp2_with (first | (go_at_call 88; (with_reducible refine (HC1.out _).mono ?_); rintro e w2 ⟨rfl, rfl⟩) | (go_at_call 87; (with_reducible refine (HE1.out _).mono ?_); rintro e w2 ⟨rfl, rfl⟩) | (go_at_call 86; (with_reducible refine (HTB.out _).mono ?_); rintro e w2 ⟨rfl, rfl⟩) | (go_at_call 89; (with_reducible refine (HK1.out _).mono ?_); rintro e w2 ⟨rfl, rfl⟩) | (go_at_call 90; first | ((with_reducible refine (HNF.out _).mono ?_); rintro e w2 ⟨rfl, rfl⟩) | ((with_reducible refine (HNT.out _).mono ?_); rintro e w2 ⟨rfl, rfl⟩) | ((with_reducible refine (HNA.out _).mono ?_); rintro e w2 ⟨rfl, rfl⟩)))
    refine bodyPost_ret (v := (.tuple #[.agg #[.int .i64 0, .int .i64 0, .int .i64 0], .int .i64 2])) ?_ rfl ⟨by rw [HV.out], ((HB.out.setCell (by simp) _).setCell (by simp) _).setCell (by simp) _⟩
    simp [results, Tryz.results67, go_sem, o0, o1, o2, hz0]
  have hxi : (x.toNat : Int) = 45 := by rw [hxb]; rfl
  rw [if_pos (by simp [signOk, hxb])] at hR
  replace hll : r2.length ≤ 1000 := by simp at hll; omega
  simp only [List.tail_cons] at hR
  clear hxb
  have HK1 := Lib.hid (fun w => HK.out r2 w hll)
  obtain ⟨hq1, hq2, hq3⟩ := bl_run r2
  have hz2 : (bl (x :: r2)).size = r2.length + 1 := by rw [bl_size]; rfl
  have hz3 : (bl r2).size = r2.length := bl_size r2
  have he1 : (bl (x :: r2)).extract 1 ((r2.takeWhile isDigit).length + 1) = bl (r2.takeWhile isDigit) := by
    rw [← hq1]
    apply bytes_ext
    rw [Lib.extract_data, Lib.extract_data, bl_list, bl_list]
    simp
  have he2 : (bl (x :: r2)).extract ((r2.takeWhile isDigit).length + 1) (bl (x :: r2)).size = bl (r2.dropWhile isDigit) := by
    rw [bl_drop]
    congr 1
    have h := (tw_split isDigit r2).2
    unfold spanN at h
    rw [← h]
    rfl
  have hk1 : ((((r2.takeWhile isDigit).length : Nat) : Int) + 1) ≤ ((bl (x :: r2)).size : Int) := by omega
  have hk2 : (1 : Int) ≤ (((r2.takeWhile isDigit).length : Nat) : Int) + 1 := by omega
  have hk3 : IntKind.i64.wrap ((((r2.takeWhile isDigit).length : Nat) : Int) + 1) = (((r2.takeWhile isDigit).length : Nat) : Int) + 1 := IntWalk.i64_in _ (by omega)
  have hk4 : ((((r2.takeWhile isDigit).length : Nat) : Int) + 1).toNat = (r2.takeWhile isDigit).length + 1 := by omega
  have hk5 : (0 : Int) ≤ (((r2.takeWhile isDigit).length : Nat) : Int) + 1 := by omega
  have HNT := Lib.hid (fun w => num24_any (r2.takeWhile isDigit) w (tk_le isDigit hll) (twAll isDigit r2))
  replace hll := dw_le isDigit hll
  clear hq1 hq2 hq3 hz2 hz3
  unfold rcon5 at hR
  generalize (r2.takeWhile isDigit).length = k2 at *
  generalize r2.takeWhile isDigit = t at *
  generalize r2.dropWhile isDigit = l6 at *
  generalize bl (x :: r2) = Q at *
  go_upto_region 14 with (first | (go_at_call 88; (with_reducible refine (HC1.out _).mono ?_); rintro e w2 ⟨rfl, rfl⟩) | (go_at_call 87; (with_reducible refine (HE1.out _).mono ?_); rintro e w2 ⟨rfl, rfl⟩) | (go_at_call 86; (with_reducible refine (HTB.out _).mono ?_); rintro e w2 ⟨rfl, rfl⟩) | (go_at_call 89; (with_reducible refine (HK1.out _).mono ?_); rintro e w2 ⟨rfl, rfl⟩) | (go_at_call 90; first | ((with_reducible refine (HNF.out _).mono ?_); rintro e w2 ⟨rfl, rfl⟩) | ((with_reducible refine (HNT.out _).mono ?_); rintro e w2 ⟨rfl, rfl⟩) | ((with_reducible refine (HNA.out _).mono ?_); rintro e w2 ⟨rfl, rfl⟩)))
  go_region
  replace HB := Lib.hid HB.out.drew
  have HYa : Hid (w1.drew.heap[w.heap.size]? = some (.cells #[.int .i64 0, .int .i64 0, .int .i64 0] 66 (0, 0))) := Lib.hid HY0.out
  have HYb : Hid (w1.drew.heap[w.heap.size + 1]? = some (.cells #[.int .i64 0, .int .i64 0, .int .i64 0] 66 (0, 0))) := Lib.hid HY1.out
  clear o0 o1 o2 n0 n1 n2 of hz0 hz1 HY0 HY1
  generalize w1.drew = w1 at *
  have HY0 := HYa
  have HY1 := HYb
  clear HYa HYb
  have o0 := (Lib.cell_of_heap HY0.out (j := 0))
  have o1 := (Lib.cell_of_heap HY0.out (j := 1))
  have o2 := (Lib.cell_of_heap HY0.out (j := 2))
  have n0 := (Lib.cell_of_heap HY1.out (j := 0))
  have n1 := (Lib.cell_of_heap HY1.out (j := 1))
  have n2 := (Lib.cell_of_heap HY1.out (j := 2))
  have of := fun i => Lib.frozen_of_heap HY0.out i
  simp at o0 o1 o2 n0 n1 n2
  have hz0 : w.heap.size < w1.heap.size := lt_of_cell o0
  have hz1 : w.heap.size + 1 < w1.heap.size := lt_of_cell n0
  clear he1 he2 hk1 hk2 hk3 hk4 hk5 HK1 hdr hix hpos hpo1 he hxi
  by_cases ht : t = []
  · replace hR := hR.trans (if_pos ht)
    have HV := Lib.hid (conV_none hR)
    have het := bl_empty ht
    clear hR ht
    generalize bl t = TT at *
    go_wp2_with (first | (go_at_call 88; (with_reducible refine (HC1.out _).mono ?_); rintro e w2 ⟨rfl, rfl⟩) | (go_at_call 87; (with_reducible refine (HE1.out _).mono ?_); rintro e w2 ⟨rfl, rfl⟩) | (go_at_call 86; (with_reducible refine (HTB.out _).mono ?_); rintro e w2 ⟨rfl, rfl⟩) | (go_at_call 89; (with_reducible refine (HK1.out _).mono ?_); rintro e w2 ⟨rfl, rfl⟩) | (go_at_call 90; first | ((with_reducible refine (HNF.out _).mono ?_); rintro e w2 ⟨rfl, rfl⟩) | ((with_reducible refine (HNT.out _).mono ?_); rintro e w2 ⟨rfl, rfl⟩) | ((with_reducible refine (HNA.out _).mono ?_); rintro e w2 ⟨rfl, rfl⟩)))
    refine bodyPost_ret (v := (.tuple #[.agg #[.int .i64 0, .int .i64 0, .int .i64 0], .int .i64 2])) ?_ rfl ⟨by rw [HV.out], ((HB.out.setCell (by simp) _).setCell (by simp) _).setCell (by simp) _⟩
    simp [results, Tryz.results67, go_sem, o0, o1, o2, hz0]
  replace hR := hR.trans (if_neg ht)
  have het := bl_full ht
  clear ht
  unfold rcon6 at hR
  generalize l6 = l4 at *
  go_upto_region 17 with fail
  cases l4 with
  | nil =>
    rw [if_neg (by simp [signOk])] at hR
    have HV := Lib.hid (conV_none hR)
    have he := bl_empty (l := []) rfl
    clear hR
    generalize bl [] = Q at *
    go_wp2_with (first | (go_at_call 88; (with_reducible refine (HC1.out _).mono ?_); rintro e w2 ⟨rfl, rfl⟩) | (go_at_call 87; (with_reducible refine (HE1.out _).mono ?_); rintro e w2 ⟨rfl, rfl⟩) | (go_at_call 86; (with_reducible refine (HTB.out _).mono ?_); rintro e w2 ⟨rfl, rfl⟩) | (go_at_call 89; (with_reducible refine (HK1.out _).mono ?_); rintro e w2 ⟨rfl, rfl⟩) | (go_at_call 90; first | ((with_reducible refine (HNF.out _).mono ?_); rintro e w2 ⟨rfl, rfl⟩) | ((with_reducible refine (HNT.out _).mono ?_); rintro e w2 ⟨rfl, rfl⟩) | ((with_reducible refine (HNA.out _).mono ?_); rintro e w2 ⟨rfl, rfl⟩)))
    refine bodyPost_ret (v := (.tuple #[.agg #[.int .i64 0, .int .i64 0, .int .i64 0], .int .i64 2])) ?_ rfl ⟨by rw [HV.out], ((HB.out.setCell (by simp) _).setCell (by simp) _).setCell (by simp) _⟩
    simp [results, Tryz.results67, go_sem, o0, o1, o2, hz0]
  | cons x r3 =>
  have he := bl_full (l := x :: r3) (by simp)
  have hix := bl_head x r3
  have hpos : (0 : Int) < ((bl (x :: r3)).size : Int) := by have := bl_cons_size x r3; omega
  have hpo1 : (1 : Int) ≤ ((bl (x :: r3)).size : Int) := by omega
  have hdr : (bl (x :: r3)).extract 1 (bl (x :: r3)).size = bl r3 := bl_drop 1 _
  by_cases hxb : x = 47
  case neg =>
    rw [if_neg (by simp [signOk, hxb])] at hR
    have HV := Lib.hid (conV_none hR)
    have hxi : ((x.toNat : Int) == 47) = false := beq_eq_false_iff_ne.2 (fun e => hxb (by apply UInt8.toNat_inj.1; have hq : (47 : UInt8).toNat = 47 := rfl; omega))
    clear hR
    generalize bl (x :: r3) = Q at *
    clear hxb
    go_wp2_with (first | (go_at_call 88; (with_reducible refine (HC1.out _).mono ?_); rintro e w2 ⟨rfl, rfl⟩) | (go_at_call 87; (with_reducible refine (HE1.out _).mono ?_); rintro e w2 ⟨rfl, rfl⟩) | (go_at_call 86; (with_reducible refine (HTB.out _).mono ?_); rintro e w2 ⟨rfl, rfl⟩) | (go_at_call 89; (with_reducible refine (HK1.out _).mono ?_); rintro e w2 ⟨rfl, rfl⟩) | (go_at_call 90; first | ((with_reducible refine (HNF.out _).mono ?_); rintro e w2 ⟨rfl, rfl⟩) | ((with_reducible refine (HNT.out _).mono ?_); rintro e w2 ⟨rfl, rfl⟩) | ((with_reducible refine (HNA.out _).mono ?_); rintro e w2 ⟨rfl, rfl⟩)))
    refine bodyPost_ret (v := (.tuple #[.agg #[.int .i64 0, .int .i64 0, .int .i64 0], .int .i64 2])) ?_ rfl ⟨by rw [HV.out], ((HB.out.setCell (by simp) _).setCell (by simp) _).setCell (by simp) _⟩
    simp [results, Tryz.results67, go_sem, o0, o1, o2, hz0]
  have hxi : (x.toNat : Int) = 47 := by rw [hxb]; rfl
  rw [if_pos (by simp [signOk, hxb])] at hR
  replace hll : r3.length ≤ 1000 := by simp at hll; omega
  simp only [List.tail_cons] at hR
  clear hxb
  generalize bl (x :: r3) = Q at *
  go_upto_region 20 with (first | (go_at_call 88; (with_reducible refine (HC1.out _).mono ?_); rintro e w2 ⟨rfl, rfl⟩) | (go_at_call 87; (with_reducible refine (HE1.out _).mono ?_); rintro e w2 ⟨rfl, rfl⟩) | (go_at_call 86; (with_reducible refine (HTB.out _).mono ?_); rintro e w2 ⟨rfl, rfl⟩) | (go_at_call 89; (with_reducible refine (HK1.out _).mono ?_); rintro e w2 ⟨rfl, rfl⟩) | (go_at_call 90; first | ((with_reducible refine (HNF.out _).mono ?_); rintro e w2 ⟨rfl, rfl⟩) | ((with_reducible refine (HNT.out _).mono ?_); rintro e w2 ⟨rfl, rfl⟩) | ((with_reducible refine (HNA.out _).mono ?_); rintro e w2 ⟨rfl, rfl⟩)))
  clear hdr hix hpos hpo1 he hxi
  have HK1 := Lib.hid (fun w => HK.out r3 w hll)
  have hlen := bl_size r3
  by_cases h42 : r3 = [42]
  · have hs42 : (bl r3).toList = [42] := by rw [Lib.toList_data, bl_list]; exact h42
    replace hR := rcon_on hR ⟨h42, hf⟩
    have hef := bl_full hf
    clear h42 HK1 hlen hf
    generalize bl r3 = Q3 at *
    have HNA : Hid (∀ w, Calls Tryz.prog 90 #[.string ⟨#[]⟩] w fun e w' => e = .returned (.tuple #[.int .i64 (saidN []), .bool true]) ∧ w = w') := Lib.hid (fun w => num24_any [] w (by decide) rfl)
    generalize bl f = FT at *
    generalize bl t = TT at *
    have HV0 := conV_some hR
    clear hR
    generalize numOk f = nof at *
    generalize numOk t = notk at *
    rw [show numOk [] = true from rfl] at HV0
    generalize saidN f = nf at *
    generalize saidN t = nt at *
    generalize saidN [] = na at *
    cases nof
    case false =>
      have HV := Lib.hid (HV0.trans (if_pos (.inl rfl)))
      clear HV0
      go_wp2_with (first | (go_at_call 88; (with_reducible refine (HC1.out _).mono ?_); rintro e w2 ⟨rfl, rfl⟩) | (go_at_call 87; (with_reducible refine (HE1.out _).mono ?_); rintro e w2 ⟨rfl, rfl⟩) | (go_at_call 86; (with_reducible refine (HTB.out _).mono ?_); rintro e w2 ⟨rfl, rfl⟩) | (go_at_call 89; (with_reducible refine (HK1.out _).mono ?_); rintro e w2 ⟨rfl, rfl⟩) | (go_at_call 90; first | ((with_reducible refine (HNF.out _).mono ?_); rintro e w2 ⟨rfl, rfl⟩) | ((with_reducible refine (HNT.out _).mono ?_); rintro e w2 ⟨rfl, rfl⟩) | ((with_reducible refine (HNA.out _).mono ?_); rintro e w2 ⟨rfl, rfl⟩)))
      refine bodyPost_ret (v := (.tuple #[.agg #[.int .i64 0, .int .i64 0, .int .i64 0], .int .i64 9])) ?_ rfl ⟨by rw [HV.out], (((HB.out.setCell (by simp) _).setCell (by simp) _).setCell (by simp) _).alloc (by have := HB.out.size; simpa [World.setCell] using this) _⟩
      simp [results, Tryz.results67, go_sem, o0, o1, o2, hz0, Nat.ne_of_lt hz0]
    cases notk
    case false =>
      have HV := Lib.hid (HV0.trans (if_pos (.inr (.inl rfl))))
      clear HV0
      go_wp2_with (first | (go_at_call 88; (with_reducible refine (HC1.out _).mono ?_); rintro e w2 ⟨rfl, rfl⟩) | (go_at_call 87; (with_reducible refine (HE1.out _).mono ?_); rintro e w2 ⟨rfl, rfl⟩) | (go_at_call 86; (with_reducible refine (HTB.out _).mono ?_); rintro e w2 ⟨rfl, rfl⟩) | (go_at_call 89; (with_reducible refine (HK1.out _).mono ?_); rintro e w2 ⟨rfl, rfl⟩) | (go_at_call 90; first | ((with_reducible refine (HNF.out _).mono ?_); rintro e w2 ⟨rfl, rfl⟩) | ((with_reducible refine (HNT.out _).mono ?_); rintro e w2 ⟨rfl, rfl⟩) | ((with_reducible refine (HNA.out _).mono ?_); rintro e w2 ⟨rfl, rfl⟩)))
      refine bodyPost_ret (v := (.tuple #[.agg #[.int .i64 0, .int .i64 0, .int .i64 0], .int .i64 9])) ?_ rfl ⟨by rw [HV.out], (((HB.out.setCell (by simp) _).setCell (by simp) _).setCell (by simp) _).alloc (by have := HB.out.size; simpa [World.setCell] using this) _⟩
      simp [results, Tryz.results67, go_sem, o0, o1, o2, hz0, Nat.ne_of_lt hz0]
    have HG := Lib.hid (fun w => rGood_any nf nt na w)
    go_upto_region 28 with (first | (go_at_call 88; (with_reducible refine (HC1.out _).mono ?_); rintro e w2 ⟨rfl, rfl⟩) | (go_at_call 87; (with_reducible refine (HE1.out _).mono ?_); rintro e w2 ⟨rfl, rfl⟩) | (go_at_call 86; (with_reducible refine (HTB.out _).mono ?_); rintro e w2 ⟨rfl, rfl⟩) | (go_at_call 89; (with_reducible refine (HK1.out _).mono ?_); rintro e w2 ⟨rfl, rfl⟩) | (go_at_call 90; first | ((with_reducible refine (HNF.out _).mono ?_); rintro e w2 ⟨rfl, rfl⟩) | ((with_reducible refine (HNT.out _).mono ?_); rintro e w2 ⟨rfl, rfl⟩) | ((with_reducible refine (HNA.out _).mono ?_); rintro e w2 ⟨rfl, rfl⟩)))
    have HB2 := Lib.hid (HB.out.alloc HB.out.size (.cells #[.int .i64 nf, .int .i64 nt, .int .i64 na] 66))
    have hyp : (w1.alloc (.cells #[.int .i64 nf, .int .i64 nt, .int .i64 na] 66)).heap[w1.heap.size]? = some (.cells #[.int .i64 nf, .int .i64 nt, .int .i64 na] 66 (0, 0)) := heap_alloc_new w1 _
    have hyo : (w1.alloc (.cells #[.int .i64 nf, .int .i64 nt, .int .i64 na] 66)).heap[w.heap.size]? = some (.cells #[.int .i64 0, .int .i64 0, .int .i64 0] 66 (0, 0)) := (Below.heap_alloc _ _ _ hz0).trans HY0.out
    have hyn : (w1.alloc (.cells #[.int .i64 nf, .int .i64 nt, .int .i64 na] 66)).heap[w.heap.size + 1]? = some (.cells #[.int .i64 0, .int .i64 0, .int .i64 0] 66 (0, 0)) := (Below.heap_alloc _ _ _ (Array.getElem?_eq_some_iff.1 HY1.out).1).trans HY1.out
    generalize hP : w1.heap.size = P at *
    generalize w1.alloc (.cells #[.int .i64 nf, .int .i64 nt, .int .i64 na] 66) = W2 at *
    clear o0 o1 o2 n0 n1 n2 of hz0 hz1
    have p0 := (Lib.cell_of_heap hyp (j := 0))
    have p1 := (Lib.cell_of_heap hyp (j := 1))
    have p2 := (Lib.cell_of_heap hyp (j := 2))
    simp at p0 p1 p2
    cases hgd : part_goodP nf nt na
    · have HV := Lib.hid (HV0.trans (if_pos (by simp [hgd])))
      rw [hgd] at HG
      clear HV0 hgd
      go_upto_region 29 with (go_at_call 91; (with_reducible refine (HG.out _).mono ?_); rintro e w3 ⟨rfl, hb3⟩)
      have hyo3 := (hb3.block _ (Array.getElem?_eq_some_iff.1 hyo).1).trans hyo
      have hyn3 := (hb3.block _ (Array.getElem?_eq_some_iff.1 hyn).1).trans hyn
      have hyp3 := (hb3.block _ (Array.getElem?_eq_some_iff.1 hyp).1).trans hyp
      have HB3 := HB2.out.trans (hb3.mono HB2.out.size)
      have q0 := (Lib.cell_of_heap hyo3 (j := 0))
      have q1 := (Lib.cell_of_heap hyo3 (j := 1))
      have q2 := (Lib.cell_of_heap hyo3 (j := 2))
      have r0 := (Lib.cell_of_heap hyn3 (j := 0))
      have r1 := (Lib.cell_of_heap hyn3 (j := 1))
      have r2 := (Lib.cell_of_heap hyn3 (j := 2))
      have s0 := (Lib.cell_of_heap hyp3 (j := 0))
      have s1 := (Lib.cell_of_heap hyp3 (j := 1))
      have s2 := (Lib.cell_of_heap hyp3 (j := 2))
      have qf := fun i => Lib.frozen_of_heap hyo3 i
      simp at q0 q1 q2 r0 r1 r2 s0 s1 s2
      have hz3 : w.heap.size < w3.heap.size := lt_of_cell q0
      clear hyo3 hyn3 hyp3 hb3
      go_wp2_with fail
      refine bodyPost_ret (v := (.tuple #[.agg #[.int .i64 0, .int .i64 0, .int .i64 0], .int .i64 9])) ?_ rfl ⟨by rw [HV.out], ((HB3.setCell (by simp) _).setCell (by simp) _).setCell (by simp) _⟩
      simp [results, Tryz.results67, go_sem, q0, q1, q2, hz3]
    · have HV := Lib.hid (HV0.trans (if_neg (by simp [hgd])))
      rw [hgd] at HG
      clear HV0 hgd
      go_upto_region 30 with (go_at_call 91; (with_reducible refine (HG.out _).mono ?_); rintro e w3 ⟨rfl, hb3⟩)
      have hyo3 := (hb3.block _ (Array.getElem?_eq_some_iff.1 hyo).1).trans hyo
      have hyn3 := (hb3.block _ (Array.getElem?_eq_some_iff.1 hyn).1).trans hyn
      have hyp3 := (hb3.block _ (Array.getElem?_eq_some_iff.1 hyp).1).trans hyp
      have HB3 := HB2.out.trans (hb3.mono HB2.out.size)
      have q0 := (Lib.cell_of_heap hyo3 (j := 0))
      have q1 := (Lib.cell_of_heap hyo3 (j := 1))
      have q2 := (Lib.cell_of_heap hyo3 (j := 2))
      have r0 := (Lib.cell_of_heap hyn3 (j := 0))
      have r1 := (Lib.cell_of_heap hyn3 (j := 1))
      have r2 := (Lib.cell_of_heap hyn3 (j := 2))
      have s0 := (Lib.cell_of_heap hyp3 (j := 0))
      have s1 := (Lib.cell_of_heap hyp3 (j := 1))
      have s2 := (Lib.cell_of_heap hyp3 (j := 2))
      have qf := fun i => Lib.frozen_of_heap hyo3 i
      simp at q0 q1 q2 r0 r1 r2 s0 s1 s2
      have hz3 : w.heap.size < w3.heap.size := lt_of_cell q0
      clear hyo3 hyn3 hyp3 hb3
      go_wp2_with fail
      refine bodyPost_ret (v := (.tuple #[.agg #[.int .i64 nf, .int .i64 nt, .int .i64 na], .int .i64 0])) ?_ rfl ⟨by rw [HV.out], ((HB3.setCell (by simp) _).setCell (by simp) _).setCell (by simp) _⟩
      simp [results, Tryz.results67, go_sem, q0, q1, q2, hz3]
  replace hR := rcon_off hR (show ¬ (r3 = [42] ∧ (f : List UInt8) ≠ []) from fun h => h42 h.1)
  have hs42 : ((bl r3).toList == [42]) = false := beq_eq_false_iff_ne.2 (by rw [Lib.toList_data, bl_list]; exact h42)
  clear h42
  by_cases h0 : r3 = []
  · replace hR := hR.trans (if_pos (.inl h0))
    have HV := Lib.hid (conV_none hR)
    have he := bl_empty h0
    clear hR h0 HK1 hlen
    generalize bl r3 = Q3 at *
    go_wp2_with (first | (go_at_call 88; (with_reducible refine (HC1.out _).mono ?_); rintro e w2 ⟨rfl, rfl⟩) | (go_at_call 87; (with_reducible refine (HE1.out _).mono ?_); rintro e w2 ⟨rfl, rfl⟩) | (go_at_call 86; (with_reducible refine (HTB.out _).mono ?_); rintro e w2 ⟨rfl, rfl⟩) | (go_at_call 89; (with_reducible refine (HK1.out _).mono ?_); rintro e w2 ⟨rfl, rfl⟩) | (go_at_call 90; first | ((with_reducible refine (HNF.out _).mono ?_); rintro e w2 ⟨rfl, rfl⟩) | ((with_reducible refine (HNT.out _).mono ?_); rintro e w2 ⟨rfl, rfl⟩) | ((with_reducible refine (HNA.out _).mono ?_); rintro e w2 ⟨rfl, rfl⟩)))
    refine bodyPost_ret (v := (.tuple #[.agg #[.int .i64 0, .int .i64 0, .int .i64 0], .int .i64 2])) ?_ rfl ⟨by rw [HV.out], ((HB.out.setCell (by simp) _).setCell (by simp) _).setCell (by simp) _⟩
    simp [results, Tryz.results67, go_sem, o0, o1, o2, hz0]
  have he := bl_full h0
  by_cases ha : r3.all isDigit = false
  · replace hR := hR.trans (if_pos (.inr ha))
    have HV := Lib.hid (conV_none hR)
    have hk2 : (((r3.takeWhile isDigit).length : Nat) : Int) ≠ ((bl r3).size : Int) := by rw [hlen]; exact fun h => absurd ((tw_len_all r3).1 (by omega)) (by rw [ha]; simp)
    clear hR h0 ha hlen
    generalize (r3.takeWhile isDigit).length = k3 at *
    generalize bl r3 = Q3 at *
    go_wp2_with (first | (go_at_call 88; (with_reducible refine (HC1.out _).mono ?_); rintro e w2 ⟨rfl, rfl⟩) | (go_at_call 87; (with_reducible refine (HE1.out _).mono ?_); rintro e w2 ⟨rfl, rfl⟩) | (go_at_call 86; (with_reducible refine (HTB.out _).mono ?_); rintro e w2 ⟨rfl, rfl⟩) | (go_at_call 89; (with_reducible refine (HK1.out _).mono ?_); rintro e w2 ⟨rfl, rfl⟩) | (go_at_call 90; first | ((with_reducible refine (HNF.out _).mono ?_); rintro e w2 ⟨rfl, rfl⟩) | ((with_reducible refine (HNT.out _).mono ?_); rintro e w2 ⟨rfl, rfl⟩) | ((with_reducible refine (HNA.out _).mono ?_); rintro e w2 ⟨rfl, rfl⟩)))
    refine bodyPost_ret (v := (.tuple #[.agg #[.int .i64 0, .int .i64 0, .int .i64 0], .int .i64 2])) ?_ rfl ⟨by rw [HV.out], ((HB.out.setCell (by simp) _).setCell (by simp) _).setCell (by simp) _⟩
    simp [results, Tryz.results67, go_sem, o0, o1, o2, hz0]
  replace hR := hR.trans (if_neg (by rintro (h | h); exact h0 h; exact ha h))
  have ha2 : r3.all isDigit = true := by simpa using ha
  have hk2 : (r3.takeWhile isDigit).length = (bl r3).size := by rw [hlen]; exact (tw_len_all r3).2 ha2
  have HNA := Lib.hid (fun w => num24_any r3 w hll ha2)
  rw [hk2] at HK1
  clear h0 ha ha2 hk2 hlen
  generalize bl r3 = Q3 at *
  generalize bl f = FT at *
  generalize bl t = TT at *
  have HV0 := conV_some hR
  clear hR
  generalize numOk f = nof at *
  generalize numOk t = notk at *
  generalize numOk r3 = noa at *
  generalize saidN f = nf at *
  generalize saidN t = nt at *
  generalize saidN r3 = na at *
  cases nof
  case false =>
    have HV := Lib.hid (HV0.trans (if_pos (.inl rfl)))
    clear HV0
    go_wp2_with (first | (go_at_call 88; (with_reducible refine (HC1.out _).mono ?_); rintro e w2 ⟨rfl, rfl⟩) | (go_at_call 87; (with_reducible refine (HE1.out _).mono ?_); rintro e w2 ⟨rfl, rfl⟩) | (go_at_call 86; (with_reducible refine (HTB.out _).mono ?_); rintro e w2 ⟨rfl, rfl⟩) | (go_at_call 89; (with_reducible refine (HK1.out _).mono ?_); rintro e w2 ⟨rfl, rfl⟩) | (go_at_call 90; first | ((with_reducible refine (HNF.out _).mono ?_); rintro e w2 ⟨rfl, rfl⟩) | ((with_reducible refine (HNT.out _).mono ?_); rintro e w2 ⟨rfl, rfl⟩) | ((with_reducible refine (HNA.out _).mono ?_); rintro e w2 ⟨rfl, rfl⟩)))
    refine bodyPost_ret (v := (.tuple #[.agg #[.int .i64 0, .int .i64 0, .int .i64 0], .int .i64 9])) ?_ rfl ⟨by rw [HV.out], (((HB.out.setCell (by simp) _).setCell (by simp) _).setCell (by simp) _).alloc (by have := HB.out.size; simpa [World.setCell] using this) _⟩
    simp [results, Tryz.results67, go_sem, o0, o1, o2, hz0, Nat.ne_of_lt hz0]
  cases notk
  case false =>
    have HV := Lib.hid (HV0.trans (if_pos (.inr (.inl rfl))))
    clear HV0
    go_wp2_with (first | (go_at_call 88; (with_reducible refine (HC1.out _).mono ?_); rintro e w2 ⟨rfl, rfl⟩) | (go_at_call 87; (with_reducible refine (HE1.out _).mono ?_); rintro e w2 ⟨rfl, rfl⟩) | (go_at_call 86; (with_reducible refine (HTB.out _).mono ?_); rintro e w2 ⟨rfl, rfl⟩) | (go_at_call 89; (with_reducible refine (HK1.out _).mono ?_); rintro e w2 ⟨rfl, rfl⟩) | (go_at_call 90; first | ((with_reducible refine (HNF.out _).mono ?_); rintro e w2 ⟨rfl, rfl⟩) | ((with_reducible refine (HNT.out _).mono ?_); rintro e w2 ⟨rfl, rfl⟩) | ((with_reducible refine (HNA.out _).mono ?_); rintro e w2 ⟨rfl, rfl⟩)))
    refine bodyPost_ret (v := (.tuple #[.agg #[.int .i64 0, .int .i64 0, .int .i64 0], .int .i64 9])) ?_ rfl ⟨by rw [HV.out], (((HB.out.setCell (by simp) _).setCell (by simp) _).setCell (by simp) _).alloc (by have := HB.out.size; simpa [World.setCell] using this) _⟩
    simp [results, Tryz.results67, go_sem, o0, o1, o2, hz0, Nat.ne_of_lt hz0]
  cases noa
  case false =>
    have HV := Lib.hid (HV0.trans (if_pos (.inr (.inr (.inl rfl)))))
    clear HV0
    go_wp2_with (first | (go_at_call 88; (with_reducible refine (HC1.out _).mono ?_); rintro e w2 ⟨rfl, rfl⟩) | (go_at_call 87; (with_reducible refine (HE1.out _).mono ?_); rintro e w2 ⟨rfl, rfl⟩) | (go_at_call 86; (with_reducible refine (HTB.out _).mono ?_); rintro e w2 ⟨rfl, rfl⟩) | (go_at_call 89; (with_reducible refine (HK1.out _).mono ?_); rintro e w2 ⟨rfl, rfl⟩) | (go_at_call 90; first | ((with_reducible refine (HNF.out _).mono ?_); rintro e w2 ⟨rfl, rfl⟩) | ((with_reducible refine (HNT.out _).mono ?_); rintro e w2 ⟨rfl, rfl⟩) | ((with_reducible refine (HNA.out _).mono ?_); rintro e w2 ⟨rfl, rfl⟩)))
    refine bodyPost_ret (v := (.tuple #[.agg #[.int .i64 0, .int .i64 0, .int .i64 0], .int .i64 9])) ?_ rfl ⟨by rw [HV.out], (((HB.out.setCell (by simp) _).setCell (by simp) _).setCell (by simp) _).alloc (by have := HB.out.size; simpa [World.setCell] using this) _⟩
    simp [results, Tryz.results67, go_sem, o0, o1, o2, hz0, Nat.ne_of_lt hz0]
  have HG := Lib.hid (fun w => rGood_any nf nt na w)
  go_upto_region 28 with (first | (go_at_call 88; (with_reducible refine (HC1.out _).mono ?_); rintro e w2 ⟨rfl, rfl⟩) | (go_at_call 87; (with_reducible refine (HE1.out _).mono ?_); rintro e w2 ⟨rfl, rfl⟩) | (go_at_call 86; (with_reducible refine (HTB.out _).mono ?_); rintro e w2 ⟨rfl, rfl⟩) | (go_at_call 89; (with_reducible refine (HK1.out _).mono ?_); rintro e w2 ⟨rfl, rfl⟩) | (go_at_call 90; first | ((with_reducible refine (HNF.out _).mono ?_); rintro e w2 ⟨rfl, rfl⟩) | ((with_reducible refine (HNT.out _).mono ?_); rintro e w2 ⟨rfl, rfl⟩) | ((with_reducible refine (HNA.out _).mono ?_); rintro e w2 ⟨rfl, rfl⟩)))
  have HB2 := Lib.hid (HB.out.alloc HB.out.size (.cells #[.int .i64 nf, .int .i64 nt, .int .i64 na] 66))
  have hyp : (w1.alloc (.cells #[.int .i64 nf, .int .i64 nt, .int .i64 na] 66)).heap[w1.heap.size]? = some (.cells #[.int .i64 nf, .int .i64 nt, .int .i64 na] 66 (0, 0)) := heap_alloc_new w1 _
  have hyo : (w1.alloc (.cells #[.int .i64 nf, .int .i64 nt, .int .i64 na] 66)).heap[w.heap.size]? = some (.cells #[.int .i64 0, .int .i64 0, .int .i64 0] 66 (0, 0)) := (Below.heap_alloc _ _ _ hz0).trans HY0.out
  have hyn : (w1.alloc (.cells #[.int .i64 nf, .int .i64 nt, .int .i64 na] 66)).heap[w.heap.size + 1]? = some (.cells #[.int .i64 0, .int .i64 0, .int .i64 0] 66 (0, 0)) := (Below.heap_alloc _ _ _ (Array.getElem?_eq_some_iff.1 HY1.out).1).trans HY1.out
  generalize hP : w1.heap.size = P at *
  generalize w1.alloc (.cells #[.int .i64 nf, .int .i64 nt, .int .i64 na] 66) = W2 at *
  clear o0 o1 o2 n0 n1 n2 of hz0 hz1
  have p0 := (Lib.cell_of_heap hyp (j := 0))
  have p1 := (Lib.cell_of_heap hyp (j := 1))
  have p2 := (Lib.cell_of_heap hyp (j := 2))
  simp at p0 p1 p2
  cases hgd : part_goodP nf nt na
  · have HV := Lib.hid (HV0.trans (if_pos (by simp [hgd])))
    rw [hgd] at HG
    clear HV0 hgd
    go_upto_region 29 with (go_at_call 91; (with_reducible refine (HG.out _).mono ?_); rintro e w3 ⟨rfl, hb3⟩)
    have hyo3 := (hb3.block _ (Array.getElem?_eq_some_iff.1 hyo).1).trans hyo
    have hyn3 := (hb3.block _ (Array.getElem?_eq_some_iff.1 hyn).1).trans hyn
    have hyp3 := (hb3.block _ (Array.getElem?_eq_some_iff.1 hyp).1).trans hyp
    have HB3 := HB2.out.trans (hb3.mono HB2.out.size)
    have q0 := (Lib.cell_of_heap hyo3 (j := 0))
    have q1 := (Lib.cell_of_heap hyo3 (j := 1))
    have q2 := (Lib.cell_of_heap hyo3 (j := 2))
    have r0 := (Lib.cell_of_heap hyn3 (j := 0))
    have r1 := (Lib.cell_of_heap hyn3 (j := 1))
    have r2 := (Lib.cell_of_heap hyn3 (j := 2))
    have s0 := (Lib.cell_of_heap hyp3 (j := 0))
    have s1 := (Lib.cell_of_heap hyp3 (j := 1))
    have s2 := (Lib.cell_of_heap hyp3 (j := 2))
    have qf := fun i => Lib.frozen_of_heap hyo3 i
    simp at q0 q1 q2 r0 r1 r2 s0 s1 s2
    have hz3 : w.heap.size < w3.heap.size := lt_of_cell q0
    clear hyo3 hyn3 hyp3 hb3
    go_wp2_with fail
    refine bodyPost_ret (v := (.tuple #[.agg #[.int .i64 0, .int .i64 0, .int .i64 0], .int .i64 9])) ?_ rfl ⟨by rw [HV.out], ((HB3.setCell (by simp) _).setCell (by simp) _).setCell (by simp) _⟩
    simp [results, Tryz.results67, go_sem, q0, q1, q2, hz3]
  · have HV := Lib.hid (HV0.trans (if_neg (by simp [hgd])))
    rw [hgd] at HG
    clear HV0 hgd
    go_upto_region 30 with (go_at_call 91; (with_reducible refine (HG.out _).mono ?_); rintro e w3 ⟨rfl, hb3⟩)
    have hyo3 := (hb3.block _ (Array.getElem?_eq_some_iff.1 hyo).1).trans hyo
    have hyn3 := (hb3.block _ (Array.getElem?_eq_some_iff.1 hyn).1).trans hyn
    have hyp3 := (hb3.block _ (Array.getElem?_eq_some_iff.1 hyp).1).trans hyp
    have HB3 := HB2.out.trans (hb3.mono HB2.out.size)
    have q0 := (Lib.cell_of_heap hyo3 (j := 0))
    have q1 := (Lib.cell_of_heap hyo3 (j := 1))
    have q2 := (Lib.cell_of_heap hyo3 (j := 2))
    have r0 := (Lib.cell_of_heap hyn3 (j := 0))
    have r1 := (Lib.cell_of_heap hyn3 (j := 1))
    have r2 := (Lib.cell_of_heap hyn3 (j := 2))
    have s0 := (Lib.cell_of_heap hyp3 (j := 0))
    have s1 := (Lib.cell_of_heap hyp3 (j := 1))
    have s2 := (Lib.cell_of_heap hyp3 (j := 2))
    have qf := fun i => Lib.frozen_of_heap hyo3 i
    simp at q0 q1 q2 r0 r1 r2 s0 s1 s2
    have hz3 : w.heap.size < w3.heap.size := lt_of_cell q0
    clear hyo3 hyn3 hyp3 hb3
    go_wp2_with fail
    refine bodyPost_ret (v := (.tuple #[.agg #[.int .i64 nf, .int .i64 nt, .int .i64 na], .int .i64 0])) ?_ rfl ⟨by rw [HV.out], ((HB3.setCell (by simp) _).setCell (by simp) _).setCell (by simp) _⟩
    simp [results, Tryz.results67, go_sem, q0, q1, q2, hz3]

end Go.Proofs.YtcbhkcdphbffpaaGreatDoor
