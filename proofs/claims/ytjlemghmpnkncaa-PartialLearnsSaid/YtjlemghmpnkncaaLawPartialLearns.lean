/-
  The walk of the law PartialLearns.
-/
import Derived.Test.YtjlemghmpnkncaaValidC
namespace Go.Proofs.Ytjlemghmpnkncaa
open Go.RowKit
set_option linter.unusedSimpArgs false
set_option linter.unusedVariables false

theorem isKey_addK (m : Nat) (l : Bool) (u : ByteArray) : isKey (addK m l u) u = (l && !decide (m = 0)) := by
  unfold addK
  cases h : (l && !decide (m = 0))
  · rfl
  · simp [isKey, bb_self]

theorem four_cells {w : World} {B : Nat} {a b c d : Value} {t : TypeId} (h : w.heap[B]? = some (.cells #[a, b, c, d] t (0, 0))) : w.cell? ⟨B, 0, none⟩ = some a ∧ w.cell? ⟨B, 1, none⟩ = some b ∧ w.cell? ⟨B, 2, none⟩ = some c ∧ w.cell? ⟨B, 3, none⟩ = some d ∧ B < w.heap.size := by
  refine ⟨?_, ?_, ?_, ?_, (Array.getElem?_eq_some_iff.1 h).1⟩ <;> (rw [Lib.cell_of_heap h]; rfl)

set_option maxHeartbeats 4000000 in
set_option maxRecDepth 20000 in
theorem partialLearns_walk (u : ByteArray) (x y : Bool) (md vd : Int) (rs : ByteArray) (at_ : Int) (media : Bool) (most : UInt8) (w : World) (hu : u.size ≤ maxLen) :
    Calls Try.prog 3 #[askV u x y md, judV vd rs at_ media, .int .u8 most.toNat] w fun e w' => e = .returned (.bool true) ∧ Below w.heap.size w w' := by
  have HAK := Lib.hid (fun w => Ask_any u x y md w hu)
  generalize cutB u 80 = u2 at *
  obtain ⟨mm, hmm⟩ : ∃ mm : Nat, most.toNat % 4 = mm := ⟨_, rfl⟩
  have hm3 : mm ≤ 3 := by omega
  have hmo := most.toNat_lt
  unfold askV judV at *
  go_enter Try.func3, Try.ntmps3
  go_upto_region 1 with fail
  generalize hW : (w.alloc (.cells #[.string u, .bool x, .bool y, .int .i64 md] 23)).alloc (.cells #[.int .i64 vd, .string rs, .int .i64 at_, .bool media] 25) = W
  have hP : W.heap[w.heap.size]? = some (.cells #[.string u, .bool x, .bool y, .int .i64 md] 23 (0, 0)) := by
    rw [← hW]; exact (Below.heap_alloc _ _ _ (by simp)).trans (heap_alloc_new w _)
  have hJ : W.heap[w.heap.size + 1]? = some (.cells #[.int .i64 vd, .string rs, .int .i64 at_, .bool media] 25 (0, 0)) := by
    rw [← hW]
    have := heap_alloc_new (w.alloc (.cells #[.string u, .bool x, .bool y, .int .i64 md] 23)) (.cells #[.int .i64 vd, .string rs, .int .i64 at_, .bool media] 25)
    simpa using this
  have hWB : Below w.heap.size w W := by rw [← hW]; exact (below_box _ _).alloc (by simp) _
  clear hW
  obtain ⟨p0, p1, p2, p3, pz⟩ := four_cells hP
  go_wp2_with fail
  refine (HAK.out _).mono ?_
  rintro e w1 ⟨rfl, hb1⟩
  have hP1 := (hb1.block _ pz).trans hP
  have hJ1 := (hb1.block _ (four_cells hJ).2.2.2.2).trans hJ
  have hB1 := hWB.trans (hb1.mono hWB.size)
  clear hb1 p0 p1 p2 p3 pz hP hJ hWB HAK
  obtain ⟨p0, p1, p2, p3, pz⟩ := four_cells hP1
  have fz : ∀ i, w1.frozen? ⟨w.heap.size, i, none⟩ = false := fun i => Lib.frozen_of_heap hP1 i
  go_upto_region 2 with fail
  have hP2 : ((((w1.setCell ⟨w.heap.size, 0, none⟩ (.string u2)).setCell ⟨w.heap.size, 1, none⟩ (.bool x)).setCell ⟨w.heap.size, 2, none⟩ (.bool y)).setCell ⟨w.heap.size, 3, none⟩ (.int .i64 md)).heap[w.heap.size]? = some (.cells #[.string u2, .bool x, .bool y, .int .i64 md] 23 (0, 0)) := by
    simp [World.setCell, Array.getElem?_modify, hP1]
  have hJ2 : ((((w1.setCell ⟨w.heap.size, 0, none⟩ (.string u2)).setCell ⟨w.heap.size, 1, none⟩ (.bool x)).setCell ⟨w.heap.size, 2, none⟩ (.bool y)).setCell ⟨w.heap.size, 3, none⟩ (.int .i64 md)).heap[w.heap.size + 1]? = some (.cells #[.int .i64 vd, .string rs, .int .i64 at_, .bool media] 25 (0, 0)) := by
    simp [World.setCell, Array.getElem?_modify, hJ1]
  have HB2 := Lib.hid ((((hB1.setCell (p := ⟨w.heap.size, 0, none⟩) (by simp) (.string u2)).setCell (p := ⟨w.heap.size, 1, none⟩) (by simp) (.bool x)).setCell (p := ⟨w.heap.size, 2, none⟩) (by simp) (.bool y)).setCell (p := ⟨w.heap.size, 3, none⟩) (by simp) (.int .i64 md))
  clear p0 p1 p2 p3 pz fz hP1 hJ1 hB1
  generalize (((w1.setCell ⟨w.heap.size, 0, none⟩ (.string u2)).setCell ⟨w.heap.size, 1, none⟩ (.bool x)).setCell ⟨w.heap.size, 2, none⟩ (.bool y)).setCell ⟨w.heap.size, 3, none⟩ (.int .i64 md) = W2 at *
  obtain ⟨p0, p1, p2, p3, pz⟩ := four_cells hP2
  obtain ⟨j0, j1, j2, j3, jz⟩ := four_cells hJ2
  have HP2 := Lib.hid hP2
  have HJ2 := Lib.hid hJ2
  clear hP2 hJ2
  have HNE := Lib.hid (New_set mm W2 hm3)
  go_upto_region 3 with fail
  have hmi : ((most.toNat : Int) % 4) = (mm : Int) := by omega
  rw [hmi]
  clear hmi hmm hmo
  go_wp2_with fail
  refine HNE.out.mono ?_
  rintro e w3 ⟨g, r, rfl, hg, hr, hgr, hs3, hb3⟩
  have hP3 := (hb3.block _ pz).trans HP2.out
  have hJ3 := (hb3.block _ jz).trans HJ2.out
  have HB3 := Lib.hid (HB2.out.trans (hb3.mono HB2.out.size))
  have HS3 := Lib.hid hs3
  have hgP : w.heap.size < W2.heap.size := pz
  have hnn := fun w => ne_nil_set g w
  clear hb3 p0 p1 p2 p3 j0 j1 j2 j3 HNE
  obtain ⟨p0, p1, p2, p3, pz3⟩ := four_cells hP3
  obtain ⟨j0, j1, j2, j3, jz3⟩ := four_cells hJ3
  have HP3 := Lib.hid hP3
  have HJ3 := Lib.hid hJ3
  have HKN := Lib.hid (Known_set g r none 0 0 mm 0 u2 x y md w3 hs3)
  unfold askV at HKN
  clear hP3 hJ3 hs3
  go_wp2_with fail
  refine HKN.out.mono ?_
  rintro e w4 ⟨rfl, hb4⟩
  have hk0 : (md == 2 && isKey none u2) = false := by simp [isKey]
  rw [hk0]
  have hP4 := (hb4.block _ pz3).trans HP3.out
  have hJ4 := (hb4.block _ jz3).trans HJ3.out
  have HB4 := Lib.hid (HB3.out.trans (hb4.mono HB3.out.size))
  have HS4 := Lib.hid (HS3.out.below hb4)
  clear hk0 hb4 p0 p1 p2 p3 j0 j1 j2 j3 HKN HS3 HP3 HJ3 pz3 jz3
  obtain ⟨p0, p1, p2, p3, pz4⟩ := four_cells hP4
  obtain ⟨j0, j1, j2, j3, jz4⟩ := four_cells hJ4
  have HP4 := Lib.hid hP4
  have HJ4 := Lib.hid hJ4
  have HLE := Lib.hid (Learn_set g r mm u2 x y md vd rs at_ media w4 HS4.out hgr hm3)
  unfold askV judV at HLE
  have hlq : learnsQ u2 md vd media = (vd == 1 && media && !(md == 0) && !u2.toList.isEmpty) := rfl
  generalize learnsQ u2 md vd media = l at *
  have HLQ := Lib.hid hlq
  clear hP4 hJ4 hlq
  go_wp2_with fail
  refine HLE.out.mono ?_
  rintro e w5 ⟨rfl, ⟨clk, nx, go, hs5⟩, ho5⟩
  have hP5 := (ho5.block _ pz4 (by omega) (by omega)).trans HP4.out
  have hJ5 := (ho5.block _ jz4 (by omega) (by omega)).trans HJ4.out
  have HB5 : Hid (Below w.heap.size w w5) := Lib.hid ⟨ho5.os.trans HB4.out.os, ho5.tape.trans HB4.out.tape, ho5.output.trans HB4.out.output, Nat.le_trans HB4.out.size ho5.size, fun q hq => (ho5.block q (Nat.lt_of_lt_of_le hq HB4.out.size) (by omega) (by omega)).trans (HB4.out.block q hq)⟩
  have HS5 := Lib.hid hs5
  clear hs5 ho5 p0 p1 p2 p3 j0 j1 j2 j3 HLE HS4 HP4 HJ4 pz4 jz4
  obtain ⟨p0, p1, p2, p3, pz5⟩ := four_cells hP5
  obtain ⟨j0, j1, j2, j3, jz5⟩ := four_cells hJ5
  have HP5 := Lib.hid hP5
  clear hP5 hJ5
  go_upto_region 8 with fail
  go_cut [13] (fun v wx => v = .bool l ∧ w5 = wx)
  case first =>
    by_cases h1 : vd = 1
    · subst h1
      cases media
      · have hl : l = false := by rw [HLQ.out]; rfl
        go_wp2_with fail
        go_meet
        exact ⟨by rw [hl], rfl⟩
      · by_cases h3 : md = 0
        · subst h3
          have hl : l = false := by rw [HLQ.out]; rfl
          go_wp2_with fail
          go_meet
          exact ⟨by rw [hl], rfl⟩
        · have h4 : (md == 0) = false := beq_eq_false_iff_ne.2 h3
          have hl : l = !u2.toList.isEmpty := by rw [HLQ.out, h4]; rfl
          have HL := Lib.hid hl
          clear hl
          go_wp2_with fail
          go_meet
          exact ⟨by rw [HL.out]; simp [bne, h4], rfl⟩
    · have h2 : (vd == 1) = false := beq_eq_false_iff_ne.2 h1
      have hl : l = false := by rw [HLQ.out, h2]; rfl
      have HL := Lib.hid hl
      clear hl
      go_wp2_with fail
      go_meet
      exact ⟨by rw [HL.out], rfl⟩
  obtain ⟨rfl, rfl⟩ := hcut
  clear j0 j1 j2 j3 jz5
  cases l
  · have a1 : addS mm false u2 = ⟨#[]⟩ := rfl
    have a2 : addB mm false = false := rfl
    rw [a1, a2]
    clear a1 a2
    have hik : isKey (addK mm false u2) u2 = false := by rw [isKey_addK]; rfl
    have HHS := Lib.hid (Has_set g r (addK mm false u2) clk nx mm go u2 w5 HS5.out)
    have HKN := Lib.hid (fun (w1 : World) (hb : Below w5.heap.size w5 w1) => Known_set g r (addK mm false u2) clk nx mm go u2 x y md w1 (HS5.out.below hb))
    rw [hik] at HHS HKN
    have HNI := Lib.hid (fun (w1 : World) => Known_nil u2 x y md w1)
    unfold askV at HKN HNI
    clear hik
    go_wp2_with (go_at_call 12; (with_reducible refine HHS.out.mono ?_); rintro e w' ⟨rfl, rfl⟩)
    refine (HKN.out _ (Below.refl _ _)).mono ?_
    rintro e w6 ⟨rfl, hb6⟩
    have HB6 := Lib.hid (HB5.out.trans (hb6.mono HB5.out.size))
    rw [← cell_below hb6 pz5] at p0 p1 p2 p3
    clear hb6 HKN HHS
    go_wp2_with fail
    refine (HNI.out _).mono ?_
    rintro e w7 ⟨rfl, hb7⟩
    have HB7 := Lib.hid (HB6.out.trans (hb7.mono HB6.out.size))
    clear hb7 HNI p0 p1 p2 p3
    go_wp2_with fail
    refine (lives35_any _).mono ?_
    rintro e w8 ⟨rfl, hb8⟩
    have HB8 := Lib.hid (HB7.out.trans (hb8.mono HB7.out.size))
    clear hb8
    go_wp2_with fail
    go_ret
    exact ⟨rfl, HB8.out⟩
  · by_cases h0 : mm = 0
    · subst h0
      have a1 : addS 0 true u2 = u2 := rfl
      have a2 : addB 0 true = true := rfl
      rw [a1, a2]
      clear a1 a2
      have hik : isKey (addK 0 true u2) u2 = false := by rw [isKey_addK]; rfl
      have HHS := Lib.hid (Has_set g r (addK 0 true u2) clk nx (0 : Nat) go u2 w5 HS5.out)
      have HKN := Lib.hid (fun (w1 : World) (hb : Below w5.heap.size w5 w1) => Known_set g r (addK 0 true u2) clk nx (0 : Nat) go u2 x y md w1 (HS5.out.below hb))
      rw [hik] at HHS HKN
      have HNI := Lib.hid (fun (w1 : World) => Known_nil u2 x y md w1)
      unfold askV at HKN HNI
      clear hik
      go_wp2_with (go_at_call 12; (with_reducible refine HHS.out.mono ?_); rintro e w' ⟨rfl, rfl⟩)
      refine (HKN.out _ (Below.refl _ _)).mono ?_
      rintro e w6 ⟨rfl, hb6⟩
      have HB6 := Lib.hid (HB5.out.trans (hb6.mono HB5.out.size))
      rw [← cell_below hb6 pz5] at p0 p1 p2 p3
      clear hb6 HKN HHS
      go_wp2_with fail
      refine (HNI.out _).mono ?_
      rintro e w7 ⟨rfl, hb7⟩
      have HB7 := Lib.hid (HB6.out.trans (hb7.mono HB6.out.size))
      clear hb7 HNI p0 p1 p2 p3
      go_wp2_with fail
      refine (lives35_any _).mono ?_
      rintro e w8 ⟨rfl, hb8⟩
      have HB8 := Lib.hid (HB7.out.trans (hb8.mono HB7.out.size))
      clear hb8
      go_wp2_with fail
      go_ret
      exact ⟨rfl, HB8.out⟩
    · have a1 : addS mm true u2 = ⟨#[]⟩ := by unfold addS; simp [h0]
      have a2 : addB mm true = false := by unfold addB; simp [h0]
      have hmp : 0 < mm := by omega
      rw [a1, a2]
      clear a1 a2
      have hik : isKey (addK mm true u2) u2 = true := by rw [isKey_addK]; simp [h0]
      have HHS := Lib.hid (Has_set g r (addK mm true u2) clk nx mm go u2 w5 HS5.out)
      have HKN := Lib.hid (fun (w1 : World) (hb : Below w5.heap.size w5 w1) => Known_set g r (addK mm true u2) clk nx mm go u2 x y md w1 (HS5.out.below hb))
      rw [hik] at HHS HKN
      have HNI := Lib.hid (fun (w1 : World) => Known_nil u2 x y md w1)
      unfold askV at HKN HNI
      clear hik
      go_wp2_with (go_at_call 12; (with_reducible refine HHS.out.mono ?_); rintro e w' ⟨rfl, rfl⟩)
      refine (HKN.out _ (Below.refl _ _)).mono ?_
      rintro e w6 ⟨rfl, hb6⟩
      have HB6 := Lib.hid (HB5.out.trans (hb6.mono HB5.out.size))
      rw [← cell_below hb6 pz5] at p0 p1 p2 p3
      clear hb6 HKN HHS
      go_wp2_with fail
      refine (HNI.out _).mono ?_
      rintro e w7 ⟨rfl, hb7⟩
      have HB7 := Lib.hid (HB6.out.trans (hb7.mono HB6.out.size))
      clear hb7 HNI p0 p1 p2 p3
      go_wp2_with fail
      refine (lives35_any _).mono ?_
      rintro e w8 ⟨rfl, hb8⟩
      have HB8 := Lib.hid (HB7.out.trans (hb8.mono HB7.out.size))
      clear hb8
      go_wp2_with fail
      go_ret
      exact ⟨rfl, HB8.out⟩

end Go.Proofs.Ytjlemghmpnkncaa
