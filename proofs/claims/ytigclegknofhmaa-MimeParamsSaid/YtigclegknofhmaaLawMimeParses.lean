/-
  The walk of the law MimeParses.
-/
import Derived.Test.YtigclegknofhmaaMimeM
import Derived.Test.YtigclegknofhmaaMimeLen
namespace Go.Proofs.Ytigclegknofhmaa
open Go.RowKit
set_option linter.unusedSimpArgs false
set_option linter.unusedVariables false

theorem box_cells {w : World} {B : Nat} {a b c : Value} {t : TypeId} (h : w.heap[B]? = some (.cells #[a, b, c] t (0, 0))) : w.cell? ⟨B, 0, none⟩ = some a ∧ w.cell? ⟨B, 1, none⟩ = some b ∧ w.cell? ⟨B, 2, none⟩ = some c ∧ B < w.heap.size := by
  refine ⟨?_, ?_, ?_, (Array.getElem?_eq_some_iff.1 h).1⟩ <;> (rw [Lib.cell_of_heap h]; rfl)

theorem parseR_some {l : List UInt8} {m : MimeL} (h : parseL l = some m) : parseR l = (m, 0) := by unfold parseR; rw [h]
theorem parseR_none {l : List UInt8} (h : parseL l = none) : parseR l = (noM, 2) := by unfold parseR; rw [h]

theorem noM_sizes : SizesM noM := ⟨by decide, by decide, by decide, by intro p hp; simp [noM] at hp⟩

set_option maxHeartbeats 1000000 in
set_option maxRecDepth 20000 in
theorem mimeParses_walk (s : ByteArray) (w : World) (hs : s.size ≤ maxLen) :
    Calls Try.prog 6 #[.string s] w fun e w' => e = .returned (.bool true) ∧ Below w.heap.size w w' := by
  have hcz : (cutB s 200).size ≤ 200 := by
    unfold cutB
    split
    · rw [extract_size]; omega
    · omega
  have HCT : Hid (∀ w, Calls Try.prog 8 #[.string s, .int .i64 200] w fun e w' => e = .returned (.string (cutB s 200)) ∧ w = w') := Lib.hid (fun w => Cut_any s 200 w hs (by decide))
  generalize cutB s 200 = S at *
  have hll : S.data.toList.length ≤ 200 := by rw [← Lib.size_eq]; exact hcz
  have HP1 := Lib.hid (fun w => Parse_any S w (by omega))
  have HP2 := Lib.hid (fun w => rParse_any S w (by omega))
  have hPS : ∃ m code, parseR S.data.toList = (m, code) ∧ SizesM m ∧ ((code = 2) ∨ (code = 0 ∧ goodL m = true ∧ (mimeW m).length ≤ 1000)) := by
    cases hp : parseL S.data.toList with
    | none => exact ⟨noM, 2, parseR_none hp, noM_sizes, .inl rfl⟩
    | some m =>
      obtain ⟨z1, z2, z3, z4⟩ := parse_sizes hp (by omega)
      have hw := mimeW_len hp
      exact ⟨m, 0, parseR_some hp, ⟨z1, z2, z3, z4⟩, .inr ⟨rfl, parse_good hp, by omega⟩⟩
  obtain ⟨m, code, hpr, hsz, hcode⟩ := hPS
  rw [hpr] at HP1 HP2
  have HSZ := Lib.hid hsz
  clear hpr hsz hll hcz hs
  dsimp only at HP1 HP2
  go_enter Try.func6, Try.ntmps6
  go_wp2_with (go_at_call 8; (with_reducible refine (HCT.out _).mono ?_); rintro e w' ⟨rfl, rfl⟩)
  refine (HP1.out _).mono ?_
  rintro e w1 ⟨A, c, rfl, hA, hb1⟩
  have HB1 := Lib.hid hb1
  have hbx := below_box w1 (.cells #[.string (bt m.t), .string (bt m.s), .slice A m.ps.length c] 48)
  have HA2 := Lib.hid (hA.on hbx)
  have HB2 := Lib.hid (hb1.trans (hbx.mono hb1.size))
  have HC2 : Hid ((w1.alloc (.cells #[.string (bt m.t), .string (bt m.s), .slice A m.ps.length c] 48)).heap[w1.heap.size]? = some (.cells #[.string (bt m.t), .string (bt m.s), .slice A m.ps.length c] 48 (0, 0))) := Lib.hid (heap_alloc_new w1 _)
  clear hA hb1 hbx HP1 HCT HB1
  unfold mimV
  go_upto_region 3 with fail
  generalize hB : w1.heap.size = B at *
  generalize w1.alloc (.cells #[.string (bt m.t), .string (bt m.s), .slice A m.ps.length c] 48) = w2 at *
  clear hB
  go_wp2_with fail
  refine (HP2.out _).mono ?_
  rintro e w3 ⟨A2, c2, rfl, hA3, hb3⟩
  have hbx := below_box w3 (.cells #[.string (bt m.t), .string (bt m.s), .slice A2 m.ps.length c2] 48)
  have hb4 := hb3.trans (hbx.mono hb3.size)
  have HA4 := Lib.hid (HA2.out.on hb4)
  have HX4 := Lib.hid (hA3.on hbx)
  have HB4 := Lib.hid (HB2.out.trans (hb4.mono HB2.out.size))
  have HC4 : Hid ((w3.alloc (.cells #[.string (bt m.t), .string (bt m.s), .slice A2 m.ps.length c2] 48)).heap[B]? = some (.cells #[.string (bt m.t), .string (bt m.s), .slice A m.ps.length c] 48 (0, 0))) := Lib.hid ((hb4.block _ (Array.getElem?_eq_some_iff.1 HC2.out).1).trans HC2.out)
  have HD4 : Hid ((w3.alloc (.cells #[.string (bt m.t), .string (bt m.s), .slice A2 m.ps.length c2] 48)).heap[w3.heap.size]? = some (.cells #[.string (bt m.t), .string (bt m.s), .slice A2 m.ps.length c2] 48 (0, 0))) := Lib.hid (heap_alloc_new w3 _)
  clear hA3 hb3 hbx hb4 HP2 HA2 HB2 HC2
  unfold mimV
  go_upto_region 4 with fail
  generalize hB : w3.heap.size = D at *
  generalize w3.alloc (.cells #[.string (bt m.t), .string (bt m.s), .slice A2 m.ps.length c2] 48) = w4 at *
  clear hB
  obtain ⟨c0, c1, c2', c3⟩ := box_cells HC4.out
  obtain ⟨d0, d1, d2', d3⟩ := box_cells HD4.out
  have HSA := Lib.hid (rSame_par m m A A2 c c2 w4 HSZ.out HSZ.out HA4.out HX4.out)
  rw [sameM_self] at HSA
  unfold mimV at HSA
  go_wp2_with fail
  refine HSA.out.mono ?_
  rintro e w5 ⟨rfl, hb5⟩
  have HB5 := Lib.hid (HB4.out.trans (hb5.mono HB4.out.size))
  have HA5 := Lib.hid (HA4.out.on hb5)
  have HX5 := Lib.hid (HX4.out.on hb5)
  have HC5 := Lib.hid ((hb5.block _ c3).trans HC4.out)
  have HD5 := Lib.hid ((hb5.block _ d3).trans HD4.out)
  clear hb5 c0 c1 c2' c3 d0 d1 d2' d3 HSA HA4 HX4 HC4 HD4 HB4
  rcases hcode with rfl | ⟨rfl, hgood, hlen⟩
  · go_wp2_with fail
    refine (lives10_any _).mono ?_
    rintro e w6 ⟨rfl, hb6⟩
    have HB6 := Lib.hid (HB5.out.trans (hb6.mono HB5.out.size))
    clear hb6
    go_wp2_with fail
    go_ret
    exact ⟨rfl, HB6.out⟩
  · obtain ⟨c0, c1, c2', c3⟩ := box_cells HC5.out
    have HSE := Lib.hid (Serial_par m A c w5 HSZ.out HA5.out)
    rw [serQ_yes hgood] at HSE
    unfold mimV at HSE
    have HP3 := Lib.hid (fun w => Parse_any (bt (mimeW m)) w (by rw [bt_size]; exact hlen))
    rw [bt_list, parseR_some (parse_back m hgood)] at HP3
    dsimp only at HP3
    have HGD := Lib.hid hgood
    clear hgood hlen
    generalize mimeW m = W2 at *
    go_wp2_with fail
    refine HSE.out.mono ?_
    rintro e w6 ⟨rfl, hb6⟩
    have HB6 := Lib.hid (HB5.out.trans (hb6.mono HB5.out.size))
    have HA6 := Lib.hid (HA5.out.on hb6)
    have HX6 := Lib.hid (HX5.out.on hb6)
    have HC6 := Lib.hid ((hb6.block _ c3).trans HC5.out)
    have HD6 := Lib.hid ((hb6.block _ (box_cells HD5.out).2.2.2).trans HD5.out)
    clear hb6 c0 c1 c2' c3 HSE HA5 HX5 HC5 HD5 HB5
    go_wp2_with fail
    refine (HP3.out _).mono ?_
    rintro e w7 ⟨A3, c3, rfl, hA7, hb7⟩
    have hbx := below_box w7 (.cells #[.string (bt m.t), .string (bt m.s), .slice A3 m.ps.length c3] 48)
    have hb8 := hb7.trans (hbx.mono hb7.size)
    have HB8 := Lib.hid (HB6.out.trans (hb8.mono HB6.out.size))
    have HA8 := Lib.hid (HA6.out.on hb8)
    have HX8 := Lib.hid (HX6.out.on hb8)
    have HY8 := Lib.hid (hA7.on hbx)
    have HC8 := Lib.hid ((hb8.block _ (box_cells HC6.out).2.2.2).trans HC6.out)
    have HD8 := Lib.hid ((hb8.block _ (box_cells HD6.out).2.2.2).trans HD6.out)
    have HE8 : Hid ((w7.alloc (.cells #[.string (bt m.t), .string (bt m.s), .slice A3 m.ps.length c3] 48)).heap[w7.heap.size]? = some (.cells #[.string (bt m.t), .string (bt m.s), .slice A3 m.ps.length c3] 48 (0, 0))) := Lib.hid (heap_alloc_new w7 _)
    clear hA7 hb7 hbx hb8 HP3 HA6 HX6 HC6 HD6 HB6
    unfold mimV
    go_upto_region 9 with fail
    generalize hB : w7.heap.size = E at *
    generalize w7.alloc (.cells #[.string (bt m.t), .string (bt m.s), .slice A3 m.ps.length c3] 48) = w8 at *
    clear hB
    obtain ⟨c0, c1, c2', cz⟩ := box_cells HC8.out
    have HGO := Lib.hid (Good_par m A c w8 HSZ.out HA8.out)
    rw [HGD.out] at HGO
    unfold mimV at HGO
    go_wp2_with fail
    refine HGO.out.mono ?_
    rintro e w9 ⟨rfl, hb9⟩
    have HB9 := Lib.hid (HB8.out.trans (hb9.mono HB8.out.size))
    have HX9 := Lib.hid (HX8.out.on hb9)
    have HY9 := Lib.hid (HY8.out.on hb9)
    have HD9 := Lib.hid ((hb9.block _ (box_cells HD8.out).2.2.2).trans HD8.out)
    have HE9 := Lib.hid ((hb9.block _ (box_cells HE8.out).2.2.2).trans HE8.out)
    clear hb9 c0 c1 c2' cz HGO HA8 HX8 HY8 HC8 HD8 HE8 HB8
    obtain ⟨d0, d1, d2', dz⟩ := box_cells HD9.out
    obtain ⟨e0, e1, e2', ez⟩ := box_cells HE9.out
    have HSA := Lib.hid (rSame_par m m A3 A2 c3 c2 w9 HSZ.out HSZ.out HY9.out HX9.out)
    rw [sameM_self] at HSA
    unfold mimV at HSA
    go_wp2_with fail
    refine HSA.out.mono ?_
    rintro e w10 ⟨rfl, hb10⟩
    have HB10 := Lib.hid (HB9.out.trans (hb10.mono HB9.out.size))
    clear hb10 d0 d1 d2' dz e0 e1 e2' ez
    go_wp2_with fail
    refine (lives10_any _).mono ?_
    rintro e w11 ⟨rfl, hb11⟩
    have HB11 := Lib.hid (HB10.out.trans (hb11.mono HB10.out.size))
    clear hb11
    go_wp2_with fail
    go_ret
    exact ⟨rfl, HB11.out⟩

end Go.Proofs.Ytigclegknofhmaa
