/-
  Walks of the statements on types: that a type is read.
-/
import Derived.Test.YtigclegknofhmaaMimeL
namespace Go.Proofs.Ytigclegknofhmaa
open Go.RowKit
set_option linter.unusedSimpArgs false
set_option linter.unusedVariables false

def livL : List UInt8 := [32, 84, 101, 120, 116, 47, 72, 84, 77, 76, 59, 67, 104, 97, 114, 115, 101, 116, 61, 34, 117, 116, 102, 45, 56, 34, 32]

def livM : MimeL := ⟨[116, 101, 120, 116], [104, 116, 109, 108], [([99, 104, 97, 114, 115, 101, 116], [117, 116, 102, 45, 56])]⟩

theorem liv_parse : parseR livL = (livM, 0) := by
  unfold parseR parseL
  dsimp only
  rw [show trimL isWhite livL = [84, 101, 120, 116, 47, 72, 84, 77, 76, 59, 67, 104, 97, 114, 115, 101, 116, 61, 34, 117, 116, 102, 45, 56, 34] from by decide +kernel]
  rw [show List.dropWhile nslash ([84, 101, 120, 116, 47, 72, 84, 77, 76, 59, 67, 104, 97, 114, 115, 101, 116, 61, 34, 117, 116, 102, 45, 56, 34] : List UInt8) = [47, 72, 84, 77, 76, 59, 67, 104, 97, 114, 115, 101, 116, 61, 34, 117, 116, 102, 45, 56, 34] from by decide +kernel]
  rw [show List.takeWhile nslash ([84, 101, 120, 116, 47, 72, 84, 77, 76, 59, 67, 104, 97, 114, 115, 101, 116, 61, 34, 117, 116, 102, 45, 56, 34] : List UInt8) = [84, 101, 120, 116] from by decide +kernel]
  rw [List.tail_cons]
  rw [show List.takeWhile nsemi ([72, 84, 77, 76, 59, 67, 104, 97, 114, 115, 101, 116, 61, 34, 117, 116, 102, 45, 56, 34] : List UInt8) = [72, 84, 77, 76] from by decide +kernel]
  rw [show List.dropWhile nsemi ([72, 84, 77, 76, 59, 67, 104, 97, 114, 115, 101, 116, 61, 34, 117, 116, 102, 45, 56, 34] : List UInt8) = [59, 67, 104, 97, 114, 115, 101, 116, 61, 34, 117, 116, 102, 45, 56, 34] from by decide +kernel]
  rw [parsL_semi]
  rw [show parmStep ([67, 104, 97, 114, 115, 101, 116, 61, 34, 117, 116, 102, 45, 56, 34] : List UInt8) = ([99, 104, 97, 114, 115, 101, 116], [117, 116, 102, 45, 56], true, []) from by decide +kernel]
  rw [show (trimEnd isWhite ([72, 84, 77, 76] : List UInt8)) = [72, 84, 77, 76] from by decide +kernel]
  rw [show addP [] (([99, 104, 97, 114, 115, 101, 116], [117, 116, 102, 45, 56], true, []) : List UInt8 × List UInt8 × Bool × List UInt8) = [([99, 104, 97, 114, 115, 101, 116], [117, 116, 102, 45, 56])] from by decide +kernel]
  rw [parsL_nil, if_neg (by decide +kernel)]
  rfl

set_option maxRecDepth 20000 in
theorem lives10_any (w : World) : Calls Try.prog 27 #[] w fun e w' => e = .returned (.bool true) ∧ Below w.heap.size w w' := by
  have HPA := Lib.hid (Parse_any (bt livL) w (by decide))
  rw [bt_list, liv_parse] at HPA
  have hsz : SizesM livM := ⟨by decide, by decide, by decide, by intro p hp; simp [livM] at hp; subst hp; exact ⟨by decide, by decide⟩⟩
  have HSZ := Lib.hid hsz
  clear hsz
  have hl : bt livL = ⟨#[32, 84, 101, 120, 116, 47, 72, 84, 77, 76, 59, 67, 104, 97, 114, 115, 101, 116, 61, 34, 117, 116, 102, 45, 56, 34, 32]⟩ := rfl
  rw [hl] at HPA
  clear hl
  unfold mimV at HPA
  dsimp only at HPA
  go_enter Try.func27, Try.ntmps27
  go_wp2_with fail
  refine HPA.out.mono ?_
  rintro e w1 ⟨A, c, rfl, hA, hb1⟩
  have HA := Lib.hid hA
  have HB1 := Lib.hid hb1
  clear hA hb1
  have hbx := below_box w1 (.cells #[.string (bt livM.t), .string (bt livM.s), .slice A livM.ps.length c] 48)
  have HCL : Hid ((w1.alloc (.cells #[.string (bt livM.t), .string (bt livM.s), .slice A livM.ps.length c] 48)).heap[w1.heap.size]? = some (.cells #[.string (bt livM.t), .string (bt livM.s), .slice A livM.ps.length c] 48 (0, 0))) := Lib.hid (heap_alloc_new w1 _)
  have HBX := Lib.hid (HB1.out.trans (hbx.mono HB1.out.size))
  have HAX := Lib.hid (HA.out.on hbx)
  clear hbx
  go_upto_region 2 with fail
  generalize hB : w1.heap.size = B at *
  generalize w1.alloc (.cells #[.string (bt livM.t), .string (bt livM.s), .slice A livM.ps.length c] 48) = w2 at *
  clear hB HA HB1
  have c0 : w2.cell? ⟨B, 0, none⟩ = some (.string (bt livM.t)) := by rw [Lib.cell_of_heap HCL.out]; rfl
  have c1 : w2.cell? ⟨B, 1, none⟩ = some (.string (bt livM.s)) := by rw [Lib.cell_of_heap HCL.out]; rfl
  have c2 : w2.cell? ⟨B, 2, none⟩ = some (.slice A livM.ps.length c) := by rw [Lib.cell_of_heap HCL.out]; rfl
  have hlt : B < w2.heap.size := (Array.getElem?_eq_some_iff.1 HCL.out).1
  have hpm := Param_yes livM A c ⟨#[99, 104, 97, 114, 115, 101, 116]⟩ w2 HSZ.out HAX.out 0 (by decide +kernel) (by decide)
  have hv : bt (livM.ps[0]'(by decide)).2 = ⟨#[117, 116, 102, 45, 56]⟩ := rfl
  rw [hv] at hpm
  unfold mimV at hpm
  have HPM := Lib.hid hpm
  clear hpm hv
  go_wp2_with fail
  refine HPM.out.mono ?_
  rintro e w3 ⟨rfl, hb3⟩
  have HB3 := Lib.hid (HBX.out.trans (hb3.mono HBX.out.size))
  rw [← cell_below hb3 hlt] at c0 c1 c2
  have hes := Essence_par livM A c w3 HSZ.out
  have hv : bt (essL livM) = ⟨#[116, 101, 120, 116, 47, 104, 116, 109, 108]⟩ := rfl
  rw [hv] at hes
  unfold mimV at hes
  have HES := Lib.hid hes
  clear hb3 hes hv HPM
  go_wp2_with fail
  refine HES.out.mono ?_
  rintro e w4 ⟨rfl, hb4⟩
  have HB4 := Lib.hid (HB3.out.trans (hb4.mono HB3.out.size))
  clear hb4 HES
  go_wp2_with fail
  go_ret
  exact ⟨rfl, HB4.out⟩

end Go.Proofs.Ytigclegknofhmaa
