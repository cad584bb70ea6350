/-
  The law ImageTable: its walk.
-/
import Derived.Test.YtcpjokjfjhhndaaLawImageGrows
namespace Go.Proofs.Ytcpjokjfjhhndaa
open Go.RowKit
set_option linter.unusedSimpArgs false
set_option linter.unusedVariables false

set_option maxHeartbeats 1000000 in
set_option maxRecDepth 20000 in
theorem imageTable_walk (i : UInt8) (t : ByteArray) (w : World) (ht : t.size ≤ maxLen) :
    Calls Try.prog 13 #[.int .u8 (i.toNat : Int), .string t] w fun e w' => e = .returned (.bool true) ∧ Below w.heap.size w w' := by
  have C50 : Hid (∀ (w : World), Calls Try.prog 16 #[.string t, .int .i64 50] w fun e w' => e = .returned (.string (cutB t 50)) ∧ w = w') := Lib.hid (fun w => Cut_any t 50 w ht (by decide))
  have hy := cutB_size t 50
  generalize cutB t 50 = y at *
  have hy50 : y.size ≤ 50 := by omega
  clear hy
  have hlen : imgTable.length = 8 := rfl
  have S1 := Lib.hid (fun (A A2 : Option Addr) (c c2 : Nat) (w : World) (hA : PatsAt w w.heap.size A imgTable) (hA2 : PatsAt w w.heap.size A2 imgTable) => rSame_any imgTable A A2 c c2 w (by decide) hA hA2)
  have M1 := Lib.hid Most_img
  have M2 := Lib.hid (fun (A : Option Addr) (c : Nat) (w : World) (hA : PatsAt w w.heap.size A imgTable) => rMost_any imgTable A c w imgFull (by decide) hA)
  have HT := Lib.hid Table_img
  have HR := Lib.hid rTable_img
  obtain ⟨k, hk, hk8⟩ : ∃ k : Nat, i.toNat % 8 = k ∧ k < 8 := ⟨_, rfl, Nat.mod_lt _ (by decide)⟩
  have hki : k < imgTable.length := by omega
  have hsz := full_sizes (imgFull k hki)
  have hgd := full_good (imgFull k hki)
  have hT := Lib.hid (fun w => Type_img (imgTable[k].b ++ y) w (by rw [ByteArray.size_append]; unfold maxLen; omega))
  have hTT := Lib.hid (table_type imgFull imgClash k hki (imgSelf k hki) y)
  have hb := Below.refl w.heap.size w
  have HK : Hid ((i.toNat : Int) % 8 = (k : Int)) := Lib.hid (by omega)
  have hTy : Hid (∀ w, Calls Try.prog 58 #[.string (imgTable[k].b ++ y)] w fun e w' => e = .returned (.string imgTable[k].t) ∧ Below w.heap.size w w') := Lib.hid (fun w => by
    have := hT.out w
    rwa [hTT.out] at this)
  have hi256 := bytes_small i
  obtain ⟨sz1, sz2, sz3, _⟩ := hsz
  have GG : Hid (∀ w, Calls Try.prog 25 #[patV imgTable[k].b imgTable[k].m imgTable[k].k imgTable[k].t] w fun e w' => e = .returned (.bool true) ∧ Below w.heap.size w w') := Lib.hid (fun w => by
    have := rGood_mask imgTable[k].b imgTable[k].m imgTable[k].k imgTable[k].t w (by unfold maxLen; omega) (by unfold maxLen; omega)
    rwa [hgd] at this)
  clear hT hTT hgd sz2 sz3 hk
  go_enter Try.func13, Try.ntmps13
  go_wp2_with fail
  refine (HT.out _).mono ?_
  rintro e w1 ⟨g, c, rfl, hp, hb1⟩
  replace hb := below_trans hb hb1
  have HP := Lib.hid hp
  clear hp hb1
  go_wp2_with (go_at_call 16; (with_reducible refine (C50.out _).mono ?_); rintro e w' ⟨rfl, rfl⟩)
  refine (HR.out _).mono ?_
  rintro e w2 ⟨g2, c2, rfl, hp, hb1⟩
  replace hb := below_trans hb hb1
  have HP1 := Lib.hid ((HP.out.below hb1).more hb1.size)
  have HP2 := Lib.hid hp
  clear hp hb1
  go_wp2_with fail
  refine (S1.out _ _ _ _ _ HP1.out HP2.out).mono ?_
  rintro e w3 ⟨rfl, hb1⟩
  replace hb := below_trans hb hb1
  clear hb1
  go_wp2_with (go_at_call 57; (with_reducible refine (M1.out _).mono ?_); rintro e w' ⟨rfl, hb2⟩; replace hb := below_trans hb hb2; clear hb2)
  refine (HR.out _).mono ?_
  rintro e w4 ⟨g3, c3, rfl, hp, hb1⟩
  replace hb := below_trans hb hb1
  have HP3 := Lib.hid hp
  clear hp hb1
  go_wp2_with (go_at_call 37; refine (M2.out _ _ _ HP3.out).mono ?_; rintro e w5 ⟨rfl, hb1⟩; replace hb := below_trans hb hb1; clear hb1)
  refine (HR.out _).mono ?_
  rintro e w6 ⟨g4, c4, rfl, hp, hb1⟩
  replace hb := below_trans hb hb1
  have HP4 := Lib.hid hp
  clear hp hb1
  go_wp2_with fail
  refine (HR.out _).mono ?_
  rintro e w7 ⟨g5, c5, rfl, hp, hb1⟩
  replace hb := below_trans hb hb1
  have HP5 := Lib.hid ((HP4.out.below hb1).more hb1.size)
  clear hp hb1
  rcases HP5.out with hnil | ⟨g', hgg, hg, hcs⟩
  · rw [hnil] at hki; simp at hki
  simp at hgg
  subst hgg
  obtain ⟨c0, c1, c2, c3'⟩ := hcs k hki
  clear hcs
  have HB := Lib.hid hb
  have HKI := Lib.hid hki
  have hk2 := HK.out
  clear hb
  generalize imgTable[k] = p at *
  go_upto_region 5 with fail
  generalize hW : w7.alloc (.cells #[.string p.b, .string p.m, .string p.k, .string p.t] 25) = W
  have q0 : W.cell? ⟨w7.heap.size, 0, none⟩ = some (.string p.b) := by rw [← hW]; simp [go_sem]
  have q1 : W.cell? ⟨w7.heap.size, 1, none⟩ = some (.string p.m) := by rw [← hW]; simp [go_sem]
  have q2 : W.cell? ⟨w7.heap.size, 2, none⟩ = some (.string p.k) := by rw [← hW]; simp [go_sem]
  have q3 : W.cell? ⟨w7.heap.size, 3, none⟩ = some (.string p.t) := by rw [← hW]; simp [go_sem]
  have z1 : w7.heap.size < W.heap.size := by rw [← hW]; simp
  have HB2 := Lib.hid (show Below w.heap.size w W from by rw [← hW]; exact HB.out.alloc HB.out.size _)
  have hadd : p.b.size + y.size ≤ 9223372036854775807 := by omega
  clear hW hk2
  have hx := @InB.cells W
  refine wp_region_inb (by kernel_rfl) (by kernel_rfl) ?_; (repeat (first | go_big_quiet_skip | (go_big_quiet_want; go_big_quiet_op; first | go_big_quiet_on | (apply Exists.intro; refine ⟨fun x => ?_, ?_⟩; (· ((first | (go_at_call 25; exact inb_call _ (GG.out _)) | (go_at_call 58; exact inb_call _ (hTy.out _)) | (go_at_call 59; exact inb_call _ (lives13_any _))))); go_big_quiet_on)))); refine wpQuiet_nil ?_; intro _ hw'; obtain ⟨⟨wq, hbq⟩, rfl⟩ := hw'
  go_wp2_with fail
  go_ret
  exact ⟨rfl, HB2.out.trans (hbq.mono HB2.out.size)⟩

end Go.Proofs.Ytcpjokjfjhhndaa
