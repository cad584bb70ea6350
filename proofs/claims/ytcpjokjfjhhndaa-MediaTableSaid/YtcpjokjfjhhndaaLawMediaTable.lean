/-
  The law MediaTable: its walk.
-/
import Derived.Test.YtcpjokjfjhhndaaMediaG
import Derived.Deep.RegionWith
namespace Go.Proofs.Ytcpjokjfjhhndaa
open Go.RowKit
set_option linter.unusedSimpArgs false
set_option linter.unusedVariables false

theorem bytes_small2 (b : UInt8) : (0 : Int) ≤ b.toNat ∧ (b.toNat : Int) ≤ 255 := by have := b.toNat_lt; omega

set_option maxHeartbeats 4000000 in
set_option maxRecDepth 20000 in
theorem mediaTable_walk (i : UInt8) (t : ByteArray) (w : World) (ht : t.size ≤ maxLen) :
    Calls Try.prog 6 #[.int .u8 (i.toNat : Int), .string t] w fun e w' => e = .returned (.bool true) ∧ Below w.heap.size w w' := by
  have C50 : Hid (∀ (w : World), Calls Try.prog 16 #[.string t, .int .i64 50] w fun e w' => e = .returned (.string (cutB t 50)) ∧ w = w') := Lib.hid (fun w => Cut_any t 50 w ht (by decide))
  have hy := cutB_size t 50
  generalize cutB t 50 = y at *
  have hy50 : y.size ≤ 50 := by omega
  clear hy
  have hlen : medTable.length = 6 := rfl
  have S1 := Lib.hid (fun (A A2 : Option Addr) (c c2 : Nat) (w : World) (hA : PatsAt w w.heap.size A medTable) (hA2 : PatsAt w w.heap.size A2 medTable) => rSame_any medTable A A2 c c2 w (by decide) hA hA2)
  have M1 := Lib.hid Most_med
  have M2 := Lib.hid (fun (A : Option Addr) (c : Nat) (w : World) (hA : PatsAt w w.heap.size A medTable) => rMost_any medTable A c w medFull (by decide) hA)
  have HT := Lib.hid Table_med
  have HR := Lib.hid rTable_med
  obtain ⟨k, hk, hk8⟩ : ∃ k : Nat, i.toNat % 6 = k ∧ k < 6 := ⟨_, rfl, Nat.mod_lt _ (by decide)⟩
  have hki : k < medTable.length := by omega
  have hsz := full_sizes (medFull k hki)
  have hT := Lib.hid (fun w => Type_med (medTable[k].b ++ y) w (by rw [ByteArray.size_append]; unfold maxLen; omega))
  have hTT := Lib.hid (table_type medFull medClash k hki (medSelf k hki) y)
  have hb := Below.refl w.heap.size w
  have HK : Hid ((i.toNat : Int) % 6 = (k : Int)) := Lib.hid (by omega)
  have hTy : Hid (∀ w, Calls Try.prog 38 #[.string (medTable[k].b ++ y)] w fun e w' => e = .returned (.string medTable[k].t) ∧ Below w.heap.size w w') := Lib.hid (fun w => by
    have := hT.out w
    rwa [hTT.out] at this)
  have hi256 := bytes_small2 i
  obtain ⟨sz1, sz2, sz3, _⟩ := hsz
  clear hT hTT sz2 sz3 hk
  go_enter Try.func6, Try.ntmps6
  go_wp2_with fail
  refine (HR.out _).mono ?_
  rintro e w1 ⟨g, c, rfl, hp, hb1⟩
  replace hb := below_trans hb hb1
  have HP := Lib.hid hp
  clear hp hb1
  go_wp2_with fail
  refine (HR.out _).mono ?_
  rintro e w2 ⟨g2, c2, rfl, hp, hb1⟩
  replace hb := below_trans hb hb1
  have HP1 := Lib.hid ((HP.out.below hb1).more hb1.size)
  clear hp hb1
  rcases HP1.out with hnil | ⟨g', hgg, hg, hcs⟩
  · rw [hnil] at hki; simp at hki
  simp at hgg
  subst hgg
  obtain ⟨c0, c1, c2, c3'⟩ := hcs k hki
  clear hcs
  have HB := Lib.hid hb
  have HKI := Lib.hid hki
  have hk2 := HK.out
  clear hb HP HP1
  generalize medTable[k] = p at *
  go_upto_region 2 with fail
  generalize hW : w2.alloc (.cells #[.string p.b, .string p.m, .string p.k, .string p.t] 25) = W
  have q0 : W.cell? ⟨w2.heap.size, 0, none⟩ = some (.string p.b) := by rw [← hW]; simp [go_sem]
  have q3 : W.cell? ⟨w2.heap.size, 3, none⟩ = some (.string p.t) := by rw [← hW]; simp [go_sem]
  have z1 : w2.heap.size < W.heap.size := by rw [← hW]; simp
  have HB2 := Lib.hid (show Below w.heap.size w W from by rw [← hW]; exact HB.out.alloc HB.out.size _)
  have hadd : p.b.size + y.size ≤ 9223372036854775807 := by omega
  clear hW hk2 c0 c1 c2 c3'
  clear hlen
  have hb : Below W.heap.size W W.drew := (Below.refl _ _).drew
  go_region_with (first | (go_at_call 35; refine (HT.out _).mono ?_; rintro e v1 ⟨ga, ca, rfl, hpa, hba⟩; have HPA := Lib.hid hpa; replace hb := below_trans hb hba; clear hpa hba) | (go_at_call 33; refine (HR.out _).mono ?_; rintro e v2 ⟨gb, cb, rfl, hpb, hbb⟩; have HPA2 := Lib.hid ((HPA.out.below hbb).more hbb.size); clear HPA; have HPB := Lib.hid hpb; replace hb := below_trans hb hbb; clear hpb hbb) | (go_at_call 33; refine (HR.out _).mono ?_; rintro e v3 ⟨gc, cc, rfl, hpc, hbc⟩; have HPC := Lib.hid hpc; replace hb := below_trans hb hbc; clear hpc hbc) | (go_at_call 34; (with_reducible refine (S1.out _ _ _ _ _ HPA2.out HPB.out).mono ?_); rintro e w' ⟨rfl, hb2⟩; replace hb := below_trans hb hb2; clear hb2; have r0 := (cell_below hb z1).trans q0; have r3 := (cell_below hb z1).trans q3) | (go_at_call 36; (with_reducible refine (M1.out _).mono ?_); rintro e w' ⟨rfl, hb2⟩; replace hb := below_trans hb hb2; clear hb2; have r0 := (cell_below hb z1).trans q0; have r3 := (cell_below hb z1).trans q3) | (go_at_call 37; (with_reducible refine (M2.out _ _ _ HPC.out).mono ?_); rintro e w' ⟨rfl, hb2⟩; replace hb := below_trans hb hb2; clear hb2; have r0 := (cell_below hb z1).trans q0; have r3 := (cell_below hb z1).trans q3) | (go_at_call 16; (with_reducible refine (C50.out _).mono ?_); rintro e w' ⟨rfl, rfl⟩) | (go_at_call 38; (with_reducible refine (hTy.out _).mono ?_); rintro e w' ⟨rfl, hb2⟩; replace hb := below_trans hb hb2; clear hb2; have r0 := (cell_below hb z1).trans q0; have r3 := (cell_below hb z1).trans q3) | (go_at_call 32; (with_reducible refine (lives14_any _).mono ?_); rintro e w' ⟨rfl, hb2⟩; replace hb := below_trans hb hb2; clear hb2; have r0 := (cell_below hb z1).trans q0; have r3 := (cell_below hb z1).trans q3))
  all_goals
    go_wp2_with fail
    go_ret
    exact ⟨rfl, HB2.out.trans (hb.mono HB2.out.size)⟩

end Go.Proofs.Ytcpjokjfjhhndaa
