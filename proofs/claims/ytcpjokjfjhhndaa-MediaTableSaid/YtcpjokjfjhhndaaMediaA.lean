/-
  Walks of package media: its patterns.
-/
import Derived.Test.YtcpjokjfjhhndaaPackB
import Derived.Test.YtcpjokjfjhhndaaTabC
namespace Go.Proofs.Ytcpjokjfjhhndaa
open Go.RowKit
set_option linter.unusedSimpArgs false
set_option linter.unusedVariables false

/-- The first k bytes of a mask laid. -/
def maskTo (n f u k : Nat) : List UInt8 := (List.range n).map fun i => if i < k then (if f ≤ i ∧ i < u then 0 else 255) else 0

theorem maskTo_length (n f u k : Nat) : (maskTo n f u k).length = n := by simp [maskTo]

theorem maskTo_zero (n f u : Nat) : maskTo n f u 0 = List.replicate n 0 := by
  apply List.ext_getElem
  · simp [maskTo]
  · intro i h1 h2; simp [maskTo]

theorem maskTo_all (n f u : Nat) : maskTo n f u n = holedL n f u := by
  unfold maskTo holedL
  apply List.map_congr_left
  intro i hi
  rw [List.mem_range] at hi
  rw [if_pos hi]

theorem maskTo_hole (n f u k : Nat) (h : f ≤ k ∧ k < u) : maskTo n f u (k + 1) = maskTo n f u k := by
  unfold maskTo
  apply List.map_congr_left
  intro i hi
  by_cases h1 : i < k
  · rw [if_pos h1, if_pos (by omega)]
  · rw [if_neg h1]
    by_cases h2 : i < k + 1
    · rw [if_pos h2, if_pos (by omega)]
    · rw [if_neg h2]

theorem maskTo_set (n f u k : Nat) (hk : k < n) (h : ¬ (f ≤ k ∧ k < u)) : maskTo n f u (k + 1) = (maskTo n f u k).set k 255 := by
  apply List.ext_getElem
  · simp [maskTo]
  · intro i h1 h2
    simp only [maskTo, List.getElem_map, List.getElem_range, List.getElem_set]
    by_cases he : k = i
    · subst he
      rw [if_pos (by omega), if_neg h, if_pos rfl]
    · rw [if_neg he]
      by_cases h3 : i < k
      · rw [if_pos h3, if_pos (by omega)]
      · rw [if_neg h3, if_neg (by omega)]

set_option maxHeartbeats 1000000 in
set_option maxRecDepth 20000 in
theorem masked_any (n : Nat) (gap : Bool) (f u : Nat) (w : World) (hn : n ≤ 100) (hfu : (gap = true ∧ f = 4 ∧ u = 8) ∨ (gap = false ∧ f = 0 ∧ u = 0)) :
    Calls Try.prog 98 #[.int .i64 n, .bool gap] w fun e w' => e = .returned (.string ⟨(holedL n f u).toArray⟩) ∧ Below w.heap.size w w' := by
  obtain ⟨Z, hZ, hZl, hmk⟩ := makeBytes n (by omega)
  have hB0 : BytesAt (w.alloc (.cells Z 5)) w.heap.size (maskTo n f u 0) := by
    rw [maskTo_zero]
    have := own_new w Z n w.heap.size w.heap.size 5 hZ (by omega) rfl (Nat.le_refl _)
    rw [hZl] at this
    intro j hj
    have hj2 : j < n := by simpa using hj
    refine ⟨?_, this.frozenAt j⟩
    rw [this.cellAt j (by omega)]
    simp [rowV, hj2]
  have HB0 := Lib.hid hB0
  clear hZl hB0
  go_enter Try.func98, Try.ntmps98
  go_wp2_with fail
  generalize hW : w.alloc (.cells Z 5) = W at *
  have hBW : Below w.heap.size w W := by rw [← hW]; exact below_box w _
  have HBW := Lib.hid hBW
  clear hW hBW hmk
  go_loopw [11] (fun i wr => ∃ k : Nat, k ≤ n ∧ i = .int .i64 k ∧ BytesAt wr w.heap.size (maskTo n f u k) ∧ Below w.heap.size w wr) (fun i _ => n - (intOf i).toNat)
  case atStart => exact ⟨0, Nat.zero_le _, rfl, HB0.out, HBW.out⟩
  case round =>
    clear HB0 HBW
    obtain ⟨k, hk, rfl, hby, hb⟩ := hrel
    have HY := Lib.hid hby
    have HB := Lib.hid hb
    clear hby hb
    by_cases hlt : k < n
    · obtain ⟨c0, f0⟩ := HY.out k (by rw [maskTo_length]; exact hlt)
      generalize (maskTo n f u k)[k]'(by rw [maskTo_length]; exact hlt) = x at *
      have hset := HY.out.set k (by rw [maskTo_length]; exact hlt) 255
      have HSET := Lib.hid hset
      clear hset
      rcases hfu with ⟨rfl, rfl, rfl⟩ | ⟨rfl, rfl, rfl⟩
      · by_cases hh : 4 ≤ k ∧ k < 8
        · have HM := Lib.hid (maskTo_hole n 4 8 k hh)
          obtain ⟨h1, h2⟩ := hh
          go_wp2_with fail
          go_roundw
          case rel => exact ⟨k + 1, by omega, by go_num, by rw [HM.out]; exact HY.out, HB.out⟩
          case measure => simp [intOf]; omega
        · have HM := Lib.hid (maskTo_set n 4 8 k hlt hh)
          rcases Nat.lt_or_ge k 4 with h1 | h1
          · go_wp2_with fail
            go_roundw
            case rel => exact ⟨k + 1, by omega, by go_num, by rw [HM.out]; exact HSET.out, HB.out.setCell (Nat.le_refl _) _⟩
            case measure => simp [intOf]; omega
          · have h2 : 8 ≤ k := by omega
            clear hh
            go_wp2_with fail
            go_roundw
            case rel => exact ⟨k + 1, by omega, by go_num, by rw [HM.out]; exact HSET.out, HB.out.setCell (Nat.le_refl _) _⟩
            case measure => simp [intOf]; omega
      · have HM := Lib.hid (maskTo_set n 0 0 k hlt (by omega))
        go_wp2_with fail
        go_roundw
        case rel => exact ⟨k + 1, by omega, by go_num, by rw [HM.out]; exact HSET.out, HB.out.setCell (Nat.le_refl _) _⟩
        case measure => simp [intOf]; omega
    · obtain rfl : k = n := by omega
      have hy := HY.out
      rw [maskTo_all] at hy
      have hk2 := hy.back (P := Try.prog) (n := k) k (by simp [holedL]) 68 9 5 Try.underlying68 Try.underlying5 Try.underlying9
      clear hy
      go_wp2_with fail
      go_ret
      exact ⟨rfl, HB.out⟩

theorem plain_any (b t : ByteArray) (w : World) (hb : b.size ≤ 100) :
    Calls Try.prog 91 #[.string b, .string t] w fun e w' => e = .returned (patV (exactP b t 0 0).b (exactP b t 0 0).m (exactP b t 0 0).k (exactP b t 0 0).t) ∧ Below w.heap.size w w' := by
  have CR := Lib.hid (fun w => masked_any b.size false 0 0 w hb (.inr ⟨rfl, rfl, rfl⟩))
  go_enter Try.func91, Try.ntmps91
  go_upto_region 1 with fail
  generalize hW : w.alloc (.cells #[.string ⟨#[]⟩, .string ⟨#[]⟩, .string ⟨#[]⟩, .string ⟨#[]⟩] 25) = W
  have hsz : w.heap.size < W.heap.size := by rw [← hW]; simp
  have hrow : W.heap[w.heap.size]? = some (.cells #[.string ⟨#[]⟩, .string ⟨#[]⟩, .string ⟨#[]⟩, .string ⟨#[]⟩] 25 (0, 0)) := by rw [← hW]; exact heap_alloc_new w _
  have hB0 : Below w.heap.size w W := by rw [← hW]; exact below_box w _
  have HR := Lib.hid hrow
  have HB := Lib.hid hB0
  clear hW hrow hB0
  go_wp2_with fail
  refine (CR.out _).mono ?_
  rintro e w1 ⟨rfl, hb1⟩
  have HROW := (hb1.block _ hsz).trans HR.out
  have hw := HB.out.trans (hb1.mono HB.out.size)
  have q0 := cell_of_row w1 w.heap.size 0 _ _ (0, 0) HROW
  have q1 := cell_of_row w1 w.heap.size 1 _ _ (0, 0) HROW
  have q2 := cell_of_row w1 w.heap.size 2 _ _ (0, 0) HROW
  have q3 := cell_of_row w1 w.heap.size 3 _ _ (0, 0) HROW
  have hfz : ∀ o, w1.frozen? ⟨w.heap.size, o, none⟩ = false := fun o => by simp [World.frozen?, HROW]
  simp at q0 q1 q2 q3
  have HW := Lib.hid hw
  clear HROW hb1 hw
  go_wp2_with fail
  refine bodyPost_ret (v := patV (exactP b t 0 0).b (exactP b t 0 0).m (exactP b t 0 0).k (exactP b t 0 0).t) ?_ rfl ⟨rfl, (((HW.out.setCell (Nat.le_refl _) _).setCell (Nat.le_refl _) _).setCell (Nat.le_refl _) _).setCell (Nat.le_refl _) _⟩
  simp [results, Try.results91, go_sem, q0, q1, q2, q3, exactP]

theorem boxed_any (h nm t : ByteArray) (w : World) (hh : h.size = 4) (hn : nm.size ≤ 50) :
    Calls Try.prog 90 #[.string h, .string nm, .string t] w fun e w' => e = .returned (patV (exactP ((h ++ ⟨#[0, 0, 0, 0]⟩) ++ nm) t 4 8).b (exactP ((h ++ ⟨#[0, 0, 0, 0]⟩) ++ nm) t 4 8).m (exactP ((h ++ ⟨#[0, 0, 0, 0]⟩) ++ nm) t 4 8).k (exactP ((h ++ ⟨#[0, 0, 0, 0]⟩) ++ nm) t 4 8).t) ∧ Below w.heap.size w w' := by
  have hz : ((h ++ ⟨#[0, 0, 0, 0]⟩) ++ nm).size = 8 + nm.size := by rw [ByteArray.size_append, ByteArray.size_append, hh]; rfl
  have hz2 : ((h ++ ⟨#[0, 0, 0, 0]⟩) ++ nm).size ≤ 100 := by omega
  have CR := Lib.hid (fun w => masked_any ((h ++ ⟨#[0, 0, 0, 0]⟩) ++ nm).size true 4 8 w (by omega) (.inl ⟨rfl, rfl, rfl⟩))
  have hz4 : (h ++ (⟨#[0, 0, 0, 0]⟩ : ByteArray)).size = 8 := by rw [ByteArray.size_append, hh]; rfl
  clear hz
  generalize hE : ((h ++ ⟨#[0, 0, 0, 0]⟩) ++ nm) = b at *
  have HE := Lib.hid hE
  clear hE
  go_enter Try.func90, Try.ntmps90
  go_upto_region 2 with fail
  rw [HE.out]
  generalize hW : w.alloc (.cells #[.string ⟨#[]⟩, .string ⟨#[]⟩, .string ⟨#[]⟩, .string ⟨#[]⟩] 25) = W
  have hsz : w.heap.size < W.heap.size := by rw [← hW]; simp
  have hrow : W.heap[w.heap.size]? = some (.cells #[.string ⟨#[]⟩, .string ⟨#[]⟩, .string ⟨#[]⟩, .string ⟨#[]⟩] 25 (0, 0)) := by rw [← hW]; exact heap_alloc_new w _
  have hB0 : Below w.heap.size w W := by rw [← hW]; exact below_box w _
  have HR := Lib.hid hrow
  have HB := Lib.hid hB0
  clear hW hrow hB0
  go_wp2_with fail
  refine (CR.out _).mono ?_
  rintro e w1 ⟨rfl, hb1⟩
  have HROW := (hb1.block _ hsz).trans HR.out
  have hw := HB.out.trans (hb1.mono HB.out.size)
  have q0 := cell_of_row w1 w.heap.size 0 _ _ (0, 0) HROW
  have q1 := cell_of_row w1 w.heap.size 1 _ _ (0, 0) HROW
  have q2 := cell_of_row w1 w.heap.size 2 _ _ (0, 0) HROW
  have q3 := cell_of_row w1 w.heap.size 3 _ _ (0, 0) HROW
  have hfz : ∀ o, w1.frozen? ⟨w.heap.size, o, none⟩ = false := fun o => by simp [World.frozen?, HROW]
  simp at q0 q1 q2 q3
  have HW := Lib.hid hw
  clear HROW hb1 hw
  go_wp2_with fail
  refine bodyPost_ret (v := patV (exactP b t 4 8).b (exactP b t 4 8).m (exactP b t 4 8).k (exactP b t 4 8).t) ?_ rfl ⟨rfl, (((HW.out.setCell (Nat.le_refl _) _).setCell (Nat.le_refl _) _).setCell (Nat.le_refl _) _).setCell (Nat.le_refl _) _⟩
  simp [results, Try.results90, go_sem, q0, q1, q2, q3, exactP]

end Go.Proofs.Ytcpjokjfjhhndaa
