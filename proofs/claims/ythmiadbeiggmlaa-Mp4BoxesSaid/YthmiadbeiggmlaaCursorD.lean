/-
  Walks of package cursor: numbers of four bytes; going back, going by a text.
-/
import Derived.Test.YthmiadbeiggmlaaCursorB
import Derived.Test.YthmiadbeiggmlaaBytesMem
import Derived.Test.YthmiadbeiggmlaaBigPlain
namespace Go.Proofs.Ythmiadbeiggmlaa
open Go.RowKit
set_option linter.unusedSimpArgs false
set_option linter.unusedVariables false

set_option maxRecDepth 20000 in
theorem U32_gives (g : Nat) (s : ByteArray) (k : Nat) (w : World) (h : Cur w g s k) (hk : k + 4 ≤ s.size) (hs : s.size ≤ maxLen) :
    Calls Try.prog 81 #[.pointer (some ⟨g, 0, none⟩)] w fun e w' => e = .returned (.int .u32 (bigN (s.extract k (k + 4)).data.toList)) ∧ Moved g s (k + 4) w w' := by
  have HC := Lib.hid (take_gives g s k 4 w h hk hs)
  have hz : (s.extract k (k + 4)).size = 4 := by rw [extract_size]; omega
  generalize s.extract k (k + 4) = t at *
  have ht : t.size ≤ 100 := by omega
  go_enter Try.func81, Try.ntmps81
  go_wp2_with fail
  refine HC.out.mono ?_
  rintro e w1 ⟨rfl, hm⟩
  have hconv := run_bytes_of_string (P := Try.prog) w1 9 89 5 t Try.underlying9 Try.underlying89 Try.underlying5
  have h0 := BytesAt.ofString w1 t (grownCap w1 t.size 0 5) 5
  have hlen : t.data.toList.length = 4 := by rw [← Lib.size_eq]; exact hz
  have H0 := Lib.hid h0
  have HM := Lib.hid (hm.alloc (.cells (bytesRow t (grownCap w1 t.size 0 5)) 5 ((bytesRow t (grownCap w1 t.size 0 5)).size, (bytesRow t (grownCap w1 t.size 0 5)).size + 1)))
  have HL := Lib.hid hlen
  have HZ := Lib.hid hz
  clear hm h0 hlen hz
  go_wp2_with fail
  clear hconv
  generalize hW : (w1.alloc (.cells (bytesRow t (grownCap w1 t.size 0 5)) 5 ((bytesRow t (grownCap w1 t.size 0 5)).size, (bytesRow t (grownCap w1 t.size 0 5)).size + 1))).drew = W
  have HB : Hid (BytesAt W w1.heap.size t.data.toList) := Lib.hid (by rw [← hW]; exact H0.out)
  have HMW : Hid (Moved g s (k + 4) w W) := Lib.hid (by rw [← hW]; exact ⟨HM.out.1, HM.out.2.drew⟩)
  clear hW H0 HM HC
  have ht4 : t.size ≤ 4 := by have := HZ.out; omega
  generalize grownCap w1 t.size 0 5 = cap
  go_loop [3, 10] (fun n i => ∃ j : Nat, j ≤ t.size ∧ i = .int .i64 j ∧ n = .int .u32 (bigN (t.data.toList.take j))) (fun _ i => t.size - (intOf i).toNat)
  case atStart => exact ⟨0, Nat.zero_le _, rfl, rfl⟩
  case round =>
    obtain ⟨j, hj, rfl, rfl⟩ := hrel
    by_cases hlt : j < t.size
    · have hjl : j < t.data.toList.length := by rw [← Lib.size_eq]; exact hlt
      obtain ⟨c0, _⟩ := HB.out j hjl
      have hst : bigN (t.data.toList.take (j + 1)) = bigN (t.data.toList.take j) * 256 + (t.data.toList[j]).toNat := by
        rw [List.take_succ_eq_append_getElem hjl, bigN_snoc]
      have hb := bigN_lt (t.data.toList.take j)
      have hb2 : bigN (t.data.toList.take j) < 16777216 := Nat.lt_of_lt_of_le hb (by
        have : (t.data.toList.take j).length ≤ 3 := by rw [List.length_take]; omega
        exact Nat.le_trans (Nat.pow_le_pow_right (by decide) this) (by decide))
      clear hb
      have HS := Lib.hid hst
      clear hst
      generalize t.data.toList[j] = b at *
      generalize bigN (t.data.toList.take j) = n at *
      have hbt := b.toNat_lt
      have hor := or_byte_u32 n b.toNat hb2 hbt
      go_wp2
      go_round
      case rel => exact ⟨j + 1, by omega, by go_num, by rw [HS.out]; go_num⟩
      case measure => simp [intOf]; omega
    · obtain rfl : j = t.size := by omega
      have ha : t.data.toList.take t.size = t.data.toList := List.take_of_length_le (by rw [← Lib.size_eq]; exact Nat.le_refl _)
      rw [ha]
      go_wp2
      go_ret
      exact ⟨rfl, HMW.out⟩

theorem U32_throws (g : Nat) (s : ByteArray) (k : Nat) (w : World) (h : Cur w g s k) (hk : k ≤ s.size) (hn : s.size < k + 4) (hs : s.size ≤ maxLen) :
    Calls Try.prog 81 #[.pointer (some ⟨g, 0, none⟩)] w fun e w' => e = .panicked [{ v := faultV k 8, recovered := false }] ∧ Drew w w' := by
  have HC := Lib.hid (take_throws g s k 4 w h hk (.inr (by omega)) hs)
  go_enter Try.func81, Try.ntmps81
  go_wp2_with (go_at_call 85; refine HC.out.mono ?_; rintro e w' ⟨rfl, hd⟩)
  exact ⟨rfl, rfl, hd⟩

end Go.Proofs.Ythmiadbeiggmlaa
