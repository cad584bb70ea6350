/-
  Walks of the patterns' reference; what package mask exports of one pattern.
-/
import Derived.Test.YtgdhemhapfpkiaaMaskA
namespace Go.Proofs.Ytgdhemhapfpkiaa
open Go.RowKit
set_option linter.unusedSimpArgs false
set_option linter.unusedVariables false

theorem Match_any (s b m k t : ByteArray) (w : World) (hs : s.size ≤ maxLen) (hb : b.size ≤ maxLen) (hm : m.size ≤ maxLen) :
    Calls Try.prog 70 #[.string s, patV b m k t] w fun e w' => e = .returned (.bool (matchB s b m k)) ∧ Below w.heap.size w w' := by
  go_enter Try.func70, Try.ntmps70
  go_wp2_with (go_at_call 95; refine (match_any _ _ _ _ _ _ hs hb hm).mono ?_; rintro e w1 ⟨rfl, hb1⟩)
  go_ret
  exact ⟨rfl, below_after hb1⟩

theorem hasB_eq (k : ByteArray) (x : UInt8) : hasB k x = k.data.toList.contains x := rfl

set_option maxHeartbeats 400000 in
theorem rBegins_any (s b m k t : ByteArray) (w : World) (hs : s.size ≤ maxLen) (hk : k.size ≤ maxLen) :
    Calls Try.prog 68 #[.string s, patV b m k t] w fun e w' => e = .returned (.int .i64 (aheadN s k)) ∧ Below w.heap.size w w' := by
  have hs2 := hs
  unfold maxLen at hs2
  have hw := Lib.hid (below_box w (.cells #[.string b, .string m, .string k, .string t] 69))
  go_enter Try.func68, Try.ntmps68
  go_wp2_with fail
  go_loopw [5] (fun i wr => ∃ n : Nat, n ≤ s.size ∧ i = .int .i64 n ∧ AllTo (fun x => k.data.toList.contains x) s n ∧ Drew (w.alloc (.cells #[.string b, .string m, .string k, .string t] 69)) wr) (fun i _ => s.size - (intOf i).toNat)
  case atStart => exact ⟨0, Nat.zero_le _, rfl, fun j _ h => by omega, Drew.refl _⟩
  case round =>
    obtain ⟨n, hn, rfl, hp, nd, rfl⟩ := hrel
    have HP := Lib.hid hp; clear hp
    by_cases hlt : n < s.size
    · have hidx := index_byte (P := Try.prog) 9 Try.underlying9 s n hlt
      have HH := fun (w : World) => Has_any k s[n] w hk
      cases hb : k.data.toList.contains s[n]
      · have HS := Lib.hid (show aheadN s k = n from spanN_of (fun x => k.data.toList.contains x) s n hn HP.out fun _ => hb)
        rw [show hasB k s[n] = false from hb] at HH
        have HC := Lib.hid HH
        clear hb HH
        generalize s[n] = x at *
        go_wp2_with fail
        go_quiet ((go_at_call 73; exact quiet_add_left (HC.out _)))
        go_wp2_with fail
        go_ret
        exact ⟨ret_int (by rw [HS.out]), below_drewN (below_drewN hw.out _) _⟩
      · have HS := Lib.hid (allTo_step HP.out hlt hb)
        rw [show hasB k s[n] = true from hb] at HH
        have HC := Lib.hid HH
        clear hb HH
        generalize s[n] = x at *
        go_wp2_with fail
        go_quiet ((go_at_call 73; exact quiet_add_left (HC.out _)))
        go_wp2_with fail
        go_roundw
        case rel => exact ⟨n + 1, by omega, by go_num, HS.out, ⟨_, rfl⟩⟩
        case measure => simp [intOf]; omega
    · obtain rfl : n = s.size := by omega
      have HS := Lib.hid (show aheadN s k = s.size from spanN_of (fun x => k.data.toList.contains x) s s.size (Nat.le_refl _) HP.out fun h => absurd h hlt)
      go_wp2_with fail
      go_ret
      exact ⟨ret_int (by rw [HS.out]), below_drewN hw.out _⟩

theorem quo_bound (x p : Nat) (hx : x ≤ 255) (hp : 1 ≤ p) : 0 ≤ (x : Int) / (p : Int) ∧ (x : Int) / (p : Int) ≤ 255 := by
  have e : (x : Int) / (p : Int) = ((x / p : Nat) : Int) := (Int.natCast_ediv x p).symm
  have h : x / p ≤ x := Nat.div_le_self _ _
  rw [e]
  exact ⟨Int.natCast_nonneg _, Int.ofNat_le.2 (Nat.le_trans h hx)⟩

theorem bit_eq (a p : Nat) (ha : a ≤ 255) (hp : 1 ≤ p) (r : Bool) (h : decide (a / p % 2 = 1) = r) : ((wrap64 ((a : Int) / (p : Int))).tmod 2 == 1) = r := by
  obtain ⟨h1, h2⟩ := quo_bound a p ha hp
  rw [IntWalk.wrap64_in _ ⟨by omega, by omega⟩, Int.tmod_eq_emod_of_nonneg h1]
  rw [← h, Bool.eq_iff_iff, beq_iff_eq, decide_eq_true_eq]
  have e : (a : Int) / (p : Int) % 2 = ((a / p % 2 : Nat) : Int) := by rw [Int.natCast_emod, Int.natCast_ediv]; rfl
  rw [e]; exact ⟨fun h => by omega, fun h => by omega⟩

theorem andTo_both {a b k p : Nat} (hp : p = 2 ^ k) (h1 : decide (a / p % 2 = 1) = true) (h2 : decide (b / p % 2 = 1) = true) : andTo a b (k + 1) = andTo a b k + p := by
  subst hp
  rw [decide_eq_true_eq] at h1 h2
  rw [andTo_step, h1, h2]; omega

theorem andTo_left {a b k p : Nat} (hp : p = 2 ^ k) (h1 : decide (a / p % 2 = 1) = false) : andTo a b (k + 1) = andTo a b k := by
  subst hp
  rw [decide_eq_false_iff_not] at h1
  rw [andTo_step, show a / 2 ^ k % 2 = 0 by omega]; simp

theorem andTo_right {a b k p : Nat} (hp : p = 2 ^ k) (h2 : decide (b / p % 2 = 1) = false) : andTo a b (k + 1) = andTo a b k := by
  subst hp
  rw [decide_eq_false_iff_not] at h2
  rw [andTo_step, show b / 2 ^ k % 2 = 0 by omega]; simp

/-- What the loop over the bits knows. -/
def AndRel (a b k p o : Nat) : Prop := p = 2 ^ k ∧ o = andTo a b k

theorem neq_and (x y z : UInt8) : ((((x &&& y).toNat : Int)) != (z.toNat : Int)) = !decide ((x &&& y) = z) := by
  rw [Bool.eq_iff_iff]
  simp only [bne_iff_ne, ne_eq, Bool.not_eq_true', decide_eq_false_iff_not]
  rw [← UInt8.toNat_inj]
  omega

end Go.Proofs.Ytgdhemhapfpkiaa
