/-
  Walks of the document's answer on types: how far the first stop is.
-/
import Derived.Test.YtigclegknofhmaaMimeJ
namespace Go.Proofs.Ytigclegknofhmaa
open Go.RowKit
set_option linter.unusedSimpArgs false
set_option linter.unusedVariables false

theorem span_stop (p : UInt8 → Bool) (l : List UInt8) (k : Nat) (hk : k < l.length) (h : (l.take k).all p = true) (hb : p l[k] = false) : spanN p l = k := by
  have he : l = l.take k ++ l.drop k := (List.take_append_drop k l).symm
  have hd : l.drop k = l[k] :: l.drop (k + 1) := List.drop_eq_getElem_cons hk
  have := (takeWhile_stop p (l.take k) (l.drop k) (by rw [List.all_eq_true] at h; exact h) (.inr ⟨l[k], l.drop (k + 1), hd, hb⟩)).1
  rw [← he] at this
  unfold spanN
  rw [this, List.length_take]
  omega

theorem span_whole (p : UInt8 → Bool) (l : List UInt8) (h : (l.take l.length).all p = true) : spanN p l = l.length := by
  rw [List.take_of_length_le (Nat.le_refl _), List.all_eq_true] at h
  have := (takeWhile_stop p l [] h (.inl rfl)).1
  rw [List.append_nil] at this
  unfold spanN
  rw [this]

theorem all_step (p : UInt8 → Bool) (l : List UInt8) (k : Nat) (hk : k < l.length) (h : (l.take k).all p = true) (hb : p l[k] = true) : (l.take (k + 1)).all p = true := by
  rw [List.take_succ_eq_append_getElem hk, List.all_append, h]
  simp [hb]

theorem bt_at (l : List UInt8) (k : Nat) (hk : k < l.length) : (bt l)[k]'(by rw [bt_size]; exact hk) = l[k] := rfl

set_option maxRecDepth 20000 in
theorem upto_any (stops : ByteArray) (p : UInt8 → Bool) (hp : ∀ b, goesOn stops b = p b) (l : List UInt8) (w : World) (hl : l.length ≤ maxLen) (hs : stops.size ≤ maxLen) :
    Calls Try.prog 64 #[.string (bt l), .string stops] w fun e w' => e = .returned (.int .i64 (spanN p l)) ∧ w = w' := by
  unfold maxLen at hl
  have hz : (bt l).size = l.length := rfl
  go_enter Try.func64, Try.ntmps64
  go_wp2
  go_loop [5] (fun i => ∃ k : Nat, k ≤ l.length ∧ i = .int .i64 k ∧ (l.take k).all p = true) (fun i => l.length - (intOf i).toNat)
  case atStart => exact ⟨0, Nat.zero_le _, rfl, rfl⟩
  case round =>
    obtain ⟨k, hk, rfl, hall⟩ := hrel
    have HA := Lib.hid hall
    clear hall
    by_cases hlt : k < l.length
    · have hidx := fun w => index_byte 9 Try.underlying9 (bt l) k (by rw [bt_size]; exact hlt) w
      rw [bt_at l k hlt] at hidx
      have HC := Lib.hid (fun w => Has_any stops l[k] w hs)
      have hpb := hp l[k]
      have hg : hasB stops l[k] = !goesOn stops l[k] := by unfold hasB goesOn; simp
      rw [hpb] at hg
      have HG := Lib.hid hg
      have HS := Lib.hid (fun h => span_stop p l k hlt HA.out h)
      have HT := Lib.hid (fun h => all_step p l k hlt HA.out h)
      have hlt2 : k < (bt l).size := by rw [bt_size]; exact hlt
      clear hpb hg
      generalize l[k] = x at *
      cases hb : p x
      · have HX : Hid (hasB stops x = true) := Lib.hid (by rw [HG.out, hb]; rfl)
        have HB := Lib.hid hb
        clear hb
        go_wp2_with (go_at_call 47; refine (HC.out _).mono ?_; rintro e w' ⟨rfl, rfl⟩; rw [HX.out])
        go_ret
        exact ⟨ret_int (by rw [HS.out HB.out]), rfl⟩
      · have HX : Hid (hasB stops x = false) := Lib.hid (by rw [HG.out, hb]; rfl)
        have HB := Lib.hid hb
        clear hb
        go_wp2_with (go_at_call 47; refine (HC.out _).mono ?_; rintro e w' ⟨rfl, rfl⟩; rw [HX.out])
        go_round
        case rel => exact ⟨k + 1, hlt, by go_num, HT.out HB.out⟩
        case measure => simp [intOf]; omega
    · obtain rfl : k = l.length := by omega
      have HS := Lib.hid (span_whole p l HA.out)
      go_wp2
      go_ret
      exact ⟨ret_int (by rw [HS.out]), rfl⟩

end Go.Proofs.Ytigclegknofhmaa
