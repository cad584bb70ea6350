/-
  Walks of package media: what judges; the reference's number of a head; what lives.
-/
import Derived.Test.YtcpjokjfjhhndaaMediaC
import Derived.Test.YtcpjokjfjhhndaaMediaD
import Derived.Test.YtcpjokjfjhhndaaMediaPlain
namespace Go.Proofs.Ytcpjokjfjhhndaa
open Go.RowKit
set_option linter.unusedSimpArgs false
set_option linter.unusedVariables false

/-- What the reference says of a head's number. -/
def sizeI (s : ByteArray) : Int := match chunkN s with | some n => (n : Int) | none => -1

set_option maxHeartbeats 1000000 in
set_option maxRecDepth 20000 in
theorem rSize14_any (s : ByteArray) (w : World) (hs : s.size ≤ maxLen) :
    Calls Try.prog 31 #[.string s] w fun e w' => e = .returned (.int .i64 (sizeI s)) ∧ Drew w w' := by
  have hs2 : s.size ≤ 9223372036854775807 := by unfold maxLen at hs; omega
  by_cases h8 : s.size < 8
  · have hv : sizeI s = -1 := by unfold sizeI chunkN; rw [if_pos h8]
    have HV := Lib.hid hv
    clear hv
    go_enter Try.func31, Try.ntmps31
    go_wp2
    go_ret
    exact ⟨ret_int HV.out.symm, Drew.refl w⟩
  · have h4 : ∀ w, (Instr.index 9 (.string s) (.int .i64 4)).run Try.prog w = .ok (.int .u8 (s[4].toNat : Int)) w := fun w => index_byte 9 Try.underlying9 s 4 (by omega) w
    have h5 : ∀ w, (Instr.index 9 (.string s) (.int .i64 5)).run Try.prog w = .ok (.int .u8 (s[5].toNat : Int)) w := fun w => index_byte 9 Try.underlying9 s 5 (by omega) w
    have h6 : ∀ w, (Instr.index 9 (.string s) (.int .i64 6)).run Try.prog w = .ok (.int .u8 (s[6].toNat : Int)) w := fun w => index_byte 9 Try.underlying9 s 6 (by omega) w
    have h7 : ∀ w, (Instr.index 9 (.string s) (.int .i64 7)).run Try.prog w = .ok (.int .u8 (s[7].toNat : Int)) w := fun w => index_byte 9 Try.underlying9 s 7 (by omega) w
    obtain ⟨n1, n2⟩ := num_four s (by omega)
    have hv : sizeI s = if riffB s then ((bigN (numL (s.extract 4 s.size) true) : Nat) : Int) else if formB s then ((bigN (numL (s.extract 4 s.size) false) : Nat) : Int) else -1 := by
      unfold sizeI chunkN
      rw [if_neg h8]
      cases riffB s <;> cases formB s <;> rfl
    rw [n1, n2] at hv
    clear n1 n2
    have b0 := s[4].toNat_lt
    have b1 := s[5].toNat_lt
    have b2 := s[6].toNat_lt
    have b3 := s[7].toNat_lt
    have HV := Lib.hid hv
    clear hv
    generalize s[4].toNat = a at *
    generalize s[5].toNat = b at *
    generalize s[6].toNat = c at *
    generalize s[7].toNat = d at *
    cases hr : riffB s
    · cases hf : formB s
      · rw [hr, hf] at HV
        unfold riffB at hr
        unfold formB at hf
        go_enter Try.func31, Try.ntmps31
        go_wp2
        go_quiet (fail)
        go_wp2
        go_ret
        exact ⟨ret_int (by rw [HV.out]; rfl), ⟨_, rfl⟩⟩
      · rw [hr, hf] at HV
        unfold riffB at hr
        unfold formB at hf
        go_enter Try.func31, Try.ntmps31
        go_wp2
        go_quiet (fail)
        go_wp2
        go_ret
        exact ⟨ret_int (by rw [HV.out]; simp; omega), ⟨_, rfl⟩⟩
    · rw [hr] at HV
      unfold riffB at hr
      go_enter Try.func31, Try.ntmps31
      go_wp2
      go_quiet (fail)
      go_wp2
      go_ret
      exact ⟨ret_int (by rw [HV.out]; simp; omega), ⟨_, rfl⟩⟩

theorem Type_med (s : ByteArray) (w : World) (hs : s.size ≤ maxLen) :
    Calls Try.prog 38 #[.string s] w fun e w' => e = .returned (.string (typeP s medTable)) ∧ Below w.heap.size w w' := by
  go_enter Try.func38, Try.ntmps38
  go_wp2_with (go_at_call 74; refine (kind_med _ _ hs).mono ?_; rintro e w' ⟨rfl, hb⟩)
  go_ret
  exact ⟨rfl, hb⟩

theorem Is_med (s : ByteArray) (w : World) (hs : s.size ≤ maxLen) :
    Calls Try.prog 39 #[.string s] w fun e w' => e = .returned (.bool (!(typeP s medTable).toList.isEmpty)) ∧ Below w.heap.size w w' := by
  have C := Lib.hid (fun w => kind_med s w hs)
  generalize typeP s medTable = t at *
  go_enter Try.func39, Try.ntmps39
  go_wp2_with (go_at_call 74; refine (C.out _).mono ?_; rintro e w' ⟨rfl, hb⟩)
  go_ret
  exact ⟨rfl, hb⟩

set_option maxHeartbeats 1000000 in
set_option maxRecDepth 20000 in
theorem lives14_any (w : World) : Calls Try.prog 32 #[] w fun e w' => e = .returned (.bool true) ∧ Below w.heap.size w w' := by
  have C1 : Hid (∀ w : World, Calls Try.prog 38 #[.string ⟨#[73, 68, 51, 46, 46]⟩] w fun e w' => e = .returned (.string ⟨#[97, 117, 100, 105, 111, 47, 109, 112, 101, 103]⟩) ∧ Below w.heap.size w w') :=
    Lib.hid (fun w => by
      have e : typeP ⟨#[73, 68, 51, 46, 46]⟩ medTable = ⟨#[97, 117, 100, 105, 111, 47, 109, 112, 101, 103]⟩ := by decide +kernel
      rw [← e]; exact Type_med _ w (by unfold maxLen; decide))
  have C2 : Hid (∀ w : World, Calls Try.prog 39 #[.string ⟨#[73, 68]⟩] w fun e w' => e = .returned (.bool false) ∧ Below w.heap.size w w') :=
    Lib.hid (fun w => by
      have e : (!(typeP ⟨#[73, 68]⟩ medTable).toList.isEmpty) = false := by decide +kernel
      rw [← e]; exact Is_med _ w (by unfold maxLen; decide))
  have C3 : Hid (∀ w : World, Calls Try.prog 30 #[.string ⟨#[82, 73, 70, 70, 1, 0, 0, 0]⟩] w fun e w' => e = .returned (.tuple #[.string ⟨#[82, 73, 70, 70]⟩, .int .u32 1, .bool true]) ∧ Drew w w') :=
    Lib.hid (fun w => Chunk_yes ⟨#[82, 73, 70, 70, 1, 0, 0, 0]⟩ 1 w (by decide +kernel) (by unfold maxLen; decide))
  have hb := Below.refl w.heap.size w
  go_enter Try.func32, Try.ntmps32
  go_wp2_with (first | (go_at_call 30; (with_reducible refine (C3.out _).mono ?_); rintro e w' ⟨rfl, hb2⟩; replace hb := below_trans hb (hb2.below _); clear hb2) | (go_at_call 38; (with_reducible refine (C1.out _).mono ?_); rintro e w' ⟨rfl, hb2⟩; replace hb := below_trans hb hb2; clear hb2) | (go_at_call 39; (with_reducible refine (C2.out _).mono ?_); rintro e w' ⟨rfl, hb2⟩; replace hb := below_trans hb hb2; clear hb2))
  go_ret
  exact ⟨rfl, hb⟩

set_option maxHeartbeats 1000000 in
set_option maxRecDepth 20000 in
theorem mediaChunks_walk (s : ByteArray) (w : World) (hs : s.size ≤ maxLen) :
    Calls Try.prog 5 #[.string s] w fun e w' => e = .returned (.bool true) ∧ Below w.heap.size w w' := by
  have C1 : Hid (∀ (w : World), Calls Try.prog 16 #[.string s, .int .i64 100] w fun e w' => e = .returned (.string (cutB s 100)) ∧ w = w') := Lib.hid (fun w => Cut_any s 100 w hs (by decide))
  have hx := cutB_size s 100
  generalize cutB s 100 = x at *
  have hxm : x.size ≤ maxLen := by unfold maxLen; omega
  have Z1 := Lib.hid (fun w => rSize14_any x w hxm)
  have hb := Below.refl w.heap.size w
  cases hc : chunkN x with
  | none =>
    have hv : sizeI x = -1 := by unfold sizeI; rw [hc]
    have D1 := Lib.hid (fun w => Chunk_no x w hc hxm)
    rw [hv] at Z1
    clear hv hc
    go_enter Try.func5, Try.ntmps5
    go_wp2_with (first | (go_at_call 16; (with_reducible refine (C1.out _).mono ?_); rintro e w' ⟨rfl, rfl⟩) | (go_at_call 30; (with_reducible refine (D1.out _).mono ?_); rintro e w' ⟨rfl, rfl⟩) | (go_at_call 31; (with_reducible refine (Z1.out _).mono ?_); rintro e w' ⟨rfl, hb2⟩; replace hb := below_trans hb (hb2.below _); clear hb2) | (go_at_call 32; (with_reducible refine (lives14_any _).mono ?_); rintro e w' ⟨rfl, hb2⟩; replace hb := below_trans hb hb2; clear hb2))
    go_ret
    exact ⟨rfl, hb⟩
  | some n =>
    obtain ⟨hn, h8⟩ := chunkN_lt hc
    have hv : sizeI x = (n : Int) := by unfold sizeI; rw [hc]
    have D1 := Lib.hid (fun w => Chunk_yes x n w hc hxm)
    rw [hv] at Z1
    clear hv hc
    go_enter Try.func5, Try.ntmps5
    go_wp2_with (first | (go_at_call 16; (with_reducible refine (C1.out _).mono ?_); rintro e w' ⟨rfl, rfl⟩) | (go_at_call 30; (with_reducible refine (D1.out _).mono ?_); rintro e w' ⟨rfl, hb2⟩; replace hb := below_trans hb (hb2.below _); clear hb2) | (go_at_call 31; (with_reducible refine (Z1.out _).mono ?_); rintro e w' ⟨rfl, hb2⟩; replace hb := below_trans hb (hb2.below _); clear hb2) | (go_at_call 32; (with_reducible refine (lives14_any _).mono ?_); rintro e w' ⟨rfl, hb2⟩; replace hb := below_trans hb hb2; clear hb2))
    go_ret
    exact ⟨rfl, hb⟩

end Go.Proofs.Ytcpjokjfjhhndaa
