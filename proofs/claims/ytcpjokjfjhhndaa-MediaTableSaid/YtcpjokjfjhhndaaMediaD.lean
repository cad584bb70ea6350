/-
  Walks of package media: the head of a box of a sound or film, and its number.
-/
import Derived.Test.YtcpjokjfjhhndaaBigPlain
import Derived.Test.YtcpjokjfjhhndaaTextsPlain
import Derived.Test.YtcpjokjfjhhndaaBytesMem
namespace Go.Proofs.Ytcpjokjfjhhndaa
open Go.RowKit
set_option linter.unusedSimpArgs false
set_option linter.unusedVariables false

theorem restB_at4 (s : ByteArray) (k i : Nat) (hi : i < (s.extract k s.size).size) : (s.extract k s.size)[i] = s[k + i]'(by simp at hi; omega) := by
  simp [ByteArray.getElem_extract]

theorem take4l (l : List UInt8) (h : 4 ≤ l.length) : l.take 4 = [l[0], l[1], l[2], l[3]] := by
  match l, h with
  | a :: b :: c :: d :: r, _ => simp

/-- Four bytes in the order in which they count. -/
def numL (s : ByteArray) (low : Bool) : List UInt8 := if low then (s.data.toList.take 4).reverse else s.data.toList.take 4

theorem numL_at (s : ByteArray) (h : 4 ≤ s.size) (j : Nat) (hj : j < 4) : ∃ (h1 : j < (numL s false).length) (h2 : j < (numL s true).length), (numL s false)[j] = s[j] ∧ (numL s true)[j] = s[3 - j] := by
  have hl : 4 ≤ s.data.toList.length := by rw [← Lib.size_eq]; exact h
  refine ⟨by simp [numL]; omega, by simp [numL]; omega, ?_, ?_⟩
  · simp only [numL, Bool.false_eq_true, if_false, List.getElem_take]; rfl
  · simp only [numL, if_true, List.getElem_reverse, List.getElem_take, List.length_take]
    have e : min 4 s.data.toList.length - 1 - j = 3 - j := by omega
    simp only [e]; rfl

theorem numL_length (s : ByteArray) (h : 4 ≤ s.size) (low : Bool) : (numL s low).length = 4 := by
  have hl : 4 ≤ s.data.toList.length := by rw [← Lib.size_eq]; exact h
  cases low <;> simp [numL] <;> omega

set_option maxRecDepth 20000 in
theorem number_any (s : ByteArray) (low : Bool) (w : World) (h : 4 ≤ s.size) (hs : s.size ≤ maxLen) :
    Calls Try.prog 71 #[.string s, .bool low] w fun e w' => e = .returned (.int .u32 (bigN (numL s low))) ∧ w = w' := by
  have hlen := numL_length s h low
  have hat : ∀ j : Nat, j < 4 → ∀ m : Nat, m = (if low then 3 - j else j) → ∃ (h1 : j < (numL s low).length) (h2 : m < s.size), (numL s low)[j] = s[m] := by
    intro j hj m hm
    obtain ⟨h1, h2, h3, h4⟩ := numL_at s h j hj
    subst hm
    cases low
    · exact ⟨h1, by simp; omega, h3⟩
    · exact ⟨h2, by simp; omega, h4⟩
  generalize numL s low = l at *
  have HAT := Lib.hid hat
  have HL := Lib.hid hlen
  clear hat hlen
  cases low
  · go_enter Try.func71, Try.ntmps71
    go_wp2
    go_loop [5, 8] (fun n i => ∃ j : Nat, j ≤ 4 ∧ i = .int .i64 j ∧ n = .int .u32 (bigN (l.take j))) (fun _ i => 4 - (intOf i).toNat)
    case atStart => exact ⟨0, Nat.zero_le _, rfl, rfl⟩
    case round =>
      obtain ⟨j, hj, rfl, rfl⟩ := hrel
      by_cases hlt : j < 4
      · obtain ⟨h1, h2, h3⟩ := HAT.out j hlt j rfl
        have hidx := fun w => index_byte 9 Try.underlying9 s j h2 w
        rw [← h3] at hidx
        have hst : bigN (l.take (j + 1)) = bigN (l.take j) * 256 + l[j].toNat := by
          rw [List.take_succ_eq_append_getElem h1, bigN_snoc]
        have hb2 : bigN (l.take j) < 16777216 := Nat.lt_of_lt_of_le (bigN_lt (l.take j)) (by
          have : (l.take j).length ≤ 3 := by rw [List.length_take]; omega
          exact Nat.le_trans (Nat.pow_le_pow_right (by decide) this) (by decide))
        have HS := Lib.hid hst
        clear hst h3
        generalize l[j] = b at *
        generalize bigN (l.take j) = n at *
        have hbt := b.toNat_lt
        have hor := or_byte_u32 n b.toNat hb2 hbt
        go_wp2
        go_round
        case rel => exact ⟨j + 1, by omega, by go_num, by rw [HS.out]; go_num⟩
        case measure => simp [intOf]; omega
      · obtain rfl : j = 4 := by omega
        have ha : l.take 4 = l := List.take_of_length_le (by rw [HL.out]; exact Nat.le_refl _)
        rw [ha]
        go_wp2
        go_ret
        exact ⟨rfl, rfl⟩
  · go_enter Try.func71, Try.ntmps71
    go_wp2
    go_loop [5, 8] (fun n i => ∃ j : Nat, j ≤ 4 ∧ i = .int .i64 j ∧ n = .int .u32 (bigN (l.take j))) (fun _ i => 4 - (intOf i).toNat)
    case atStart => exact ⟨0, Nat.zero_le _, rfl, rfl⟩
    case round =>
      obtain ⟨j, hj, rfl, rfl⟩ := hrel
      by_cases hlt : j < 4
      · obtain ⟨h1, h2, h3⟩ := HAT.out j hlt (3 - j) rfl
        have hidx := fun w => index_byte 9 Try.underlying9 s (3 - j) h2 w
        rw [← h3] at hidx
        have hst : bigN (l.take (j + 1)) = bigN (l.take j) * 256 + l[j].toNat := by
          rw [List.take_succ_eq_append_getElem h1, bigN_snoc]
        have hb2 : bigN (l.take j) < 16777216 := Nat.lt_of_lt_of_le (bigN_lt (l.take j)) (by
          have : (l.take j).length ≤ 3 := by rw [List.length_take]; omega
          exact Nat.le_trans (Nat.pow_le_pow_right (by decide) this) (by decide))
        have HS := Lib.hid hst
        clear hst h3
        generalize l[j] = b at *
        generalize bigN (l.take j) = n at *
        have hbt := b.toNat_lt
        have hor := or_byte_u32 n b.toNat hb2 hbt
        obtain ⟨m, hm⟩ : ∃ m : Nat, 3 - j = m := ⟨_, rfl⟩
        have hm2 : (3 : Int) - (j : Int) = (m : Int) := by omega
        rw [hm] at hidx
        clear hm
        go_wp2
        go_round
        case rel => exact ⟨j + 1, by omega, by go_num, by rw [HS.out]; go_num⟩
        case measure => simp [intOf]; omega
      · obtain rfl : j = 4 := by omega
        have ha : l.take 4 = l := List.take_of_length_le (by rw [HL.out]; exact Nat.le_refl _)
        rw [ha]
        go_wp2
        go_ret
        exact ⟨rfl, rfl⟩

/-- Bytes begin with RIFF; with FORM. -/
def riffB (s : ByteArray) : Bool := (s.extract 0 4).toList == [82, 73, 70, 70]

def formB (s : ByteArray) : Bool := (s.extract 0 4).toList == [70, 79, 82, 77]

/-- The number in a head, if there is one. -/
def chunkN (s : ByteArray) : Option Nat :=
  if s.size < 8 then none else if riffB s then some (bigN (numL (s.extract 4 s.size) true)) else if formB s then some (bigN (numL (s.extract 4 s.size) false)) else none

theorem chunkN_lt {s : ByteArray} {n : Nat} (h : chunkN s = some n) : n < 4294967296 ∧ 8 ≤ s.size := by
  unfold chunkN at h
  have hb : ∀ low, 8 ≤ s.size → bigN (numL (s.extract 4 s.size) low) < 4294967296 := fun low h8 => by
    have h1 := bigN_lt (numL (s.extract 4 s.size) low)
    rw [numL_length _ (by simp; omega)] at h1
    exact h1
  split at h
  · cases h
  · rename_i h8
    refine ⟨?_, by omega⟩
    split at h
    · injection h with h; subst h; exact hb _ (by omega)
    · split at h
      · injection h with h; subst h; exact hb _ (by omega)
      · cases h

theorem tooth (b : UInt8) : b.toNat < 256 := b.toNat_lt

theorem form_not_riff {s : ByteArray} (h : riffB s = true) : formB s = false := by
  unfold riffB at h
  unfold formB
  rw [beq_iff_eq] at h
  rw [h]; decide

set_option maxRecDepth 20000 in
theorem Chunk_yes (s : ByteArray) (n : Nat) (w : World) (h : chunkN s = some n) (hs : s.size ≤ maxLen) :
    Calls Try.prog 30 #[.string s] w fun e w' => e = .returned (.tuple #[.string (s.extract 0 4), .int .u32 n, .bool true]) ∧ Drew w w' := by
  obtain ⟨h1, h2⟩ := chunkN_lt h
  have hs2 : s.size ≤ 9223372036854775807 := by unfold maxLen at hs; omega
  have h8 : ¬ s.size < 8 := by omega
  unfold chunkN at h
  rw [if_neg h8] at h
  have CN := Lib.hid (fun low w => number_any (s.extract 4 s.size) low w (by simp; omega) (by simp; unfold maxLen at *; omega))
  cases hr : riffB s
  · rw [if_neg (by rw [hr]; decide)] at h
    cases hf : formB s
    · rw [if_neg (by rw [hf]; decide)] at h
      cases h
    · rw [if_pos hf] at h
      injection h with h
      have CN2 := CN.out false
      rw [h] at CN2
      have C2 := Lib.hid CN2
      clear CN CN2 h
      unfold riffB at hr
      unfold formB at hf
      go_enter Try.func30, Try.ntmps30
      go_wp2
      go_quiet ((go_at_call 71; exact quiet_same (C2.out _)))
      go_wp2
      go_ret3
      exact ⟨rfl, ⟨_, rfl⟩⟩
  · rw [if_pos hr] at h
    injection h with h
    have CN2 := CN.out true
    rw [h] at CN2
    have C2 := Lib.hid CN2
    clear CN CN2 h
    unfold riffB at hr
    go_enter Try.func30, Try.ntmps30
    go_wp2
    go_quiet ((go_at_call 71; exact quiet_same (C2.out _)))
    go_wp2
    go_ret3
    exact ⟨rfl, ⟨_, rfl⟩⟩

theorem Chunk_no (s : ByteArray) (w : World) (h : chunkN s = none) (hs : s.size ≤ maxLen) :
    Calls Try.prog 30 #[.string s] w fun e w' => e = .returned (.tuple #[.string ⟨#[]⟩, .int .u32 0, .bool false]) ∧ w = w' := by
  have hs2 : s.size ≤ 9223372036854775807 := by unfold maxLen at hs; omega
  unfold chunkN at h
  by_cases h8 : s.size < 8
  · clear h
    go_enter Try.func30, Try.ntmps30
    go_wp2
    go_ret3
    exact ⟨rfl, rfl⟩
  · rw [if_neg h8] at h
    cases hr : riffB s
    · cases hf : formB s
      · clear h
        unfold riffB at hr
        unfold formB at hf
        go_enter Try.func30, Try.ntmps30
        go_wp2
        go_ret3
        exact ⟨rfl, rfl⟩
      · rw [hr, hf] at h; simp at h
    · rw [hr] at h; simp at h

theorem num_four (s : ByteArray) (h : 8 ≤ s.size) :
    bigN (numL (s.extract 4 s.size) false) = ((s[4].toNat * 256 + s[5].toNat) * 256 + s[6].toNat) * 256 + s[7].toNat ∧
      bigN (numL (s.extract 4 s.size) true) = ((s[7].toNat * 256 + s[6].toNat) * 256 + s[5].toNat) * 256 + s[4].toNat := by
  have e : (s.extract 4 s.size).data.toList.take 4 = [s[4], s[5], s[6], s[7]] := by
    have hz : 4 ≤ (s.extract 4 s.size).size := by simp; omega
    have f : ∀ i, i < 4 → ∃ h1 h2, (s.extract 4 s.size).data.toList[i]'h1 = s[4 + i]'h2 := fun i hi => by
      refine ⟨by rw [← Lib.size_eq]; omega, by omega, ?_⟩
      have := restB_at4 s 4 i (by simp; omega)
      exact this
    obtain ⟨a1, a2, a3⟩ := f 0 (by omega)
    obtain ⟨b1, b2, b3⟩ := f 1 (by omega)
    obtain ⟨c1, c2, c3⟩ := f 2 (by omega)
    obtain ⟨d1, d2, d3⟩ := f 3 (by omega)
    rw [take4l _ (by rw [← Lib.size_eq]; exact hz), a3, b3, c3, d3]
  unfold numL
  simp only [Bool.false_eq_true, if_false, if_true, e]
  simp [bigN]

end Go.Proofs.Ytcpjokjfjhhndaa
