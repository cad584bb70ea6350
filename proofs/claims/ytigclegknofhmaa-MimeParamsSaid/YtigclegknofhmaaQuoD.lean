/-
  Walks of package quoted: Serial, Needs; the reference's Serial.
-/
import Derived.Test.YtigclegknofhmaaQuoC
import Derived.Test.YtigclegknofhmaaClassB
namespace Go.Proofs.Ytigclegknofhmaa
open Go.RowKit
set_option linter.unusedSimpArgs false
set_option linter.unusedVariables false

/-- A builder of the call's own. -/
def Bl (w : World) (b : Nat) (l : List UInt8) (wr : World) : Prop := ∃ v, BldAt wr w.heap.size b v l ∧ Below w.heap.size w wr

theorem Bl.start (w : World) : Bl w w.heap.size [] (w.alloc (.cells #[.pointer none, .slice none 0 0] 73)) := ⟨_, bld_new w _ (Nat.le_refl _), below_box _ _⟩

theorem blByte {w wr : World} {b : Nat} {l : List UInt8} (h : Bl w b l wr) (x : UInt8) (hl : l.length ≤ 10000000) :
    Calls Try.prog 43 #[.pointer (some ⟨b, 0, none⟩), .int .u8 (x.toNat : Int)] wr fun e w' => e = .returned .nilIface ∧ Bl w b (l ++ [x]) w' := by
  obtain ⟨v, h1, h2⟩ := h
  refine (WriteByte_any w.heap.size b v l x wr h1 hl h2.size).mono ?_
  rintro e w' ⟨rfl, v', hb, _, hk⟩
  exact ⟨rfl, v', hb, h2.trans (hk.below h1 h2.size)⟩

theorem blStr {w wr : World} {b : Nat} {l : List UInt8} (h : Bl w b l wr) (x : ByteArray) (hl : l.length ≤ 10000000) (hx : x.size ≤ 10000000) :
    Calls Try.prog 69 #[.pointer (some ⟨b, 0, none⟩), .string x] wr fun e w' => e = .returned (.tuple #[.int .i64 x.size, .nilIface]) ∧ Bl w b (l ++ x.data.toList) w' := by
  obtain ⟨v, h1, h2⟩ := h
  refine (WriteString_any w.heap.size b v l x wr h1 hl hx h2.size).mono ?_
  rintro e w' ⟨rfl, v', hb, _, hk⟩
  exact ⟨rfl, v', hb, h2.trans (hk.below h1 h2.size)⟩

theorem blString {w wr : World} {b : Nat} {l : List UInt8} (h : Bl w b l wr) :
    Calls Try.prog 44 #[.pointer (some ⟨b, 0, none⟩)] wr fun e w' => e = .returned (.string ⟨l.toArray⟩) ∧ Below w.heap.size w w' := by
  obtain ⟨v, h1, h2⟩ := h
  refine (String_any w.heap.size b v l wr h1).mono ?_
  rintro e w' ⟨rfl, hk⟩
  exact ⟨rfl, h2.trans (hk.below h1 h2.size)⟩

/-- A text with what must be behind a backslash there. -/
def escL (l : List UInt8) : List UInt8 := l.flatMap fun b => if b = 34 ∨ b = 92 then [92, b] else [b]

def serL (l : List UInt8) : List UInt8 := (34 :: escL l) ++ [34]

theorem escL_snoc (l : List UInt8) (b : UInt8) : escL (l ++ [b]) = escL l ++ (if b = 34 ∨ b = 92 then [92, b] else [b]) := by simp [escL]

theorem escL_length (l : List UInt8) : (escL l).length ≤ 2 * l.length := by
  induction l with
  | nil => simp [escL]
  | cons b l ih =>
    have e : escL (b :: l) = (if b = 34 ∨ b = 92 then [92, b] else [b]) ++ escL l := by simp only [escL, List.flatMap_cons]
    rw [e, List.length_append, List.length_cons]
    have : (if b = 34 ∨ b = 92 then [92, b] else [b]).length ≤ 2 := by split <;> simp
    omega

theorem take_snocB (s : ByteArray) (k : Nat) (h : k < s.size) : s.data.toList.take (k + 1) = s.data.toList.take k ++ [s[k]] := by
  rw [List.take_succ_eq_append_getElem (by rw [← Lib.size_eq]; exact h)]; rfl

theorem ne_int {b : UInt8} {n : Nat} (hn : n < 256) (h : b ≠ UInt8.ofNat n) : ((b.toNat : Int) == (n : Int)) = false := by
  rw [beq_eq_false_iff_ne]
  intro e
  apply h
  apply UInt8.toNat_inj.1
  rw [UInt8.toNat_ofNat']
  omega

set_option maxHeartbeats 2000000 in
set_option maxRecDepth 20000 in
theorem Serial_any (s : ByteArray) (w : World) (hs : s.size ≤ 100000) :
    Calls Try.prog 17 #[.string s] w fun e w' => e = .returned (.string ⟨(serL s.data.toList).toArray⟩) ∧ Below w.heap.size w w' := by
  have HB0 := Lib.hid (Bl.start w)
  go_enter Try.func17, Try.ntmps17
  go_wp2_with fail
  generalize w.alloc (.cells #[.pointer none, .slice none 0 0] 73) = W at *
  refine (blByte HB0.out 34 (by simp)).mono ?_
  rintro e w1 ⟨rfl, h1⟩
  have HB1 := Lib.hid h1
  clear h1 HB0
  go_wp2_with fail
  go_loopw [8] (fun i wr => ∃ k : Nat, k ≤ s.size ∧ i = .int .i64 k ∧ Bl w w.heap.size (34 :: escL (s.data.toList.take k)) wr) (fun i _ => s.size - (intOf i).toNat)
  case atStart => exact ⟨0, Nat.zero_le _, rfl, HB1.out⟩
  case round =>
    clear HB1
    obtain ⟨k, hk, rfl, hb⟩ := hrel
    have HB := Lib.hid hb
    clear hb
    have hl : (34 :: escL (s.data.toList.take k)).length ≤ 300000 := by
      have := escL_length (s.data.toList.take k)
      rw [List.length_take] at this
      simp; omega
    by_cases hlt : k < s.size
    · have hidx := fun w => index_byte 9 Try.underlying9 s k hlt w
      have HS := Lib.hid (escL_snoc (s.data.toList.take k) s[k])
      rw [← take_snocB s k hlt] at HS
      generalize s[k] = b at *
      generalize escL (s.data.toList.take k) = L at *
      by_cases h34 : b = 34
      · subst h34
        have e34 : ((34 : UInt8).toNat : Int) = 34 := rfl
        rw [e34] at hidx
        rw [if_pos (.inl rfl)] at HS
        go_wp2_with fail
        refine (blByte HB.out 92 (by omega)).mono ?_
        rintro e w2 ⟨rfl, h2⟩
        have HB2 := Lib.hid h2
        clear h2
        go_wp2_with fail
        refine (blByte HB2.out 34 (by simp at hl ⊢; omega)).mono ?_
        rintro e w3 ⟨rfl, h3⟩
        have HB3 := Lib.hid h3
        clear h3
        go_wp2_with fail
        go_roundw
        case rel => exact ⟨k + 1, by omega, by go_num, by rw [HS.out]; simpa using HB3.out⟩
        case measure => simp [intOf]; omega
      · by_cases h92 : b = 92
        · subst h92
          have e92 : ((92 : UInt8).toNat : Int) = 92 := rfl
          rw [e92] at hidx
          rw [if_pos (.inr rfl)] at HS
          go_wp2_with fail
          refine (blByte HB.out 92 (by omega)).mono ?_
          rintro e w2 ⟨rfl, h2⟩
          have HB2 := Lib.hid h2
          clear h2
          go_wp2_with fail
          refine (blByte HB2.out 92 (by simp at hl ⊢; omega)).mono ?_
          rintro e w3 ⟨rfl, h3⟩
          have HB3 := Lib.hid h3
          clear h3
          go_wp2_with fail
          go_roundw
          case rel => exact ⟨k + 1, by omega, by go_num, by rw [HS.out]; simpa using HB3.out⟩
          case measure => simp [intOf]; omega
        · have n34 : ((b.toNat : Int) == 34) = false := ne_int (n := 34) (by decide) h34
          have n92 : ((b.toNat : Int) == 92) = false := ne_int (n := 92) (by decide) h92
          rw [if_neg (by rintro (h | h); exact h34 h; exact h92 h)] at HS
          clear h34 h92
          go_wp2_with fail
          refine (blByte HB.out b (by omega)).mono ?_
          rintro e w2 ⟨rfl, h2⟩
          have HB2 := Lib.hid h2
          clear h2
          go_wp2_with fail
          go_roundw
          case rel => exact ⟨k + 1, by omega, by go_num, by rw [HS.out]; simpa using HB2.out⟩
          case measure => simp [intOf]; omega
    · obtain rfl : k = s.size := by omega
      rw [List.take_of_length_le (by rw [← Lib.size_eq]; exact Nat.le_refl _)] at *
      go_wp2_with fail
      refine (blByte HB.out 34 (by omega)).mono ?_
      rintro e w2 ⟨rfl, h2⟩
      have HB2 := Lib.hid h2
      clear h2
      go_wp2_with fail
      refine (blString HB2.out).mono ?_
      rintro e w3 ⟨rfl, h3⟩
      have HB3 := Lib.hid h3
      clear h3
      obtain ⟨tx, htx⟩ : ∃ tx : ByteArray, (⟨(34 :: escL s.data.toList ++ [34]).toArray⟩ : ByteArray) = tx := ⟨_, rfl⟩
      have HTX := Lib.hid htx
      rw [htx]
      clear htx
      go_wp2_with fail
      go_ret
      exact ⟨by rw [← HTX.out]; rfl, HB3.out⟩

set_option maxHeartbeats 2000000 in
set_option maxRecDepth 20000 in
theorem rSerial_any (s : ByteArray) (w : World) (hs : s.size ≤ 100000) :
    Calls Try.prog 19 #[.string s] w fun e w' => e = .returned (.string ⟨(serL s.data.toList).toArray⟩) ∧ w = w' := by
  go_enter Try.func19, Try.ntmps19
  go_wp2_with fail
  go_loop [3, 4] (fun t i => ∃ k : Nat, k ≤ s.size ∧ i = .int .i64 k ∧ t = .string ⟨(34 :: escL (s.data.toList.take k)).toArray⟩) (fun _ i => s.size - (intOf i).toNat)
  case atStart => exact ⟨0, Nat.zero_le _, rfl, rfl⟩
  case round =>
    obtain ⟨k, hk, rfl, rfl⟩ := hrel
    have hl : (34 :: escL (s.data.toList.take k)).length ≤ 300000 := by
      have := escL_length (s.data.toList.take k)
      rw [List.length_take] at this
      simp; omega
    have hts : (⟨(34 :: escL (s.data.toList.take k)).toArray⟩ : ByteArray).size ≤ 300000 := by rw [Lib.size_eq]; exact hl
    have hone : ∀ (L : List UInt8) (x : List UInt8), (⟨L.toArray⟩ : ByteArray) ++ ⟨x.toArray⟩ = ⟨(L ++ x).toArray⟩ := fun L x => by
      apply ByteArray.ext
      rw [ByteArray.data_append]
      simp
    have HO := Lib.hid hone
    clear hone
    by_cases hlt : k < s.size
    · have hidx := fun w => index_byte 9 Try.underlying9 s k hlt w
      have HS := Lib.hid (escL_snoc (s.data.toList.take k) s[k])
      rw [← take_snocB s k hlt] at HS
      have hex : s.extract k (k + 1) = ⟨#[s[k]]⟩ := by
        have := toArr s k (k + 1)
        have h2 := ext_snoc s k k (Nat.le_refl _) hlt
        rw [← this, ← h2]
        simp
      have HEX := Lib.hid hex
      clear hex
      have hs2 : (s.extract k (k + 1)).size ≤ 1 := by rw [extract_size]; omega
      generalize hexq : s.extract k (k + 1) = ex at *
      generalize s[k] = b at *
      generalize escL (s.data.toList.take k) = L at *
      have HEXQ := Lib.hid hexq
      clear hexq
      obtain ⟨tb, htb⟩ : ∃ tb : ByteArray, (⟨(34 :: L).toArray⟩ : ByteArray) = tb := ⟨_, rfl⟩
      have HTB := Lib.hid htb
      rw [htb] at hts ⊢
      clear htb
      have h1s : (⟨#[92]⟩ : ByteArray).size = 1 := rfl
      by_cases h34 : b = 34 ∨ b = 92
      · have HE : Hid (tb ++ ⟨#[92]⟩ ++ ex = ⟨(34 :: escL (s.data.toList.take (k + 1))).toArray⟩) := Lib.hid (by
          rw [HS.out, if_pos h34, HEX.out, ← HTB.out]
          have e1 := HO.out (34 :: L) [92]
          have e2 := HO.out (34 :: L ++ [92]) [b]
          simp at e1 e2
          rw [e1, e2])
        generalize hc : (⟨#[92]⟩ : ByteArray) = cb at *
        have HC := Lib.hid hc
        clear hc
        rcases h34 with rfl | rfl
        · have e34 : ((34 : UInt8).toNat : Int) = 34 := rfl
          rw [e34] at hidx
          have hc := HC.out
          clear HC
          go_wp2
          go_round
          case rel => exact ⟨k + 1, by omega, by go_num, by rw [← HE.out, ← HEXQ.out]⟩
          case measure => simp [intOf]; omega
        · have e92 : ((92 : UInt8).toNat : Int) = 92 := rfl
          rw [e92] at hidx
          have hc := HC.out
          clear HC
          go_wp2
          go_round
          case rel => exact ⟨k + 1, by omega, by go_num, by rw [← HE.out, ← HEXQ.out]⟩
          case measure => simp [intOf]; omega
      · have HE : Hid (tb ++ ex = ⟨(34 :: escL (s.data.toList.take (k + 1))).toArray⟩) := Lib.hid (by
          rw [HS.out, if_neg h34, HEX.out, ← HTB.out]
          have e1 := HO.out (34 :: L) [b]
          simp at e1
          rw [e1])
        have n34 : ((b.toNat : Int) == 34) = false := ne_int (n := 34) (by decide) (fun h => h34 (.inl h))
        have n92 : ((b.toNat : Int) == 92) = false := ne_int (n := 92) (by decide) (fun h => h34 (.inr h))
        clear h34
        go_wp2
        go_round
        case rel => exact ⟨k + 1, by omega, by go_num, by rw [← HE.out, ← HEXQ.out]⟩
        case measure => simp [intOf]; omega
    · obtain rfl : k = s.size := by omega
      have HE : Hid ((⟨(34 :: escL (s.data.toList.take s.size)).toArray⟩ : ByteArray) ++ ⟨#[34]⟩ = ⟨(serL s.data.toList).toArray⟩) := Lib.hid (by
        have e1 := HO.out (34 :: escL (s.data.toList.take s.size)) [34]
        rw [List.take_of_length_le (by rw [← Lib.size_eq]; exact Nat.le_refl _)] at e1 ⊢
        exact e1)
      generalize (⟨(34 :: escL (s.data.toList.take s.size)).toArray⟩ : ByteArray) = tb at *
      have h1s : (⟨#[34]⟩ : ByteArray).size = 1 := rfl
      go_wp2
      go_ret
      exact ⟨ret_string HE.out, rfl⟩

end Go.Proofs.Ytigclegknofhmaa
