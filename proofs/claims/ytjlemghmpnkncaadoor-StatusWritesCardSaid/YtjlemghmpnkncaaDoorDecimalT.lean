/-
  Walks of package decimal, and of its reference: the text of a number.
-/
import Derived.Test.YtjlemghmpnkncaaDoorDecimalA
import Derived.Test.YtjlemghmpnkncaaDoorShelf
import Derived.Lib.ItoaLen
import Derived.Lib.AppendIntMem
import Derived.Lib.SmallJoins
namespace Go.Proofs.YtjlemghmpnkncaaDoor
open Go.RowKit
set_option linter.unusedSimpArgs false
set_option linter.unusedVariables false

/-- Bytes as a text. -/
def txt (l : List UInt8) : ByteArray := ⟨l.toArray⟩

theorem txt_app (a b : List UInt8) : txt a ++ txt b = txt (a ++ b) := by
  apply bytes_ext
  rw [ByteArray.data_append]
  simp [txt]

theorem txt_size (l : List UInt8) : (txt l).size = l.length := rfl

theorem dec_small : ∀ i : Fin 10, (⟨#[48, 49, 50, 51, 52, 53, 54, 55, 56, 57]⟩ : ByteArray).extract i.val (i.val + 1) = txt [UInt8.ofNat (48 + i.val)] := by decide +kernel

theorem dec_big (u : Nat) (h : 10 ≤ u) : txt (Lib.decDigits u) = txt (Lib.decDigits (u / 10)) ++ txt (Lib.decDigits (u % 10)) := by
  rw [txt_app]
  congr 1
  have hu : ¬ u < 10 := by omega
  have hm : u % 10 < 10 := Nat.mod_lt _ (by decide)
  conv => lhs; rw [Lib.decDigits, dif_neg hu]
  rw [Lib.decDigits_one hm]

theorem dec_len (u : Nat) (h : u < 18446744073709551616) : (txt (Lib.decDigits u)).size ≤ 20 := by
  rw [txt_size, Lib.decDigits_length]
  exact Lib.nDigits_le20 u h

set_option maxRecDepth 20000 in
theorem rnum_any : ∀ (k u : Nat) (w : World), u ≤ k → u < 18446744073709551616 →
    Calls Tryd.prog 74 #[.int .u64 (u : Int)] w fun e w' => e = .returned (.string (txt (Lib.decDigits u))) ∧ w = w' := by
  intro k
  induction k with
  | zero =>
    intro u w hk hb
    obtain rfl : u = 0 := by omega
    rw [Lib.decDigits_one (by decide)]
    go_enter Tryd.func74, Tryd.ntmps74
    go_wp2_with fail
    go_ret
    exact ⟨rfl, rfl⟩
  | succ k ih =>
    intro u w hk hb
    by_cases hu : u < 10
    · have hs := dec_small ⟨u, hu⟩
      simp only at hs
      rw [Lib.decDigits_one hu, ← hs]
      have h1 : (u : Int) < 10 := by omega
      have h2 : (0 : Int) ≤ (u : Int) := by omega
      clear hs hb hk ih
      go_enter Tryd.func74, Tryd.ntmps74
      go_wp2_with fail
      go_ret
      exact ⟨rfl, rfl⟩
    · have hq : u / 10 < 18446744073709551616 := by omega
      have hr : u % 10 < 18446744073709551616 := by omega
      have HQ : Hid (∀ w : World, Calls Tryd.prog 74 #[.int .u64 ((u : Int) / 10)] w fun e w' => e = .returned (.string (txt (Lib.decDigits (u / 10)))) ∧ w = w') := Lib.hid (fun w => by
        have h := ih (u / 10) w (by omega) hq
        rwa [show ((u / 10 : Nat) : Int) = (u : Int) / 10 by omega] at h)
      have HR : Hid (∀ w : World, Calls Tryd.prog 74 #[.int .u64 ((u : Int) % 10)] w fun e w' => e = .returned (.string (txt (Lib.decDigits (u % 10)))) ∧ w = w') := Lib.hid (fun w => by
        have h := ih (u % 10) w (by omega) hr
        rwa [show ((u % 10 : Nat) : Int) = (u : Int) % 10 by omega] at h)
      have l1 := dec_len (u / 10) hq
      have l2 := dec_len (u % 10) hr
      rw [dec_big u (by omega)]
      have h1 : ¬ ((u : Int) < 10) := by omega
      generalize txt (Lib.decDigits (u / 10)) = a at *
      generalize txt (Lib.decDigits (u % 10)) = b at *
      clear ih hk hq hr
      go_enter Tryd.func74, Tryd.ntmps74
      go_wp2_with (go_at_call 74; first | (with_reducible refine Calls.mono (HQ.out _) ?_; rintro e w' ⟨rfl, rfl⟩) | (with_reducible refine Calls.mono (HR.out _) ?_; rintro e w' ⟨rfl, rfl⟩))
      go_ret
      exact ⟨rfl, rfl⟩

theorem itoa_cases (n : Int) (h0 : -9223372036854775808 ≤ n) (h1 : n ≤ 9223372036854775807) :
    (0 ≤ n ∧ Lib.itoa n = Lib.decDigits n.toNat) ∨ (n < 0 ∧ Lib.itoa n = 45 :: Lib.decDigits n.natAbs) := by
  unfold Lib.itoa
  by_cases h : n < 0
  · right; exact ⟨h, if_pos h⟩
  · left; exact ⟨by omega, if_neg h⟩

set_option maxRecDepth 20000 in
theorem rText_any (n : Int) (w : World) (h0 : -9223372036854775808 ≤ n) (h1 : n ≤ 9223372036854775807) :
    Calls Tryd.prog 45 #[.int .i64 n] w fun e w' => e = .returned (.string (txt (Lib.itoa n))) ∧ w = w' := by
  rcases itoa_cases n h0 h1 with ⟨hn, hi⟩ | ⟨hn, hi⟩
  · rw [hi]
    obtain ⟨u, rfl⟩ : ∃ u : Nat, n = u := ⟨n.toNat, by omega⟩
    rw [show ((u : Int)).toNat = u by omega]
    have HN := Lib.hid (fun w => rnum_any u u w (Nat.le_refl _) (by omega))
    have hn2 : ¬ ((u : Int) < 0) := by omega
    generalize txt (Lib.decDigits u) = t at *
    clear hi
    go_enter Tryd.func45, Tryd.ntmps45
    go_wp2_with (go_at_call 74; with_reducible refine Calls.mono (HN.out _) ?_; rintro e w' ⟨rfl, rfl⟩)
    go_ret
    exact ⟨rfl, rfl⟩
  · rw [hi]
    obtain ⟨m, hm, rfl⟩ : ∃ m : Nat, 1 ≤ m ∧ n = -(m : Int) := ⟨n.natAbs, by omega, by omega⟩
    rw [show (-(m : Int)).natAbs = m by omega, show (45 :: Lib.decDigits m) = [45] ++ Lib.decDigits m from rfl, ← txt_app]
    have HN : Hid (∀ w : World, Calls Tryd.prog 74 #[.int .u64 (-(-(m : Int) + 1) + 1)] w fun e w' => e = .returned (.string (txt (Lib.decDigits m))) ∧ w = w') := Lib.hid (fun w => by
      have h := rnum_any m m w (Nat.le_refl _) (by omega)
      rwa [show (m : Int) = -(-(m : Int) + 1) + 1 by omega] at h)
    have l1 := dec_len m (by omega)
    generalize txt (Lib.decDigits m) = t at *
    clear hi
    go_enter Tryd.func45, Tryd.ntmps45
    go_wp2_with (go_at_call 74; with_reducible refine Calls.mono (HN.out _) ?_; rintro e w' ⟨rfl, rfl⟩)
    go_ret
    exact ⟨rfl, rfl⟩

theorem Text_any (n : Int) (w : World) (h0 : -9223372036854775808 ≤ n) (h1 : n ≤ 9223372036854775807) (hT : Lib.TabIs Tryd.prog w "internal/strconv.uint64pow10" .u64 Lib.pow10Tab) :
    Calls Tryd.prog 37 #[.int .i64 n] w fun e w' => e = .returned (.string (txt (Lib.itoa n))) ∧ Below w.heap.size w w' := by
  have HI : Hid (Calls Tryd.prog 59 #[.int .i64 n] w fun e w' => e = .returned (.string (txt (Lib.itoa n))) ∧ Below w.heap.size w w') := Lib.hid ((Tryd.strconv_Itoa n h0 h1 w hT).mono fun e w' h => by
    obtain ⟨he, k, os, rfl⟩ := h
    exact ⟨he, Lib.below_grow _ _ (Nat.le_refl _) _ _⟩)
  generalize txt (Lib.itoa n) = t at *
  clear h0 h1 hT
  go_enter Tryd.func37, Tryd.ntmps37
  go_wp2_with (go_at_call 59; refine Calls.mono HI.out ?_; rintro e w' ⟨rfl, hb⟩)
  go_ret
  exact ⟨rfl, hb⟩

end Go.Proofs.YtjlemghmpnkncaaDoor
