/-
  The numeral, read again: plain lists.
-/
import Derived.Test.YtjlemghmpnkncaaDoorDecimalT
namespace Go.Proofs.YtjlemghmpnkncaaDoor
set_option linter.unusedSimpArgs false
set_option linter.unusedVariables false

theorem valL_snoc (l : List UInt8) (b : UInt8) : valL (l ++ [b]) = 10 * valL l + (b.toNat - 48) := by
  unfold valL valFrom
  rw [List.foldl_append]
  rfl

theorem digit_toNat : ∀ i : Fin 10, (UInt8.ofNat (48 + i.val)).toNat = 48 + i.val ∧ isDigit (UInt8.ofNat (48 + i.val)) = true := by decide +kernel

theorem valL_dec (u : Nat) : valL (Lib.decDigits u) = u := by
  induction u using Nat.strongRecOn with
  | _ u ih =>
    by_cases h : u < 10
    · rw [Lib.decDigits_one h]
      have := (digit_toNat ⟨u, h⟩).1
      simp only at this
      rw [show ([UInt8.ofNat (48 + u)] : List UInt8) = [] ++ [UInt8.ofNat (48 + u)] from rfl, valL_snoc, this]
      simp [valL, valFrom]
    · rw [Lib.decDigits, dif_neg h, valL_snoc, ih (u / 10) (by omega)]
      have := (digit_toNat ⟨u % 10, Nat.mod_lt _ (by decide)⟩).1
      simp only at this
      rw [this]
      omega

theorem all_dec (u : Nat) : (Lib.decDigits u).all isDigit = true := by
  induction u using Nat.strongRecOn with
  | _ u ih =>
    by_cases h : u < 10
    · rw [Lib.decDigits_one h]
      have := (digit_toNat ⟨u, h⟩).2
      simpa using this
    · rw [Lib.decDigits, dif_neg h, List.all_append, ih (u / 10) (by omega)]
      have := (digit_toNat ⟨u % 10, Nat.mod_lt _ (by decide)⟩).2
      simpa using this

theorem dec_ne_nil (u : Nat) : Lib.decDigits u ≠ [] := by
  intro h
  have := congrArg List.length h
  rw [Lib.decDigits_length] at this
  have := Lib.nDigits_pos u
  simp at *
  omega

theorem dec_first : ∀ u : Nat, 1 ≤ u → (Lib.decDigits u).getD 0 0 ≠ 48 := by
  intro u
  induction u using Nat.strongRecOn with
  | _ u ih =>
    intro h1
    by_cases h : u < 10
    · rw [Lib.decDigits_one h]
      have := (digit_toNat ⟨u, h⟩).1
      simp only at this
      intro e
      simp only [List.getD_cons_zero] at e
      rw [e] at this
      have h48 : (48 : UInt8).toNat = 48 := rfl
      omega
    · rw [Lib.decDigits, dif_neg h]
      have := ih (u / 10) (by omega) (by omega)
      have hne := dec_ne_nil (u / 10)
      cases hd : Lib.decDigits (u / 10) with
      | nil => exact absurd hd hne
      | cons x l =>
        rw [hd] at this
        simpa using this

theorem strictOff_dec (u : Nat) : strictOff (txt (Lib.decDigits u)) = false := by
  unfold strictOff
  rw [show (txt (Lib.decDigits u)).data.toList = Lib.decDigits u by simp [txt], txt_size, Lib.decDigits_length]
  by_cases h : u < 10
  · rw [Lib.nDigits_small h]; rfl
  · rw [beq_eq_false_iff_ne.2 (dec_first u (by omega)), Bool.and_false]

theorem parseOk_dec (u : Nat) : parseOk (txt (Lib.decDigits u)) = true := by
  unfold parseOk
  rw [show (txt (Lib.decDigits u)).data.toList = Lib.decDigits u by simp [txt], all_dec]
  have := dec_ne_nil u
  cases hd : Lib.decDigits u with
  | nil => exact absurd hd this
  | cons x l => rfl

theorem strict_small (u : Nat) (h : u ≤ mostN) : strictN (txt (Lib.decDigits u)) = u ∧ strictE (txt (Lib.decDigits u)) = 0 := by
  obtain ⟨h1, h2⟩ := strict_off (strictOff_dec u)
  rw [h1, h2]
  unfold parseN parseE
  rw [show (txt (Lib.decDigits u)).data.toList = Lib.decDigits u by simp [txt], valL_dec, parseOk_dec]
  simp [h]

theorem strict_great (u : Nat) (h : mostN < u) : strictN (txt (Lib.decDigits u)) = 0 ∧ strictE (txt (Lib.decDigits u)) = 9 := by
  obtain ⟨h1, h2⟩ := strict_off (strictOff_dec u)
  rw [h1, h2]
  unfold parseN parseE
  rw [show (txt (Lib.decDigits u)).data.toList = Lib.decDigits u by simp [txt], valL_dec, parseOk_dec]
  simp [Nat.not_le.2 h]

theorem strict_minus (l : List UInt8) : strictN (txt (45 :: l)) = 0 ∧ strictE (txt (45 :: l)) = 2 := by
  have ho : strictOff (txt (45 :: l)) = false := by
    unfold strictOff
    rw [show (txt (45 :: l)).data.toList = 45 :: l by simp [txt]]
    simp
  obtain ⟨h1, h2⟩ := strict_off ho
  have hp : parseOk (txt (45 :: l)) = false := by
    unfold parseOk
    rw [show (txt (45 :: l)).data.toList = 45 :: l by simp [txt], List.all_cons, show isDigit 45 = false from by decide]
    simp
  rw [h1, h2]
  unfold parseN parseE
  rw [hp]
  simp

end Go.Proofs.YtjlemghmpnkncaaDoor
