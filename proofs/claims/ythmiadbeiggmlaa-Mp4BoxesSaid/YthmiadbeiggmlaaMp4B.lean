/-
  Walks of package mp4: the names in a first box.
-/
import Derived.Test.YthmiadbeiggmlaaMp4A
import Derived.Test.YthmiadbeiggmlaaShelf
namespace Go.Proofs.Ythmiadbeiggmlaa
open Go.RowKit
set_option linter.unusedSimpArgs false
set_option linter.unusedVariables false

set_option maxRecDepth 20000 in
theorem rHead_any (s : ByteArray) (w : World) (hs : s.size ≤ maxLen) :
    Calls Try.prog 36 #[.string s] w fun e w' => e = .returned (.bool (headF s)) ∧ Below w.heap.size w w' := by
  have hs2 : s.size ≤ 9223372036854775807 := by unfold maxLen at hs; omega
  unfold headF
  have hb := Below.refl w.heap.size w
  by_cases h12 : 12 ≤ s.size
  · have HC := Lib.hid (fun w => rSize_yes s w (by omega))
    have hlt := sizeF_lt s
    have HR := Lib.hid (decide_eq_true h12)
    generalize sizeF s = n at *
    by_cases h1 : n ≤ s.size
    · have HR1 := Lib.hid (decide_eq_true h1)
      by_cases h2 : n % 4 = 0
      · have HR2 := Lib.hid (decide_eq_true h2)
        have h3 : ((n : Int) % 4) = 0 := by omega
        cases h4 : ((s.extract 4 8).toList == [102, 116, 121, 112])
        · go_enter Try.func36, Try.ntmps36
          go_wp2_with (go_at_call 34; (with_reducible refine (HC.out _).mono ?_); rintro e w' ⟨rfl, hb2⟩; replace hb := below_trans hb (hb2.below _); clear hb2)
          go_ret
          exact ⟨ret_bool (by rw [HR.out, HR1.out, HR2.out]; simp [*]), hb⟩
        · go_enter Try.func36, Try.ntmps36
          go_wp2_with (go_at_call 34; (with_reducible refine (HC.out _).mono ?_); rintro e w' ⟨rfl, hb2⟩; replace hb := below_trans hb (hb2.below _); clear hb2)
          go_ret
          exact ⟨ret_bool (by rw [HR.out, HR1.out, HR2.out]; simp [*]), hb⟩
      · have HR2 := Lib.hid (decide_eq_false h2)
        have h3 : ((n : Int) % 4 == 0) = false := by rw [beq_eq_false_iff_ne]; omega
        clear h2
        go_enter Try.func36, Try.ntmps36
        go_wp2_with (go_at_call 34; (with_reducible refine (HC.out _).mono ?_); rintro e w' ⟨rfl, hb2⟩; replace hb := below_trans hb (hb2.below _); clear hb2)
        go_ret
        exact ⟨ret_bool (by rw [HR.out, HR1.out, HR2.out]; simp [*]), hb⟩
    · have HR1 := Lib.hid (decide_eq_false h1)
      go_enter Try.func36, Try.ntmps36
      go_wp2_with (go_at_call 34; (with_reducible refine (HC.out _).mono ?_); rintro e w' ⟨rfl, hb2⟩; replace hb := below_trans hb (hb2.below _); clear hb2)
      go_ret
      exact ⟨ret_bool (by rw [HR.out, HR1.out]; simp), hb⟩
  · have HR := Lib.hid (decide_eq_false h12)
    go_enter Try.func36, Try.ntmps36
    go_wp2_with fail
    go_ret
    exact ⟨ret_bool (by first | rfl | (rw [HR.out]; simp)), hb⟩

/-- The names up to a place. -/
def brandTo (s : ByteArray) (k : Nat) : List ByteArray := s.extract 8 12 :: (List.range k).map fun i => s.extract (16 + 4 * i) (16 + 4 * i + 4)

theorem brandTo_snoc (s : ByteArray) (k : Nat) : rowS (brandTo s (k + 1)) = rowS (brandTo s k) ++ [.string (s.extract (16 + 4 * k) (16 + 4 * k + 4))] := by
  simp [brandTo, rowS, List.range_succ]

theorem brandTo_length (s : ByteArray) (k : Nat) : (brandTo s k).length = k + 1 := by simp [brandTo]

/-- The names in a first box. -/
def brandsL (s : ByteArray) : List ByteArray := if headF s = true then brandTo s ((sizeF s - 16) / 4) else []

theorem own_grown {w wr w1 : World} {v : Value} {k : Nat} {e : TypeId} {l : List Value} {o : Obj} (hb : Below w.heap.size w wr) (hr : wr.ownsRow w.heap.size e 1 v k l) (hg : (wr.alloc o).grownBy w1 v.ownBlock) : Below w.heap.size w w1 :=
  (hb.alloc hb.size _).grown hg (by have := hb.size; simp; omega) fun j hj => (hr.lt j hj).1

theorem strs_later {w w' : World} {A : Option Addr} {l : List ByteArray} (h : StrsIn w A l) (hb : Below w.heap.size w w') : StrsIn w' A l := h.below hb

set_option maxHeartbeats 1000000 in
set_option maxRecDepth 20000 in
theorem brands_any (s : ByteArray) (w : World) (hs : s.size ≤ 100000) :
    Calls Try.prog 65 #[.string s] w (GivesStrs (brandsL s) w) := by
  have hsm : s.size ≤ maxLen := by unfold maxLen; omega
  obtain ⟨i0, hi, hz0, hz1, hz2⟩ := info_parts infoStrT
  have HI := Lib.hid hi; have HZ0 := Lib.hid hz0; have HZ1 := Lib.hid hz1; have HZ2 := Lib.hid hz2
  clear hi hz0 hz1 hz2
  have CB := Lib.hid (fun w => begins_any s w hsm)
  cases hh : headF s
  · have HL : Hid (brandsL s = []) := Lib.hid (by unfold brandsL; rw [hh]; rfl)
    rw [hh] at CB
    go_enter Try.func65, Try.ntmps65
    go_wp2_with (go_at_call 69; refine (CB.out _).mono ?_; rintro e w' ⟨rfl, hb⟩)
    go_ret
    exact ⟨none, 0, by rw [HL.out]; rfl, .inl HL.out, hb⟩
  · obtain ⟨h12, hle, hm⟩ := headF_parts hh
    have CS := Lib.hid (fun w => size_yes s w (by omega) hsm)
    have HL : Hid (brandsL s = brandTo s ((sizeF s - 16) / 4)) := Lib.hid (by unfold brandsL; rw [hh]; rfl)
    rw [hh] at CB
    generalize sizeF s = n at *
    clear hh
    obtain ⟨m, hm2⟩ : ∃ m, (n - 16) / 4 = m := ⟨_, rfl⟩
    rw [hm2] at HL
    have hkm : ∀ k : Nat, (k < m → 16 + 4 * k + 4 ≤ n) ∧ (¬ k < m → n ≤ 16 + 4 * k) := fun k => by omega
    have HKM := Lib.hid hkm
    clear hkm hm2 hm
    have hb := Below.refl w.heap.size w
    go_enter Try.func65, Try.ntmps65
    go_upto_region 4 with (first | (go_at_call 69; (with_reducible refine (CB.out _).mono ?_); rintro e w' ⟨rfl, hb2⟩; replace hb := below_trans hb hb2; clear hb2) | (go_at_call 68; (with_reducible refine (CS.out _).mono ?_); rintro e w' ⟨rfl, hb2⟩; replace hb := below_trans hb hb2; clear hb2))
    obtain ⟨W1, rfl⟩ : ∃ W1 : World, W1 = w' := ⟨_, rfl⟩
    have HB0 := Lib.hid hb
    have hz0 := hb.size
    clear hb CB CS
    go_wp2_with fail
    go_loopw [5, 6] (fun v i wr => ∃ k a : Nat, k ≤ m ∧ a = 16 + 4 * k ∧ i = .int .i64 a ∧ wr.ownsRow w.heap.size 9 1 v (k + 1) (rowS (brandTo s k)) ∧ Below w.heap.size w wr) (fun _ i _ => n - (intOf i).toNat)
    case atStart => exact ⟨0, 16, Nat.zero_le _, rfl, rfl, by simpa [rowS, brandTo] using World.ownsRow_lit (base := w.heap.size) (e := 9) (size := 1) W1 #[.string (s.extract 8 12)] 1 hz0 (by unfold maxLen; decide) rfl, HB0.out.alloc hz0 _⟩
    case round =>
      obtain ⟨k, a, hk, ha, rfl, hown, hb⟩ := hrel
      have HA := Lib.hid ha
      have HO := Lib.hid hown
      have HB := Lib.hid hb
      have hz := hb.size
      clear hown hb
      obtain ⟨hk1, hk2⟩ := HKM.out k
      by_cases hlt : k < m
      · have h4 := hk1 hlt
        have ha4 : a + 4 ≤ n := by omega
        have hst := brandTo_snoc s k
        rw [← ha] at hst
        have HS := Lib.hid hst
        clear hst hk1 hk2 h4 ha
        have hka : k ≤ 100000 := by have := HA.out; omega
        generalize hX : s.extract a (a + 4) = x at *
        have HX := Lib.hid hX
        clear hX
        have k0 := Lib.hid (HO.out.alloc (.cells #[.string x] 9))
        have k1 := Lib.hid (cell_one_new wr (.string x) 9)
        have k2 := Lib.hid (show ∀ v ∈ ([.string x] : List Value), v.oneCell' = true from by intro v hv; simp at hv; subst hv; rfl)
        have k3 := Lib.hid (show k + 1 + 1 ≤ maxLen from by unfold maxLen; omega)
        have k4 := Lib.hid (show (k + 1 + 1) * 16 ≤ 140737488355328 from by omega)
        have k5 := Lib.hid (show w.heap.size ≤ (wr.alloc (.cells #[.string x] 9)).heap.size from by simp; omega)
        have ha0 : a < n := by omega
        go_upto_region 8 with fail
        have hX := HX.out
        subst hX
        go_wp2_with (at_builtin; refine wpList_append_own _ rfl (.tmp 23) (.tmp 29) 54 rfl w.heap.size 9 i0 (.string ByteArray.empty) 1 16 Try.underlying54 HI.out HZ0.out HZ1.out HZ2.out rfl (by decide) _ _ _ rfl k0.out ⟨wr.heap.size, 0, none⟩ 1 1 _ rfl rfl k1.out k2.out k3.out k4.out k5.out ?_; intro v' w1 hown' hg hne; have HO2 := Lib.hid hown'; have HK := Lib.hid (own_grown HB.out HO.out hg); clear hown' hg hne)
        go_roundw
        case rel => exact ⟨k + 1, a + 4, by omega, by have := HA.out; omega, by go_num, by rw [HS.out]; exact HO2.out, HK.out⟩
        case measure => simp [intOf]; omega
      · obtain rfl : k = m := by omega
        have hna := hk2 hlt
        have hna2 : n ≤ a := by omega
        clear hk1 hk2 hna ha
        go_wp2_with fail
        go_ret
        obtain ⟨A, c, rfl, hin⟩ := strs_of_own HO.out (brandTo_length s k).symm
        exact ⟨A, c, by rw [HL.out]; rfl, by rw [HL.out]; exact hin, HB.out⟩

end Go.Proofs.Ythmiadbeiggmlaa
