/-
  Walks of package mp4: the reference's names; whether bytes are a film.
-/
import Derived.Test.YthmiadbeiggmlaaMp4B
namespace Go.Proofs.Ythmiadbeiggmlaa
open Go.RowKit
set_option linter.unusedSimpArgs false
set_option linter.unusedVariables false

set_option maxHeartbeats 1000000 in
set_option maxRecDepth 20000 in
theorem rBrands_any (s : ByteArray) (w : World) (hs : s.size ≤ 100000) :
    Calls Try.prog 39 #[.string s] w (GivesStrs (brandsL s) w) := by
  have hsm : s.size ≤ maxLen := by unfold maxLen; omega
  obtain ⟨i0, hi, hz0, hz1, hz2⟩ := info_parts infoStrT
  have HI := Lib.hid hi; have HZ0 := Lib.hid hz0; have HZ1 := Lib.hid hz1; have HZ2 := Lib.hid hz2
  clear hi hz0 hz1 hz2
  have CB := Lib.hid (fun w => rHead_any s w hsm)
  cases hh : headF s
  · have HL : Hid (brandsL s = []) := Lib.hid (by unfold brandsL; rw [hh]; rfl)
    rw [hh] at CB
    go_enter Try.func39, Try.ntmps39
    go_wp2_with fail
    refine (CB.out _).mono ?_
    rintro e w1 ⟨rfl, hb⟩
    have HB := Lib.hid (below_after hb)
    clear hb
    go_wp2_with fail
    go_ret
    exact ⟨some ⟨w.heap.size, 0, none⟩, 0, by rw [HL.out]; rfl, .inl HL.out, HB.out⟩
  · obtain ⟨h12, hle, hm⟩ := headF_parts hh
    have CS := Lib.hid (fun w => rSize_yes s w (by omega))
    have HL : Hid (brandsL s = brandTo s ((sizeF s - 16) / 4)) := Lib.hid (by unfold brandsL; rw [hh]; rfl)
    rw [hh] at CB
    generalize sizeF s = n at *
    clear hh
    obtain ⟨m, hm2⟩ : ∃ m, (n - 16) / 4 = m := ⟨_, rfl⟩
    rw [hm2] at HL
    have hkm : ∀ k : Nat, (k < m → 16 + 4 * k + 4 ≤ n) ∧ (¬ k < m → n ≤ 16 + 4 * k) := fun k => by omega
    have HKM := Lib.hid hkm
    clear hkm hm2 hm
    go_enter Try.func39, Try.ntmps39
    go_wp2_with fail
    refine (CB.out _).mono ?_
    rintro e w1 ⟨rfl, hb⟩
    have hown0 : (w.alloc (.cells #[] 9)).ownsRow w.heap.size 9 1 (.slice (some ⟨w.heap.size, 0, none⟩) 0 0) 0 [] :=
      World.ownsRow_lit (base := w.heap.size) (e := 9) (size := 1) w #[] 0 (Nat.le_refl _) (Nat.zero_le _) rfl
    have hown1 : w1.ownsRow w.heap.size 9 1 (.slice (some ⟨w.heap.size, 0, none⟩) 0 0) 0 [] := by
      obtain ⟨q1, q2⟩ := hown0
      refine ⟨q1, ?_⟩
      rcases q2 with ⟨q2, _⟩ | ⟨g', cap', cur, q2, q3, q4, q5⟩
      · cases q2
      · have he := q2
        simp only [Value.slice.injEq, Option.some.injEq, Addr.mk.injEq, and_true, true_and] at he
        obtain ⟨rfl, _⟩ := he
        exact .inr ⟨w.heap.size, cap', cur, q2, q3, (hb.block _ (by simp)).trans q4, q5⟩
    have HB := Lib.hid (below_after hb)
    have HO1 := Lib.hid hown1
    have hz1 : w.heap.size < w1.heap.size := by have := hb.size; simp at this; omega
    clear hb hown0 hown1
    generalize hX : s.extract 8 12 = x at *
    have HX := Lib.hid hX
    clear hX
    have k0 := Lib.hid (HO1.out.alloc (.cells #[.string x] 9))
    have k1 := Lib.hid (cell_one_new w1 (.string x) 9)
    have k2 := Lib.hid (show ∀ v ∈ ([.string x] : List Value), v.oneCell' = true from by intro v hv; simp at hv; subst hv; rfl)
    have k3 := Lib.hid (show 0 + 1 ≤ maxLen from by unfold maxLen; omega)
    have k4 := Lib.hid (show (0 + 1) * 16 ≤ 140737488355328 from by omega)
    have k5 := Lib.hid (show w.heap.size ≤ (w1.alloc (.cells #[.string x] 9)).heap.size from by simp; omega)
    go_upto_region 4 with fail
    have hX := HX.out
    subst hX
    go_wp2_with (at_builtin; refine wpList_append_own _ rfl (.tmp 10) (.tmp 13) 54 rfl w.heap.size 9 i0 (.string ByteArray.empty) 1 16 Try.underlying54 HI.out HZ0.out HZ1.out HZ2.out rfl (by decide) _ _ _ rfl k0.out ⟨w1.heap.size, 0, none⟩ 1 1 _ rfl rfl k1.out k2.out k3.out k4.out k5.out ?_; intro v2 w2 hown' hg hne; have HO2 := Lib.hid hown'; have HK := Lib.hid (own_grown HB.out HO1.out hg); clear hown' hg hne)
    clear k0 k1 k2 k3 k4 k5 hz1
    go_loopw [3, 4] (fun v i wr => ∃ k a : Nat, k ≤ m ∧ a = 16 + 4 * k ∧ i = .int .i64 a ∧ wr.ownsRow w.heap.size 9 1 v (k + 1) (rowS (brandTo s k)) ∧ Below w.heap.size w wr) (fun _ i _ => n - (intOf i).toNat)
    case atStart => exact ⟨0, 16, Nat.zero_le _, rfl, rfl, by simpa [rowS, brandTo] using HO2.out, HK.out⟩
    case round =>
      obtain ⟨k, a, hk, ha, rfl, hown, hb⟩ := hrel
      have HA := Lib.hid ha
      have HO := Lib.hid hown
      have HBB := Lib.hid hb
      clear hown hb HO2 HK
      obtain ⟨hk1, hk2⟩ := HKM.out k
      by_cases hlt : k < m
      · have h4 := hk1 hlt
        have ha4 : a + 4 ≤ n := by omega
        have hst := brandTo_snoc s k
        rw [← ha] at hst
        have HS := Lib.hid hst
        clear hst hk1 hk2 h4 ha
        have hka : k ≤ 100000 := by have := HA.out; omega
        have ha0 : a < n := by omega
        go_upto_region 8 with (go_at_call 34; refine (CS.out _).mono ?_; rintro e w' ⟨rfl, hd⟩)
        obtain ⟨wq, rfl⟩ : ∃ wq : World, wq = w' := ⟨_, rfl⟩
        have hown3 : wq.ownsRow w.heap.size 9 1 u3 (k + 1) (rowS (brandTo s k)) := by obtain ⟨d, rfl⟩ := hd; exact HO.out
        have HO3 := Lib.hid hown3
        have HB3 := Lib.hid (HBB.out.trans (hd.below _))
        have hz := HB3.out.size
        clear hown3 hd
        generalize hX : s.extract a (a + 4) = x at *
        have HX := Lib.hid hX
        clear hX
        have k0 := Lib.hid (HO3.out.alloc (.cells #[.string x] 9))
        have k1 := Lib.hid (cell_one_new wq (.string x) 9)
        have k2 := Lib.hid (show ∀ v ∈ ([.string x] : List Value), v.oneCell' = true from by intro v hv; simp at hv; subst hv; rfl)
        have k3 := Lib.hid (show k + 1 + 1 ≤ maxLen from by unfold maxLen; omega)
        have k4 := Lib.hid (show (k + 1 + 1) * 16 ≤ 140737488355328 from by omega)
        have k5 := Lib.hid (show w.heap.size ≤ (wq.alloc (.cells #[.string x] 9)).heap.size from by simp; omega)
        have hX := HX.out
        subst hX
        go_wp2_with (at_builtin; refine wpList_append_own _ rfl (.tmp 21) (.tmp 27) 54 rfl w.heap.size 9 i0 (.string ByteArray.empty) 1 16 Try.underlying54 HI.out HZ0.out HZ1.out HZ2.out rfl (by decide) _ _ _ rfl k0.out ⟨wq.heap.size, 0, none⟩ 1 1 _ rfl rfl k1.out k2.out k3.out k4.out k5.out ?_; intro v' w1 hown' hg hne; have HO2 := Lib.hid hown'; have HK := Lib.hid (own_grown HB3.out HO3.out hg); clear hown' hg hne)
        go_roundw
        case rel => exact ⟨k + 1, a + 4, by omega, by have := HA.out; omega, by go_num, by rw [HS.out]; exact HO2.out, HK.out⟩
        case measure => simp [intOf]; omega
      · obtain rfl : k = m := by omega
        have hna := hk2 hlt
        have hna2 : n ≤ a := by omega
        clear hk1 hk2 hna ha
        go_wp2_with (go_at_call 34; refine (CS.out _).mono ?_; rintro e w' ⟨rfl, hd⟩)
        go_ret
        obtain ⟨A, c, rfl, hin⟩ := strs_of_own HO.out (brandTo_length s k).symm
        exact ⟨A, c, by rw [HL.out]; rfl, by rw [HL.out]; exact hin.below (hd.below _), HBB.out.trans (hd.below _)⟩

/-- A name of a film. -/
def mpB (x : ByteArray) : Bool := Lib.hasPrefix x.data.toList [109, 112, 52]

theorem fnMp : FnStr 66 mpB := by
  refine ⟨fun args w => MuLone.run_callFunc_enter Try.func66 (by kernel_rfl) rfl args w, fun x w => ?_⟩
  unfold mpB
  go_enter Try.func66, Try.ntmps66
  go_wp2_with (go_at_call 67; refine (Try.strings_HasPrefix x ⟨#[109, 112, 52]⟩ _).mono ?_; rintro e w' ⟨rfl, rfl⟩)
  go_ret
  exact ⟨rfl, rfl⟩

theorem brandsL_length (s : ByteArray) : (brandsL s).length ≤ s.size + 1 := by
  unfold brandsL
  split
  · rename_i h
    obtain ⟨h1, h2, h3⟩ := headF_parts h
    rw [brandTo_length]; omega
  · simp

theorem brandsL_size (s : ByteArray) : ∀ i (h : i < (brandsL s).length), (brandsL s)[i].size = 4 := by
  have : ∀ x ∈ brandsL s, x.size = 4 := by
    unfold brandsL
    split
    · rename_i h
      obtain ⟨h1, h2, h3⟩ := headF_parts h
      intro x hx
      unfold brandTo at hx
      rcases List.mem_cons.1 hx with rfl | hx
      · rw [extract_size]; omega
      · obtain ⟨i, hi, rfl⟩ := List.mem_map.1 hx
        rw [List.mem_range] at hi
        rw [extract_size]; omega
    · intro x hx; cases hx
  exact fun i h => this _ (List.getElem_mem h)

/-- Bytes are a film. -/
def isF (s : ByteArray) : Bool := (brandsL s).any mpB

theorem Is_any (s : ByteArray) (w : World) (hs : s.size ≤ 100000) :
    Calls Try.prog 30 #[.string s] w fun e w' => e = .returned (.bool (isF s)) ∧ Below w.heap.size w w' := by
  have hl := brandsL_length s
  have hlm : (brandsL s).length ≤ maxLen := by unfold maxLen; omega
  have HI : Hid (isF s = (brandsL s).any mpB) := Lib.hid rfl
  have HC := Lib.hid (brands_any s w hs)
  generalize brandsL s = l at *
  go_enter Try.func30, Try.ntmps30
  go_wp2_with fail
  refine HC.out.mono ?_
  rintro e w1 ⟨A, c, rfl, hin, hb⟩
  go_wp2_with (go_at_call 64; refine (containsFunc_strs _ mpB fnMp l A c _ hlm hin).mono ?_; rintro e w' ⟨rfl, rfl⟩)
  go_ret
  exact ⟨ret_bool HI.out.symm, hb⟩

theorem mpB_cut (x : ByteArray) (h : x.size = 4) : ((x.extract 0 3).toList == [109, 112, 52]) = mpB x := by
  unfold mpB Lib.hasPrefix
  rw [Lib.toList_data]
  have e : (x.extract 0 3).data.toList = x.data.toList.take 3 := by simp
  rw [e]
  rw [Lib.size_eq] at h
  match hx : x.data.toList, h with
  | [a, b, c, d], _ =>
    rw [Bool.eq_iff_iff]
    simp [List.isPrefixOf]
    constructor
    · rintro ⟨h1, h2, h3⟩; exact ⟨h1.symm, h2.symm, h3.symm⟩
    · rintro ⟨h1, h2, h3⟩; exact ⟨h1.symm, h2.symm, h3.symm⟩

set_option maxRecDepth 20000 in
theorem rIs_any (s : ByteArray) (w : World) (hs : s.size ≤ 100000) :
    Calls Try.prog 37 #[.string s] w fun e w' => e = .returned (.bool (isF s)) ∧ Below w.heap.size w w' := by
  have hl := brandsL_length s
  have hl2 := brandsL_size s
  have HI : Hid (isF s = (brandsL s).any mpB) := Lib.hid rfl
  have HC := Lib.hid (rBrands_any s w hs)
  generalize brandsL s = l at *
  have HL2 := Lib.hid hl2
  clear hl2
  go_enter Try.func37, Try.ntmps37
  go_wp2_with fail
  refine HC.out.mono ?_
  rintro e w1 ⟨A, c, rfl, hin, hb⟩
  have HB := Lib.hid hb
  have HA := Lib.hid hin
  clear hb hin
  go_wp2_with fail
  go_loop [4] (fun i => ∃ n : Nat, n ≤ l.length ∧ i = .int .i64 n ∧ (l.take n).any mpB = false) (fun i => l.length - (intOf i).toNat)
  case atStart => exact ⟨0, Nat.zero_le _, rfl, rfl⟩
  case round =>
    obtain ⟨n, hn', rfl, hp⟩ := hrel
    have HP := Lib.hid hp; clear hp
    by_cases hlt : n < l.length
    · rcases HA.out with hnil | ⟨g, off, rfl, hg, hcs⟩
      · rw [hnil] at hlt; simp at hlt
      have c0 := hcs n hlt
      have HS := Lib.hid (any_take mpB l n hlt)
      have hx4 := HL2.out n hlt
      have hxm := mpB_cut l[n] hx4
      clear hcs
      generalize l[n] = x at *
      have h3x : (3 : Int) ≤ (x.size : Int) := by omega
      cases hx : mpB x
      · rw [hx] at hxm
        have HX := Lib.hid hx; clear hx
        go_wp2_with fail
        go_round
        case rel => exact ⟨n + 1, by omega, by go_num, by rw [HS.out, HP.out, HX.out]; rfl⟩
        case measure => simp [intOf]; omega
      · rw [hx] at hxm
        have HX := Lib.hid hx; clear hx
        go_wp2_with fail
        go_ret
        refine ⟨ret_bool ?_, HB.out⟩
        have h1 : l.any mpB = true := by
          rw [← List.take_append_drop (n + 1) l, List.any_append, HS.out, HX.out]
          simp
        rw [HI.out, h1]
    · obtain rfl : n = l.length := by omega
      go_wp2_with fail
      go_ret
      refine ⟨ret_bool ?_, HB.out⟩
      have := HP.out
      rw [List.take_length] at this
      rw [HI.out, this]

theorem Brands_any (s : ByteArray) (w : World) (hs : s.size ≤ 100000) : Calls Try.prog 32 #[.string s] w (GivesStrs (brandsL s) w) := by
  go_enter Try.func32, Try.ntmps32
  go_wp2_with fail
  refine (brands_any s w hs).mono ?_
  rintro e w1 ⟨A, c, rfl, hin, hb⟩
  go_wp2_with fail
  go_ret
  exact ⟨A, c, rfl, hin, hb⟩

theorem Size_yes (s : ByteArray) (w : World) (h4 : 4 ≤ s.size) (hs : s.size ≤ maxLen) :
    Calls Try.prog 33 #[.string s] w fun e w' => e = .returned (.tuple #[.int .i64 (sizeF s), .bool true]) ∧ Below w.heap.size w w' := by
  go_enter Try.func33, Try.ntmps33
  go_wp2_with (go_at_call 68; refine (size_yes _ _ h4 hs).mono ?_; rintro e w' ⟨rfl, hb⟩)
  go_ret2
  exact ⟨rfl, hb⟩

theorem Size_no (s : ByteArray) (w : World) (h4 : s.size < 4) :
    Calls Try.prog 33 #[.string s] w fun e w' => e = .returned (.tuple #[.int .i64 0, .bool false]) ∧ Below w.heap.size w w' := by
  go_enter Try.func33, Try.ntmps33
  go_wp2_with (go_at_call 68; refine (size_no _ _ h4).mono ?_; rintro e w' ⟨rfl, hb⟩)
  go_ret2
  exact ⟨rfl, hb⟩

set_option maxRecDepth 20000 in
theorem lives16_any (w : World) :
    Calls Try.prog 31 #[] w fun e w' => e = .returned (.bool true) ∧ Below w.heap.size w w' := by
  have H1 : isF ⟨#[0, 0, 0, 12, 102, 116, 121, 112, 109, 112, 52, 50]⟩ = true := by decide +kernel
  have H2 : isF ⟨#[0, 0, 0, 12, 102, 116, 121, 112, 109, 113, 52, 50]⟩ = false := by decide +kernel
  have H3 : headF ⟨#[0, 0, 0, 12, 102, 116, 121, 112, 109, 113, 52, 50]⟩ = true := by decide +kernel
  have C1 := fun w => Is_any ⟨#[0, 0, 0, 12, 102, 116, 121, 112, 109, 112, 52, 50]⟩ w (by decide)
  have C2 := fun w => Is_any ⟨#[0, 0, 0, 12, 102, 116, 121, 112, 109, 113, 52, 50]⟩ w (by decide)
  have C3 := fun w => Head_any ⟨#[0, 0, 0, 12, 102, 116, 121, 112, 109, 113, 52, 50]⟩ w (by unfold maxLen; decide)
  rw [H1] at C1
  rw [H2] at C2
  rw [H3] at C3
  have D1 := Lib.hid C1
  have D2 := Lib.hid C2
  have D3 := Lib.hid C3
  clear H1 H2 H3 C1 C2 C3
  have hb := Below.refl w.heap.size w
  go_enter Try.func31, Try.ntmps31
  go_wp2_with (first | (go_at_call 30; (with_reducible refine (D1.out _).mono ?_); rintro e w' ⟨rfl, hb2⟩; replace hb := below_trans hb hb2; clear hb2) | (go_at_call 30; (with_reducible refine (D2.out _).mono ?_); rintro e w' ⟨rfl, hb2⟩; replace hb := below_trans hb hb2; clear hb2) | (go_at_call 35; (with_reducible refine (D3.out _).mono ?_); rintro e w' ⟨rfl, hb2⟩; replace hb := below_trans hb hb2; clear hb2))
  go_ret
  exact ⟨rfl, hb⟩

end Go.Proofs.Ythmiadbeiggmlaa
