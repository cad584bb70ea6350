/-
  Walks of package quoted: Read; the reference's Read.
-/
import Derived.Test.YtigclegknofhmaaQuoB
import Derived.Test.YtigclegknofhmaaTrapVStr
namespace Go.Proofs.Ytigclegknofhmaa
open Go.RowKit
set_option linter.unusedSimpArgs false
set_option linter.unusedVariables false

theorem entersRead1 : Enters 36 := fun args w => MuLone.run_callFunc_enter Try.func36 (by kernel_rfl) rfl args w
theorem entersVStrQ : Enters 39 := fun args w => MuLone.run_callFunc_enter Try.func39 (by kernel_rfl) rfl args w

theorem Read1_gives (g b : Nat) (s : ByteArray) (w : World) (h : Cur w g s 0) (hb : w.cell? ⟨b, 0, none⟩ = some (.pointer (some ⟨g, 0, none⟩))) (hk : 0 < s.size) (hq : s[0] = 34) (hs : s.size ≤ 100000) :
    Calls Try.prog 36 #[.pointer (some ⟨b, 0, none⟩)] w fun e w' => e = .returned (.string ⟨(readL (dropB s 1)).1.toArray⟩) ∧ Moved g s (1 + (readL (dropB s 1)).2) w w' := by
  have C : Hid (Calls Try.prog 37 #[.pointer (some ⟨g, 0, none⟩), .bool true] w fun e w' => e = .returned (.string ⟨(readL (dropB s 1)).1.toArray⟩) ∧ Moved g s (1 + (readL (dropB s 1)).2) w w') := Lib.hid (by
    have := Collect_gives g s 0 true w h hk hq hs
    simpa [takenB] using this)
  generalize readL (dropB s 1) = R at *
  clear h
  go_enter Try.func36, Try.ntmps36
  go_wp2_with fail
  refine C.out.mono ?_
  rintro e w1 ⟨rfl, hm⟩
  have HM := Lib.hid hm
  clear hm
  go_wp2_with fail
  go_ret
  exact ⟨rfl, HM.out⟩

theorem Read1_throws (g b : Nat) (s : ByteArray) (w : World) (h : Cur w g s 0) (hb : w.cell? ⟨b, 0, none⟩ = some (.pointer (some ⟨g, 0, none⟩))) (hq : ∀ (hlt : 0 < s.size), s[0] ≠ 34) (hs : s.size ≤ 100000) :
    Calls Try.prog 36 #[.pointer (some ⟨b, 0, none⟩)] w fun e w' => e = .panicked [{ v := faultV 0 2, recovered := false }] ∧ Moved g s 0 w w' := by
  have C := Lib.hid (Collect_throws g s 0 true w h (Nat.zero_le _) hq hs)
  clear h
  go_enter Try.func36, Try.ntmps36
  go_wp2_with (go_at_call 37; refine C.out.mono ?_; rintro e w1 ⟨rfl, hm⟩)
  exact ⟨rfl, rfl, hm⟩

set_option maxHeartbeats 1000000 in
set_option maxRecDepth 20000 in
theorem Read_yes (s : ByteArray) (w : World) (hk : 0 < s.size) (hq : s[0] = 34) (hs : s.size ≤ 100000) :
    Calls Try.prog 9 #[.string s] w fun e w' => e = .returned (.tuple #[.string ⟨(readL (dropB s 1)).1.toArray⟩, .int .i64 ((1 + (readL (dropB s 1)).2 : Nat) : Int), .int .i64 0]) ∧ Below w.heap.size w w' := by
  have hmf : ∀ (fn : Fn) (first cap : Array Value) (w : World), (Instr.makeFunc fn first cap).run Try.prog w = .ok (.func fn first cap) w := fun _ _ _ _ => rfl
  have HR := Lib.hid (fun (g b : Nat) (w : World) (h : Cur w g s 0) (hb : w.cell? ⟨b, 0, none⟩ = some (.pointer (some ⟨g, 0, none⟩))) => Read1_gives g b s w h hb hk hq hs)
  generalize readL (dropB s 1) = R at *
  obtain ⟨m, hm⟩ : ∃ m, 1 + R.2 = m := ⟨_, rfl⟩
  rw [hm] at HR ⊢
  clear hm hq hk
  go_enter Try.func9, Try.ntmps9
  go_wp2_with (go_at_call 10; refine (New_any _ _).mono ?_; rintro e w' ⟨rfl, rfl⟩)
  generalize hW : (w.alloc (.cells #[.string s, .int .i64 0] 64)).alloc (.cells #[.pointer (some ⟨w.heap.size, 0, none⟩)] 26) = W
  have z0 : W.heap.size = w.heap.size + 2 := by rw [← hW]; simp
  have hc : Cur W w.heap.size s 0 := by rw [← hW]; exact (Cur.new w s).alloc _
  have hb : W.cell? ⟨w.heap.size + 1, 0, none⟩ = some (.pointer (some ⟨w.heap.size, 0, none⟩)) := by rw [← hW]; simp [go_sem]
  have hB : Below w.heap.size w W := by rw [← hW]; exact (below_box w _).alloc (by simp) _
  clear hW
  refine (valueStr_gives 36 #[] #[.pointer (some ⟨w.heap.size + 1, 0, none⟩)] ⟨R.1.toArray⟩ W.heap.size (Moved w.heap.size s m W) W entersRead1 entersVStrQ (Nat.le_refl _) (Moved.stays hc.lt) ?_).mono ?_
  · intro w1 h1
    rw [Array.empty_append]
    refine (HR.out w.heap.size (w.heap.size + 1) w1 (hc.below h1 hc.lt) (by rw [cell_below h1 (by omega)]; exact hb)).mono ?_
    rintro e w' ⟨rfl, hmv⟩
    exact ⟨rfl, hmv.2.keeps (by omega), ⟨hmv.1, (But.of_below h1).trans hmv.2⟩⟩
  rintro e w2 ⟨rfl, _, hmv⟩
  have r1 : w2.cell? ⟨w.heap.size + 1, 0, none⟩ = some (.pointer (some ⟨w.heap.size, 0, none⟩)) := by rw [hmv.2.cell (by omega) (by omega)]; exact hb
  have z2 : w.heap.size + 1 < w2.heap.size := by have := hmv.2.size; omega
  have HC := Lib.hid (hmv.1.alloc (.cells #[.int .i64 0, .int .i64 0] 29))
  have HB := Lib.hid (hB.trans (hmv.2.below (Nat.le_refl _) (by omega)))
  clear hmv hb hc hB z0
  go_wp2_with (go_at_call 15; refine (At_any _ s m _ HC.out).mono ?_; rintro e w' ⟨rfl, rfl⟩)
  go_ret3
  exact ⟨rfl, HB.out.alloc HB.out.size _⟩

set_option maxHeartbeats 1000000 in
set_option maxRecDepth 20000 in
theorem Read_no (s : ByteArray) (w : World) (hq : ∀ (hlt : 0 < s.size), s[0] ≠ 34) (hs : s.size ≤ 100000) :
    Calls Try.prog 9 #[.string s] w fun e w' => e = .returned (.tuple #[.string ⟨#[]⟩, .int .i64 0, .int .i64 2]) ∧ Below w.heap.size w w' := by
  have hmf : ∀ (fn : Fn) (first cap : Array Value) (w : World), (Instr.makeFunc fn first cap).run Try.prog w = .ok (.func fn first cap) w := fun _ _ _ _ => rfl
  have HR := Lib.hid (fun (g b : Nat) (w : World) (h : Cur w g s 0) (hb : w.cell? ⟨b, 0, none⟩ = some (.pointer (some ⟨g, 0, none⟩))) => Read1_throws g b s w h hb hq hs)
  clear hq
  go_enter Try.func9, Try.ntmps9
  go_wp2_with (go_at_call 10; refine (New_any _ _).mono ?_; rintro e w' ⟨rfl, rfl⟩)
  generalize hW : (w.alloc (.cells #[.string s, .int .i64 0] 64)).alloc (.cells #[.pointer (some ⟨w.heap.size, 0, none⟩)] 26) = W
  have z0 : W.heap.size = w.heap.size + 2 := by rw [← hW]; simp
  have hc : Cur W w.heap.size s 0 := by rw [← hW]; exact (Cur.new w s).alloc _
  have hb : W.cell? ⟨w.heap.size + 1, 0, none⟩ = some (.pointer (some ⟨w.heap.size, 0, none⟩)) := by rw [← hW]; simp [go_sem]
  have hB : Below w.heap.size w W := by rw [← hW]; exact (below_box w _).alloc (by simp) _
  clear hW
  refine (valueStr_throws 36 #[] #[.pointer (some ⟨w.heap.size + 1, 0, none⟩)] 0 2 W.heap.size (Moved w.heap.size s 0 W) W entersRead1 entersVStrQ (Nat.le_refl _) (Moved.stays hc.lt) ?_).mono ?_
  · intro w1 h1
    rw [Array.empty_append]
    refine (HR.out w.heap.size (w.heap.size + 1) w1 (hc.below h1 hc.lt) (by rw [cell_below h1 (by omega)]; exact hb)).mono ?_
    rintro e w' ⟨rfl, hmv⟩
    exact ⟨rfl, hmv.2.keeps (by omega), ⟨hmv.1, (But.of_below h1).trans hmv.2⟩⟩
  rintro e w2 ⟨rfl, _, hmv⟩
  have z2 : w.heap.size + 1 < w2.heap.size := by have := hmv.2.size; omega
  have HB := Lib.hid (hB.trans (hmv.2.below (Nat.le_refl _) (by omega)))
  clear hmv hb hc hB z0
  go_wp2_with fail
  go_quiet (fail)
  go_wp2_with fail
  go_ret3
  exact ⟨rfl, below_drewN (HB.out.alloc HB.out.size _) _⟩

/-- One byte as a text. -/
theorem one_text {P : Program} (src dst e : TypeId) (b : UInt8) (hs : P.underlying src = some (.slice e)) (he : P.underlying e = some (.int .u8)) (hd : P.underlying dst = some .string) (w : World) :
    (convert src dst (.slice (some ⟨w.heap.size, 0, none⟩) 1 1)).run P (w.alloc (.cells #[.int .u8 (b.toNat : Int)] e)) = .ok (.string ⟨#[b]⟩) (w.alloc (.cells #[.int .u8 (b.toNat : Int)] e)) := by
  refine run_convert_bytes_back (w.alloc (.cells #[.int .u8 (b.toNat : Int)] e)) src dst e ⟨w.heap.size, 0, none⟩ 1 [b] hs he hd ?_
  intro j hj
  simp at hj
  subst hj
  simp [go_sem, Addr.add]

set_option maxHeartbeats 2000000 in
set_option maxRecDepth 20000 in
theorem rRead_any (s : ByteArray) (w : World) (hk : 0 < s.size) (hs : s.size ≤ 100000) :
    Calls Try.prog 14 #[.string s] w fun e w' => e = .returned (.tuple #[.string ⟨(readL (dropB s 1)).1.toArray⟩, .int .i64 ((1 + (readL (dropB s 1)).2 : Nat) : Int)]) ∧ Below w.heap.size w w' := by
  generalize hR : readL (dropB s 1) = R at *
  have HR := Lib.hid hR
  clear hR
  go_enter Try.func14, Try.ntmps14
  go_wp2_with fail
  go_loopw [4, 5] (fun t i wr => ∃ (m : Nat) (T : List UInt8), 1 ≤ m ∧ m ≤ s.size ∧ T ++ (readL (dropB s m)).1 = R.1 ∧ m + (readL (dropB s m)).2 = 1 + R.2 ∧ T.length ≤ m ∧ i = .int .i64 m ∧ t = .string ⟨T.toArray⟩ ∧ Below w.heap.size w wr) (fun _ i _ => s.size - (intOf i).toNat)
  case atStart => exact ⟨1, [], Nat.le_refl _, hk, by rw [HR.out]; rfl, by rw [HR.out], by simp, rfl, rfl, Below.refl _ _⟩
  case round =>
    obtain ⟨m, T, hm1, hms, h1, h2, hTm, rfl, rfl, hb⟩ := hrel
    have H1 := Lib.hid h1
    have H2 := Lib.hid h2
    have HB := Lib.hid hb
    have hTs : (⟨T.toArray⟩ : ByteArray).size ≤ 100000 := by rw [Lib.size_eq]; simp; omega
    clear h1 h2 hb
    by_cases hlt : m < s.size
    · have hidx := fun w => index_byte 9 Try.underlying9 s m hlt w
      have HX := Lib.hid (dropB_cons s m hlt)
      have hconv := fun (b : UInt8) => one_text (P := Try.prog) 68 9 5 b Try.underlying68 Try.underlying5 Try.underlying9 wr
      have hsnoc : ∀ b : UInt8, (⟨T.toArray⟩ : ByteArray) ++ ⟨#[b]⟩ = ⟨(T ++ [b]).toArray⟩ := fun b => by
        apply ByteArray.ext
        rw [ByteArray.data_append]
        simp
      have HSN := Lib.hid hsnoc
      clear hsnoc
      by_cases h34 : s[m] = 34
      · have HE : Hid (T = R.1 ∧ m + 1 = 1 + R.2) := Lib.hid (by
          have a := H1.out
          have b := H2.out
          rw [HX.out, h34, readL_quote] at a b
          simp at a b
          exact ⟨a, by omega⟩)
        rw [h34] at hidx
        have e34 : ((34 : UInt8).toNat : Int) = 34 := rfl
        rw [e34] at hidx
        clear h34 hconv
        go_wp2
        go_ret2
        rw [← HE.out.1, ← HE.out.2]
        exact ⟨rfl, HB.out⟩
      · have hn34 : ((s[m].toNat : Int) == 34) = false := by
          rw [beq_eq_false_iff_ne]
          intro h
          apply h34
          exact UInt8.toNat_inj.1 (by have : (34 : UInt8).toNat = 34 := rfl; omega)
        by_cases h92 : s[m] = 92
        · by_cases hlt2 : m + 1 < s.size
          · have HX2 := Lib.hid (dropB_cons s (m + 1) hlt2)
            have hidx2 : ∀ w : World, (Instr.index 9 (.string s) (.int .i64 ((m : Int) + 1))).run Try.prog w = .ok (.int .u8 (s[m + 1].toNat : Int)) w := fun w => index_byte 9 Try.underlying9 s (m + 1) hlt2 w
            have HE : Hid ((T ++ [s[m + 1]]) ++ (readL (dropB s (m + 1 + 1))).1 = R.1 ∧ (m + 1 + 1) + (readL (dropB s (m + 1 + 1))).2 = 1 + R.2) := Lib.hid (by
              have a := H1.out
              have b := H2.out
              rw [HX.out, HX2.out, h92, readL_slash] at a b
              simp at a b ⊢
              exact ⟨a, by omega⟩)
            rw [h92] at hidx
            have e92 : ((92 : UInt8).toNat : Int) = 92 := rfl
            rw [e92] at hidx
            clear h92 h34 hn34
            have hcv := hconv s[m + 1]
            have hsz1 : (⟨#[s[m + 1]]⟩ : ByteArray).size = 1 := rfl
            have HS2 := Lib.hid (HSN.out s[m + 1])
            generalize s[m + 1] = c at *
            clear hconv
            generalize (⟨T.toArray⟩ : ByteArray) = tb at *
            generalize hcb : (⟨#[c]⟩ : ByteArray) = cb at *
            clear hcb
            go_wp2
            go_roundw
            case rel => exact ⟨m + 1 + 1, T ++ [c], by omega, by omega, HE.out.1, HE.out.2, by simp; omega, by go_num, by rw [HS2.out], HB.out.alloc HB.out.size _⟩
            case measure => simp [intOf]; omega
          · have hend : m + 1 = s.size := by omega
            have HE : Hid ((T ++ [92]) ++ (readL (dropB s (m + 1))).1 = R.1 ∧ (m + 1) + (readL (dropB s (m + 1))).2 = 1 + R.2) := Lib.hid (by
              have a := H1.out
              have b := H2.out
              rw [HX.out, h92, hend, dropB_end, readL_slash_end] at a b
              rw [hend, dropB_end]
              simp [readL] at a b ⊢
              exact ⟨a, by omega⟩)
            have hnlt : decide ((m : Int) + 1 < (s.size : Int)) = false := decide_eq_false (by omega)
            rw [h92] at hidx
            have e92 : ((92 : UInt8).toNat : Int) = 92 := rfl
            rw [e92] at hidx
            clear h92 h34 hn34 hlt2 hend
            have hcv := hconv 92
            rw [e92] at hcv
            have hsz1 : (⟨#[92]⟩ : ByteArray).size = 1 := rfl
            have HS2 := Lib.hid (HSN.out 92)
            clear hconv e92
            generalize (⟨T.toArray⟩ : ByteArray) = tb at *
            generalize hcb : (⟨#[92]⟩ : ByteArray) = cb at *
            clear hcb
            go_wp2
            go_roundw
            case rel => exact ⟨m + 1, T ++ [92], by omega, by omega, HE.out.1, HE.out.2, by simp; omega, by go_num, by rw [HS2.out], HB.out.alloc HB.out.size _⟩
            case measure => simp [intOf]; omega
        · have HE : Hid ((T ++ [s[m]]) ++ (readL (dropB s (m + 1))).1 = R.1 ∧ (m + 1) + (readL (dropB s (m + 1))).2 = 1 + R.2) := Lib.hid (by
            have a := H1.out
            have b := H2.out
            rw [HX.out, readL_plain _ _ h34 h92] at a b
            simp at a b ⊢
            exact ⟨a, by omega⟩)
          have hn92 : ((s[m].toNat : Int) == 92) = false := by
            rw [beq_eq_false_iff_ne]
            intro h
            apply h92
            exact UInt8.toNat_inj.1 (by have : (92 : UInt8).toNat = 92 := rfl; omega)
          have hcv := hconv s[m]
          have hsz1 : (⟨#[s[m]]⟩ : ByteArray).size = 1 := rfl
          have HS2 := Lib.hid (HSN.out s[m])
          clear hconv h34 h92 HX
          generalize s[m] = c at *
          generalize (⟨T.toArray⟩ : ByteArray) = tb at *
          generalize hcb : (⟨#[c]⟩ : ByteArray) = cb at *
          clear hcb
          go_wp2
          go_roundw
          case rel => exact ⟨m + 1, T ++ [c], by omega, by omega, HE.out.1, HE.out.2, by simp; omega, by go_num, by rw [HS2.out], HB.out.alloc HB.out.size _⟩
          case measure => simp [intOf]; omega
    · obtain rfl : m = s.size := by omega
      have HE : Hid (T = R.1 ∧ s.size = 1 + R.2) := Lib.hid (by
        have a := H1.out
        have b := H2.out
        rw [dropB_end] at a b
        simp [readL] at a b
        exact ⟨a, b⟩)
      go_wp2
      go_ret2
      rw [← HE.out.1, ← HE.out.2]
      exact ⟨rfl, HB.out⟩

end Go.Proofs.Ytigclegknofhmaa
