/-
  Walks: the reference's boxes; that both are the same; a box that is laid.
-/
import Derived.Test.YthmiadbeiggmlaaMp4E
namespace Go.Proofs.Ythmiadbeiggmlaa
open Go.RowKit
set_option linter.unusedSimpArgs false
set_option linter.unusedVariables false

set_option maxHeartbeats 1000000 in
set_option maxRecDepth 20000 in
theorem rBoxes_any (s : ByteArray) (w : World) (hs : s.size ≤ 100000) :
    Calls Try.prog 73 #[.string s] w (GivesBox (boxL s) (endN s) w) := by
  obtain ⟨i0, hi, hz0, hz1, hz2⟩ := info_parts infoBox
  have HI := Lib.hid hi; have HZ0 := Lib.hid hz0; have HZ1 := Lib.hid hz1; have HZ2 := Lib.hid hz2
  clear hi hz0 hz1 hz2
  go_enter Try.func73, Try.ntmps73
  go_wp2_with fail
  go_loopw [4, 5] (fun v i wr => ∃ (D : List (ByteArray × Nat)) (a : Nat), a ≤ s.size ∧ i = .int .i64 a ∧ wr.ownsRow w.heap.size 91 2 v D.length (rowB D) ∧ D ++ boxL (s.extract a s.size) = boxL s ∧ a + endN (s.extract a s.size) = endN s ∧ D.length ≤ a ∧ Below w.heap.size w wr) (fun _ i _ => s.size - (intOf i).toNat)
  case atStart => exact ⟨[], 0, Nat.zero_le _, rfl, World.ownsRow_lit (base := w.heap.size) (e := 91) (size := 2) w #[] 0 (Nat.le_refl _) (Nat.zero_le _) rfl, by rw [extract_all]; rfl, by rw [extract_all]; omega, Nat.zero_le _, below_box _ _⟩
  case round =>
    obtain ⟨D, a, ha, rfl, hown, h1, h2, hDa, hb⟩ := hrel
    have HO := Lib.hid hown
    have HB := Lib.hid hb
    have H1 := Lib.hid h1
    have H2 := Lib.hid h2
    have hrz : (s.extract a s.size).size = s.size - a := by rw [extract_size]; omega
    have hz := hb.size
    clear hown h1 h2 hb
    cases hw : wholeX (s.extract a s.size)
    · obtain ⟨e1, e2⟩ := box_none hw
      have HE : Hid (D = boxL s ∧ a = endN s) := Lib.hid ⟨by have := H1.out; rw [e1, List.append_nil] at this; exact this, by have := H2.out; rw [e2] at this; omega⟩
      by_cases h8 : 8 ≤ (s.extract a s.size).size
      · have HC := Lib.hid (fun w => rSize_yes (s.extract a s.size) w (by omega))
        have hbad : sizeF (s.extract a s.size) < 8 ∨ s.size - a < sizeF (s.extract a s.size) := by
          unfold wholeX at hw
          rw [decide_eq_true h8, Bool.true_and, Bool.and_eq_false_iff, decide_eq_false_iff_not, decide_eq_false_iff_not] at hw
          omega
        generalize sizeF (s.extract a s.size) = n at *
        clear hw e1 e2 H1 H2
        have ha8 : a + 8 ≤ s.size := by omega
        clear hrz h8
        rcases hbad with hbad | hbad
        · go_wp2_with fail
          refine (HC.out _).mono ?_
          rintro e w1 ⟨rfl, hd⟩
          have HO2 := Lib.hid (own_below2 HO.out (hd.below _))
          have HB2 := Lib.hid (HB.out.trans (hd.below _))
          clear hd
          go_wp2_with fail
          go_ret2
          obtain ⟨A, c, rfl, hin⟩ := boxes_of_own HO2.out rfl
          obtain ⟨rfl, rfl⟩ := HE.out
          exact ⟨A, c, rfl, hin, HB2.out⟩
        · by_cases hn8 : n < 8
          · exact absurd hn8 (by omega)
          · have hbad2 : (s.size : Int) - (a : Int) < (n : Int) := by omega
            clear hbad
            go_wp2_with fail
            refine (HC.out _).mono ?_
            rintro e w1 ⟨rfl, hd⟩
            have HO2 := Lib.hid (own_below2 HO.out (hd.below _))
            have HB2 := Lib.hid (HB.out.trans (hd.below _))
            clear hd
            go_wp2_with fail
            go_ret2
            obtain ⟨A, c, rfl, hin⟩ := boxes_of_own HO2.out rfl
            obtain ⟨rfl, rfl⟩ := HE.out
            exact ⟨A, c, rfl, hin, HB2.out⟩
      · have hlt8 : (s.size : Int) - (a : Int) < 8 := by omega
        clear hw e1 e2 H1 H2 h8 hrz
        go_wp2_with fail
        go_ret2
        obtain ⟨A, c, rfl, hin⟩ := boxes_of_own HO.out rfl
        obtain ⟨rfl, rfl⟩ := HE.out
        exact ⟨A, c, rfl, hin, HB.out⟩
    · obtain ⟨p1, p2, p3⟩ := wholeX_parts hw
      have HC := Lib.hid (fun w => rSize_yes (s.extract a s.size) w (by omega))
      obtain ⟨e1, e2⟩ := box_whole hw
      rw [rest_rest s a _ (by omega)] at e1 e2
      rw [rest_name s a (by omega)] at e1
      generalize sizeF (s.extract a s.size) = n at *
      have han : a + n ≤ s.size := by omega
      have ha8 : a + 8 ≤ s.size := by omega
      have HE1 := Lib.hid e1
      have HE2 := Lib.hid e2
      clear hw e1 e2 hrz p1 p3
      obtain ⟨x, hx⟩ : ∃ x, s.extract (a + 4) (a + 8) = x := ⟨_, rfl⟩
      rw [hx] at HE1
      go_wp2_with fail
      refine (HC.out _).mono ?_
      rintro e w1 ⟨rfl, hd⟩
      have HO2 := Lib.hid (own_below2 HO.out (hd.below _))
      have HB2 := Lib.hid (HB.out.trans (hd.below _))
      have z1 : w.heap.size ≤ w1.heap.size := by have := (hd.below 0).size; omega
      clear hd
      have k0 := Lib.hid (HO2.out.alloc (.cells #[.string x, .int .i64 n] 91))
      have k1 := Lib.hid (box_cells_new w1 (x, n) 91)
      have k2 := Lib.hid (show ∀ v ∈ boxCells (x, n), v.oneCell' = true from by intro v hv; simp [boxCells] at hv; rcases hv with rfl | rfl <;> rfl)
      have k3 := Lib.hid (show D.length + 1 ≤ maxLen from by unfold maxLen; omega)
      have k4 := Lib.hid (show (D.length + 1) * 24 ≤ 140737488355328 from by omega)
      have k5 := Lib.hid (show w.heap.size ≤ (w1.alloc (.cells #[.string x, .int .i64 n] 91)).heap.size from by simp; omega)
      go_wp2_with (at_builtin; refine wpList_append_own _ rfl (.tmp 27) (.tmp 36) 69 rfl w.heap.size 91 i0 (.agg #[.string ByteArray.empty, .int .i64 0]) 2 24 Try.underlying69 HI.out HZ0.out HZ1.out HZ2.out rfl (by decide) _ _ _ rfl k0.out ⟨w1.heap.size, 0, none⟩ 1 1 (boxCells (x, n)) rfl rfl k1.out k2.out k3.out k4.out k5.out ?_; intro v' w3 hown' hg hne; have HO3 := Lib.hid hown'; have HK := Lib.hid (own_grown2 HB2.out HO2.out hg); clear hown' hg hne)
      go_roundw
      case rel => exact ⟨D ++ [(x, n)], a + n, han, by go_num, by rw [List.length_append, rowB_snoc]; exact HO3.out, by rw [← H1.out, HE1.out, List.append_assoc]; rfl, by rw [← H2.out, HE2.out]; omega, by rw [List.length_append]; simp; omega, HK.out⟩
      case measure => simp [intOf]; omega

set_option maxHeartbeats 1000000 in
set_option maxRecDepth 20000 in
theorem same16_any (s : ByteArray) (w : World) (hs : s.size ≤ 100000) (hn : (boxL s).length ≤ 100000) :
    Calls Try.prog 48 #[.string s] w fun e w' => e = .returned (.bool true) ∧ Below w.heap.size w w' := by
  have B1 := Lib.hid (fun w => Boxes_any s w hs)
  have B2 := Lib.hid (fun w => rBoxes_any s w hs)
  generalize boxL s = l at *
  generalize endN s = n at *
  go_enter Try.func48, Try.ntmps48
  go_wp2_with fail
  refine (B1.out _).mono ?_
  rintro e w1 ⟨A, c, rfl, hin, hb1⟩
  have HIN := Lib.hid hin
  have HB1 := Lib.hid hb1
  clear hin hb1
  go_wp2_with fail
  refine (B2.out _).mono ?_
  rintro e w2 ⟨A2, c2, rfl, hin2, hb2⟩
  have HA := Lib.hid (HIN.out.below hb2)
  have HA2 := Lib.hid hin2
  have HB2 := Lib.hid (HB1.out.trans (hb2.mono HB1.out.size))
  clear hin2 hb2 HIN HB1 B1 B2
  go_wp2_with fail
  go_loopw [7] (fun i wr => ∃ n : Nat, n ≤ l.length ∧ i = .int .i64 n ∧ Below w2.heap.size w2 wr) (fun i _ => l.length - (intOf i).toNat)
  case atStart => exact ⟨0, Nat.zero_le _, rfl, Below.refl _ _⟩
  case round =>
    obtain ⟨m, hm, rfl, hb⟩ := hrel
    by_cases hlt : m < l.length
    · have hz := hb.size
      rcases HA.out.below hb with hnil | ⟨g, rfl, hg, hcs⟩
      · rw [hnil] at hlt; simp at hlt
      rcases HA2.out.below hb with hnil | ⟨g2, rfl, hg2, hcs2⟩
      · rw [hnil] at hlt; simp at hlt
      obtain ⟨c0, c1⟩ := hcs m hlt
      obtain ⟨d0, d1⟩ := hcs2 m hlt
      have HB := Lib.hid hb
      have i0 : (0 : Int) ≤ (m : Int) := by omega
      have i1 : (m : Int) < (l.length : Int) := by omega
      clear hcs hcs2 hb
      generalize l[m] = x at *
      go_upto_region 8 with fail
      go_cut [42] (fun s42 wx => s42 = .bool false ∧ Below wr.heap.size wr wx)
      case first =>
        have hx := @InB.cells wr
        refine wp_region_inb (by kernel_rfl) (by kernel_rfl) ?_; (repeat (first | go_big_quiet_skip | (go_big_quiet_want; go_big_quiet_op; first | go_big_quiet_on | (apply Exists.intro; refine ⟨fun x => ?_, ?_⟩; (· (fail)); go_big_quiet_on)))); refine wpQuiet_nil ?_; intro _ hw'; obtain ⟨⟨wq, hbq⟩, rfl⟩ := hw'
        go_wp2_with fail
        go_meet
        exact ⟨rfl, hbq⟩
      obtain ⟨rfl, hb2⟩ := hcut
      obtain ⟨W3, rfl⟩ : ∃ W3 : World, W3 = wc := ⟨_, rfl⟩
      have HB2 := Lib.hid hb2
      clear hb2 c0 c1 d0 d1
      go_wp2_with fail
      go_roundw
      case rel => exact ⟨m + 1, by omega, by go_num, HB.out.trans (HB2.out.mono HB.out.size)⟩
      case measure => simp [intOf]; omega
    · obtain rfl : m = l.length := by omega
      have HB := Lib.hid hb; clear hb
      go_wp2_with fail
      go_ret
      exact ⟨rfl, HB2.out.trans (HB.out.mono HB2.out.size)⟩

theorem four_bytes {P : Program} (src dst e : TypeId) (y : UInt8) (hs : P.underlying src = some (.slice e)) (he : P.underlying e = some (.int .u8)) (hd : P.underlying dst = some .string) (w : World) :
    (convert src dst (.slice (some ⟨w.heap.size, 0, none⟩) 4 4)).run P (w.alloc (.cells #[.int .u8 0, .int .u8 0, .int .u8 0, .int .u8 (y.toNat : Int)] e)) = .ok (.string ⟨#[0, 0, 0, y]⟩) (w.alloc (.cells #[.int .u8 0, .int .u8 0, .int .u8 0, .int .u8 (y.toNat : Int)] e)) := by
  refine run_convert_bytes_back (w.alloc (.cells #[.int .u8 0, .int .u8 0, .int .u8 0, .int .u8 (y.toNat : Int)] e)) src dst e ⟨w.heap.size, 0, none⟩ 4 [0, 0, 0, y] hs he hd ?_
  intro j hj
  simp only [List.length_cons, List.length_nil] at hj
  rw [show (⟨w.heap.size, 0, none⟩ : Addr).add j = ⟨w.heap.size, j, none⟩ from by rw [Addr.add_lit, Nat.zero_add]]
  rcases j with _ | _ | _ | _ | j
  · simp [go_sem]
  · simp [go_sem]
  · simp [go_sem]
  · simp [go_sem]
  · omega

/-- A box of a name, and contents. -/
def boxB (nm body : ByteArray) : ByteArray := ⟨#[0, 0, UInt8.ofNat ((8 + body.size) / 256), UInt8.ofNat (8 + body.size)]⟩ ++ nm ++ body

set_option maxRecDepth 20000 in
theorem Box_any (nm body : ByteArray) (w : World) (hn : nm.size ≤ 100) (hb : body.size ≤ 100) :
    Calls Try.prog 49 #[.string nm, .string body] w fun e w' => e = .returned (.string (boxB nm body)) ∧ Below w.heap.size w w' := by
  have hq : (8 + body.size) / 256 = 0 := by omega
  have HBX : Hid (boxB nm body = ⟨#[0, 0, 0, UInt8.ofNat (8 + body.size)]⟩ ++ nm ++ body) := Lib.hid (by unfold boxB; rw [hq]; rfl)
  obtain ⟨y, hy⟩ : ∃ y : UInt8, y = UInt8.ofNat (8 + body.size) := ⟨_, rfl⟩
  have hyn : (y.toNat : Int) = 8 + (body.size : Int) := by rw [hy, UInt8.toNat_ofNat']; omega
  rw [← hy] at HBX
  have h2 : (y.toNat : Int) / 256 = 0 := by omega
  have hz : (⟨#[0, 0, 0, y]⟩ : ByteArray).size = 4 := rfl
  have hcv := four_bytes (P := Try.prog) 89 9 5 y Try.underlying89 Try.underlying5 Try.underlying9 w
  clear hy hq
  have hyn' : 8 + (body.size : Int) = (y.toNat : Int) := hyn.symm
  clear hyn
  generalize hX : (⟨#[0, 0, 0, y]⟩ : ByteArray) = X at *
  have HX := Lib.hid hX
  clear hX
  go_enter Try.func49, Try.ntmps49
  go_wp2_with fail
  go_ret
  exact ⟨ret_string HBX.out.symm, below_box _ _⟩

end Go.Proofs.Ythmiadbeiggmlaa
