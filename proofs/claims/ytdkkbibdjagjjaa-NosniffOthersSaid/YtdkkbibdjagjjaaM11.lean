/-
  Lemmas of this claim, part 11: the texts CombF, one behind the other.
-/
import Derived.Test.YtdkkbibdjagjjaaM10

namespace Go.Proofs.Ytdkkbibdjagjjaa
open Go.RowKit
set_option linter.unusedSimpArgs false
set_option linter.unusedVariables false

theorem all_fit (l : List ByteArray) (hN : (joinL l).length ≤ 1099) : (∀ m ∈ allL l, FitM 1099 m) ∧ (allL l).length ≤ 1100 := by
  obtain ⟨h1, h2⟩ := values_sizes l 1099 hN
  constructor
  · intro m hm
    unfold allL at hm
    obtain ⟨s, hs, hms⟩ := List.mem_flatMap.1 hm
    unfold addM at hms
    split at hms
    · simp at hms
      subst hms
      exact (parseR_fit s.data.toList).more (by rw [← Lib.size_eq]; exact h1 s hs)
    · cases hms
  · have := flat_len (valuesL l)
    unfold allL
    omega

theorem stepL_fit {m n : MimeL} {set : List UInt8} (hn : FitM 1099 n) (hs : set.length ≤ 1099) : SizesM (stepL m set n).1 ∧ (stepL m set n).2.length ≤ 1099 := by
  unfold stepL
  split
  · exact ⟨hn.sizes, setOf_len hn⟩
  · split
    · refine ⟨⟨Nat.le_trans hn.t (by omega), Nat.le_trans hn.s (by omega), ?_, ?_⟩, hs⟩
      · show (n.ps ++ [(charL, set)]).length ≤ 1100
        rw [List.length_append, List.length_singleton]
        have := hn.n
        omega
      · intro p hp
        rcases List.mem_append.1 hp with hp | hp
        · have := hn.ps p hp
          exact ⟨by omega, by omega⟩
        · simp at hp
          subst hp
          exact ⟨(show charL.length ≤ 1100 by decide), (show set.length ≤ 1100 by omega)⟩
    · exact ⟨hn.sizes, hs⟩

theorem noM_sizes : SizesM noM := ⟨Nat.zero_le _, Nat.zero_le _, Nat.zero_le _, by intro p h; cases h⟩

theorem extractS_fit (ms : List MimeL) (h : ∀ m ∈ ms, FitM 1099 m) (k : Nat) (hk : k ≤ ms.length) : SizesM (extractS (ms.take k)).1 ∧ (extractS (ms.take k)).2.length ≤ 1099 := by
  induction k with
  | zero => exact ⟨noM_sizes, Nat.zero_le _⟩
  | succ k ih =>
    rw [extractS_snoc ms k (by omega)]
    exact stepL_fit (h _ (List.getElem_mem _)) (ih (by omega)).2

/-- What an extract gives. -/
def GivesExt (r : MimeL × Int) (w : World) (e : Ending) (w' : World) : Prop :=
  ∃ A c, e = .returned (.tuple #[mimV r.1 A c, .int .i64 r.2]) ∧ ParsAt w' w'.heap.size A r.1.ps ∧ Below w.heap.size w w' ∧ ∀ g, A = some ⟨g, 0, none⟩ → w.heap.size ≤ g

theorem extractL_none {l : List ByteArray} (h : (allL l).length = 0) : extractL l = (noM, 4) := by
  unfold extractL
  rw [if_pos (List.eq_nil_of_length_eq_zero h)]

theorem extractL_some {l : List ByteArray} (h : (allL l).length ≠ 0) : extractL l = ((extractS (allL l)).1, 0) := by
  unfold extractL
  rw [if_neg (fun e => h (by rw [e]; rfl))]

theorem mim_set3 {w : World} {g : Nat} {m n : MimeL} {A A2 : Option Addr} {c c2 : Nat} (h : w.heap[g]? = some (mimO m A c)) :
    (((w.setCell ⟨g, 0, none⟩ (.string (bt n.t))).setCell ⟨g, 1, none⟩ (.string (bt n.s))).setCell ⟨g, 2, none⟩ (.slice A2 n.ps.length c2)).heap[g]? = some (mimO n A2 c2) := by
  unfold mimO at *
  simp [World.setCell, Array.getElem?_modify, h]

set_option maxHeartbeats 4000000 in
set_option maxRecDepth 20000 in
theorem extract_any (l : List ByteArray) (A : Option Addr) (c : Nat) (w : World) (hA : StrsIn w A l) (hc : l.length ≤ c) (hl : l.length ≤ 90) (hs : ∀ s ∈ l, s.size ≤ 1000) (hN : (joinL l).length ≤ 1099) :
    Calls Try.prog 46 #[.slice A l.length c] w fun e w' => GivesExt (extractL l) w e w' := by
  have HAL := Lib.hid (fun (w1 : World) (hb : Below w.heap.size w w1) => all_any l A c w1 (hA.below hb) hc hl hs hN)
  obtain ⟨hfit, hlen⟩ := all_fit l hN
  have HX0 := Lib.hid (@extractL_none l)
  have HX1 := Lib.hid (@extractL_some l)
  generalize extractL l = X at *
  generalize allL l = ms at *
  have HFIT := Lib.hid hfit
  clear hA hc hl hs hN hfit
  have hP : ((w.alloc (.cells #[.string ⟨#[]⟩, .string ⟨#[]⟩, .slice none 0 0] 33)).alloc (.cells #[.string ⟨#[]⟩, .string ⟨#[]⟩, .slice none 0 0] 33)).heap[w.heap.size]? = some (mimO noM none 0) := (Below.heap_alloc _ _ _ (by simp)).trans (heap_alloc_new w _)
  have hM : ((w.alloc (.cells #[.string ⟨#[]⟩, .string ⟨#[]⟩, .slice none 0 0] 33)).alloc (.cells #[.string ⟨#[]⟩, .string ⟨#[]⟩, .slice none 0 0] 33)).heap[w.heap.size + 1]? = some (mimO noM none 0) := by
    rw [show w.heap.size + 1 = (w.alloc (.cells #[.string ⟨#[]⟩, .string ⟨#[]⟩, .slice none 0 0] 33)).heap.size by simp]
    exact heap_alloc_new _ _
  have hb : Below w.heap.size w ((w.alloc (.cells #[.string ⟨#[]⟩, .string ⟨#[]⟩, .slice none 0 0] 33)).alloc (.cells #[.string ⟨#[]⟩, .string ⟨#[]⟩, .slice none 0 0] 33)) := (below_box _ _).alloc (by simp) _
  have hz0 : ((w.alloc (.cells #[.string ⟨#[]⟩, .string ⟨#[]⟩, .slice none 0 0] 33)).alloc (.cells #[.string ⟨#[]⟩, .string ⟨#[]⟩, .slice none 0 0] 33)).heap.size = w.heap.size + 1 + 1 := by simp
  go_enter Try.func46, Try.ntmps46
  go_upto_region 3 with fail
  generalize ((w.alloc (.cells #[.string ⟨#[]⟩, .string ⟨#[]⟩, .slice none 0 0] 33)).alloc (.cells #[.string ⟨#[]⟩, .string ⟨#[]⟩, .slice none 0 0] 33)) = W0 at *
  go_wp2_with fail
  refine (HAL.out _ hb).mono ?_
  rintro e W ⟨A1, c1, rfl, hA1, hbn⟩
  rw [hz0] at hA1
  have hP := (hbn.block _ (Array.getElem?_eq_some_iff.1 hP).1).trans hP
  have hM := (hbn.block _ (Array.getElem?_eq_some_iff.1 hM).1).trans hM
  have hb := hb.trans (hbn.mono hb.size)
  have HBW := Lib.hid hb
  have HA1 := Lib.hid hA1
  have HP := Lib.hid hP
  have HM := Lib.hid hM
  have hWz : w.heap.size + 1 + 1 ≤ W.heap.size := by have := hbn.size; omega
  clear hA1 hbn hP hM hb HAL
  go_wp2_with fail
  go_loopw [5, 13] (fun s i wr => ∃ (k : Nat) (A3 : Option Addr) (c3 : Nat), k ≤ ms.length ∧ i = .int .i64 k ∧ s = .string (bt (extractS (ms.take k)).2) ∧ wr.heap[w.heap.size]? = some (mimO noM none 0) ∧ wr.heap[w.heap.size + 1]? = some (mimO (extractS (ms.take k)).1 A3 c3) ∧ ParsAt wr wr.heap.size A3 (extractS (ms.take k)).1.ps ∧ (∀ g, A3 = some ⟨g, 0, none⟩ → w.heap.size + 1 < g) ∧ Below w.heap.size w wr ∧ W.heap.size ≤ wr.heap.size ∧ ∀ b, w.heap.size + 1 + 1 ≤ b → b < W.heap.size → wr.heap[b]? = W.heap[b]?) (fun _ i _ => ms.length - (intOf i).toNat)
  case atStart => exact ⟨0, none, 0, Nat.zero_le _, rfl, rfl, HP.out, HM.out, .inl rfl, (by intro g h; cases h), HBW.out, Nat.le_refl _, fun _ _ _ => rfl⟩
  case round =>
    obtain ⟨k, A3, c3, hk, rfl, rfl, hP, hM, hA3, hf3, hb, hzz, hsame⟩ := hrel
    have HB := Lib.hid hb
    have HSAME := Lib.hid hsame
    have HA3 := Lib.hid hA3
    have HF3 := Lib.hid hf3
    obtain ⟨hsz, hss⟩ := extractS_fit ms HFIT.out k hk
    by_cases hlt : k < ms.length
    · have hfx := HFIT.out ms[k] (List.getElem_mem _)
      have HSN := Lib.hid (extractS_snoc ms k hlt)
      rcases HA1.out.same hsame with hnil | ⟨g, rfl, hL, hgB, hcs⟩
      · rw [hnil] at hlt; simp at hlt
      obtain ⟨A2, c2, h0, h1, h2, h3, h4⟩ := hcs k hlt
      have HX2 := Lib.hid h3
      generalize ms[k] = x at *
      generalize (extractS (ms.take k)).1 = m at *
      generalize (extractS (ms.take k)).2 = set at *
      clear hcs hA3 hf3 hsame h3 h4 hb
      have hX : (wr.alloc (.cells #[.string (bt x.t), .string (bt x.s), .slice A2 x.ps.length c2] 33)).heap[wr.heap.size]? = some (mimO x A2 c2) := heap_alloc_new wr _
      have hP1 : (wr.alloc (.cells #[.string (bt x.t), .string (bt x.s), .slice A2 x.ps.length c2] 33)).heap[w.heap.size]? = _ := (Below.heap_alloc _ _ _ (Array.getElem?_eq_some_iff.1 hP).1).trans hP
      have hM1 : (wr.alloc (.cells #[.string (bt x.t), .string (bt x.s), .slice A2 x.ps.length c2] 33)).heap[w.heap.size + 1]? = _ := (Below.heap_alloc _ _ _ (Array.getElem?_eq_some_iff.1 hM).1).trans hM
      have HST := Lib.hid (step_any m x A3 A2 c3 c2 set (wr.alloc (.cells #[.string (bt x.t), .string (bt x.s), .slice A2 x.ps.length c2] 33)) hsz hfx.sizes (Nat.le_trans hfx.n (by omega)) (Nat.le_trans hss (by omega)) (HA3.out.on (below_box wr _)) ((HX2.out.more hzz).on (below_box wr _)))
      have HB1 := Lib.hid (HB.out.alloc HB.out.size (.cells #[.string (bt x.t), .string (bt x.s), .slice A2 x.ps.length c2] 33))
      have HBX := Lib.hid (below_box wr (.cells #[.string (bt x.t), .string (bt x.s), .slice A2 x.ps.length c2] 33))
      have hz1 : (wr.alloc (.cells #[.string (bt x.t), .string (bt x.s), .slice A2 x.ps.length c2] 33)).heap.size = wr.heap.size + 1 := by simp
      go_upto_region 7 with fail
      generalize hzx : wr.heap.size = gx at *
      generalize wr.alloc (.cells #[.string (bt x.t), .string (bt x.s), .slice A2 x.ps.length c2] 33) = w1 at *
      clear h0 h1 h2 hP hM
      obtain ⟨m0, m1, m2, mz, mlt⟩ := mim_cells hM1
      obtain ⟨x0, x1, x2, xz, xlt⟩ := mim_cells hX
      unfold mimV at HST
      obtain ⟨S, hS⟩ : ∃ S, bt set = S := ⟨_, rfl⟩
      rw [hS] at HST ⊢
      go_wp2_with fail
      refine HST.out.mono ?_
      rintro e w2 ⟨A4, c4, rfl, hA4, hb2, hf4⟩
      unfold mimV
      have hP2 := (hb2.block _ (Array.getElem?_eq_some_iff.1 hP1).1).trans hP1
      have hM2 := (hb2.block _ mlt).trans hM1
      have HB2 := Lib.hid (HB1.out.trans (hb2.mono HB1.out.size))
      have HS2 : Hid (∀ b, w.heap.size + 1 + 1 ≤ b → b < W.heap.size → w2.heap[b]? = W.heap[b]?) := Lib.hid (fun b h1 h2 => ((hb2.block b (by omega)).trans (HBX.out.block b (by omega))).trans (HSAME.out b h1 h2))
      have HA4 := Lib.hid hA4
      have hz2 := hb2.size
      have HF4 : Hid (∀ g, A4 = some ⟨g, 0, none⟩ → w.heap.size + 1 < g) := Lib.hid (fun g hg => by have := hf4 g hg; omega)
      clear m0 m1 m2 mz x0 x1 x2 xz hA4 hb2 hf4 HST hX hM1 hP1
      obtain ⟨m0, m1, m2, mz, mlt2⟩ := mim_cells hM2
      have HP2 := Lib.hid hP2
      have HM2 := Lib.hid hM2
      clear hP2 hM2
      go_wp2_with fail
      go_roundw
      case rel =>
        have hfar : ∀ g, A4 = some ⟨g, 0, none⟩ → w.heap.size + 1 ≠ g := fun g hg => by have := HF4.out g hg; omega
        have hne : ∀ b, b ≠ w.heap.size + 1 → (((w2.setCell ⟨w.heap.size + 1, 0, none⟩ (.string (bt (stepL m set x).1.t))).setCell ⟨w.heap.size + 1, 1, none⟩ (.string (bt (stepL m set x).1.s))).setCell ⟨w.heap.size + 1, 2, none⟩ (.slice A4 (stepL m set x).1.ps.length c4)).heap[b]? = w2.heap[b]? := fun b hb => by
          rw [Below.heap_setCell _ _ _ _ hb, Below.heap_setCell _ _ _ _ hb, Below.heap_setCell _ _ _ _ hb]
        refine ⟨k + 1, A4, c4, by omega, by go_num, by rw [HSN.out], ?_, ?_, ?_, HF4.out, ?_, ?_, ?_⟩
        · rw [hne _ (by omega)]; exact HP2.out
        · rw [HSN.out]; exact mim_set3 HM2.out
        · rw [HSN.out]; exact (((HA4.out.set hfar _).set hfar _).set hfar _).more (by simp)
        · exact ((HB2.out.setCell (show w.heap.size ≤ w.heap.size + 1 by omega) _).setCell (show w.heap.size ≤ w.heap.size + 1 by omega) _).setCell (show w.heap.size ≤ w.heap.size + 1 by omega) _
        · simp; omega
        · intro b h1 h2; rw [hne _ (by omega)]; exact HS2.out b h1 h2
      case measure => simp [intOf]; omega
    · obtain rfl : k = ms.length := by omega
      rw [List.take_length] at hM hA3 HA3
      by_cases h0 : ms.length = 0
      · have HV := Lib.hid (HX0.out h0)
        have h0i : ((ms.length : Int) == 0) = true := by rw [h0]; rfl
        obtain ⟨r0, r1, r2, rz, rlt⟩ := mim_cells hP
        clear hP hM hA3 hf3 hsame hb
        go_wp2_with fail
        refine bodyPost_ret (v := .tuple #[mimV noM none 0, .int .i64 4]) ?_ rfl ?_
        · simp [results, Try.results46, go_sem, r0, r1, r2, mimV, noM, bt]
        · refine ⟨none, 0, by rw [HV.out], by rw [HV.out]; exact .inl rfl, ?_, by intro g h; cases h⟩
          exact ((HB.out.setCell (show w.heap.size ≤ w.heap.size by omega) _).setCell (show w.heap.size ≤ w.heap.size by omega) _).setCell (show w.heap.size ≤ w.heap.size by omega) _
      · have HV := Lib.hid (HX1.out h0)
        have h0i : ((ms.length : Int) == 0) = false := beq_eq_false_iff_ne.2 (by omega)
        generalize (extractS ms).1 = m at *
        obtain ⟨r0, r1, r2, rz, rlt⟩ := mim_cells hP
        obtain ⟨m0, m1, m2, mz, mlt⟩ := mim_cells hM
        clear hP hM hA3 hf3 hsame hb
        go_wp2_with fail
        refine bodyPost_ret (v := .tuple #[mimV m A3 c3, .int .i64 0]) ?_ rfl ?_
        · simp [results, Try.results46, go_sem, r0, r1, r2, mimV]
        · have hfar : ∀ g, A3 = some ⟨g, 0, none⟩ → w.heap.size ≠ g := fun g hg => by have := HF3.out g hg; omega
          refine ⟨A3, c3, by rw [HV.out], ?_, ?_, fun g hg => by have := HF3.out g hg; omega⟩
          · rw [HV.out]
            exact (((HA3.out.set hfar _).set hfar _).set hfar _).more (by simp)
          · exact ((HB.out.setCell (show w.heap.size ≤ w.heap.size by omega) _).setCell (show w.heap.size ≤ w.heap.size by omega) _).setCell (show w.heap.size ≤ w.heap.size by omega) _

set_option maxHeartbeats 1000000 in
set_option maxRecDepth 20000 in
theorem Extract_any (l : List ByteArray) (A : Option Addr) (c : Nat) (w : World) (hA : StrsIn w A l) (hc : l.length ≤ c) (hl : l.length ≤ 90) (hs : ∀ s ∈ l, s.size ≤ 1000) (hN : (joinL l).length ≤ 1099) :
    Calls Try.prog 31 #[.slice A l.length c] w fun e w' => GivesExt (extractL l) w e w' := by
  have HEX := Lib.hid (fun (w1 : World) (hb : Below w.heap.size w w1) => extract_any l A c w1 (hA.below hb) hc hl hs hN)
  generalize extractL l = X at *
  clear hA hc hl hs hN
  have hP : (w.alloc (.cells #[.string ⟨#[]⟩, .string ⟨#[]⟩, .slice none 0 0] 33)).heap[w.heap.size]? = some (mimO noM none 0) := heap_alloc_new w _
  have hb : Below w.heap.size w (w.alloc (.cells #[.string ⟨#[]⟩, .string ⟨#[]⟩, .slice none 0 0] 33)) := below_box _ _
  have hz0 : (w.alloc (.cells #[.string ⟨#[]⟩, .string ⟨#[]⟩, .slice none 0 0] 33)).heap.size = w.heap.size + 1 := by simp
  go_enter Try.func31, Try.ntmps31
  go_upto_region 1 with fail
  generalize w.alloc (.cells #[.string ⟨#[]⟩, .string ⟨#[]⟩, .slice none 0 0] 33) = W0 at *
  go_wp2_with fail
  refine (HEX.out _ hb).mono ?_
  rintro e w1 ⟨A3, c3, rfl, hA3, hbn, hf⟩
  unfold mimV
  have hP := (hbn.block _ (Array.getElem?_eq_some_iff.1 hP).1).trans hP
  have HB := Lib.hid (hb.trans (hbn.mono hb.size))
  have HA3 := Lib.hid hA3
  have HF := Lib.hid (fun g hg => hf g hg)
  clear hA3 hf hbn hb HEX
  obtain ⟨r0, r1, r2, rz, rlt⟩ := mim_cells hP
  clear hP
  go_wp2_with fail
  refine bodyPost_ret (v := .tuple #[mimV X.1 A3 c3, .int .i64 X.2]) ?_ rfl ?_
  · simp [results, Try.results31, go_sem, r0, r1, r2, mimV]
  · have hfar : ∀ g, A3 = some ⟨g, 0, none⟩ → w.heap.size ≠ g := fun g hg => by have := HF.out g hg; omega
    refine ⟨A3, c3, rfl, ?_, ?_, fun g hg => by have := HF.out g hg; omega⟩
    · exact (((HA3.out.set hfar _).set hfar _).set hfar _).more (by simp)
    · exact ((HB.out.setCell (show w.heap.size ≤ w.heap.size by omega) _).setCell (show w.heap.size ≤ w.heap.size by omega) _).setCell (show w.heap.size ≤ w.heap.size by omega) _

theorem extractL_sizes (l : List ByteArray) (hN : (joinL l).length ≤ 1099) : SizesM (extractL l).1 := by
  unfold extractL
  split
  · exact noM_sizes
  · have := (extractS_fit (allL l) (all_fit l hN).1 (allL l).length (Nat.le_refl _)).1
    rwa [List.take_length] at this

end Go.Proofs.Ytdkkbibdjagjjaa
