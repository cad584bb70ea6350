/-
  Walks: how many bytes a table of patterns needs; a table that is made.
-/
import Derived.Test.YtcpjokjfjhhndaaTabA
namespace Go.Proofs.Ytcpjokjfjhhndaa
open Go.RowKit
set_option linter.unusedSimpArgs false
set_option linter.unusedVariables false

theorem needs_match {s : ByteArray} {ps : List Pat} {n : Nat} (hn : n < ps.length) (h0 : NoneTo s ps n) (h : matchP s ps[n] = true) : needsN s ps = 0 := by
  unfold needsN
  rw [if_pos (by rw [findN_at s ps n hn h0 h]; exact hn)]

theorem needs_none {s : ByteArray} {ps : List Pat} (h0 : NoneTo s ps ps.length) : needsN s ps = foldN s ps 0 := by
  unfold needsN
  rw [if_neg (by rw [findN_none s ps h0]; omega)]

theorem least_closed {s : ByteArray} {p : Pat} (n : Nat) (h : openP s p = false) : leastN s p n = n := by unfold leastN; rw [h]; rfl
theorem least_open {s : ByteArray} {p : Pat} (n : Nat) (h : openP s p = true) (h2 : n = 0 ∨ p.b.size - s.size < n) : leastN s p n = p.b.size - s.size := by
  unfold leastN; rw [h, if_pos]
  rcases h2 with h2 | h2
  · simp [h2]
  · simp [h2]
theorem least_keep {s : ByteArray} {p : Pat} (n : Nat) (h1 : n ≠ 0) (h2 : ¬ p.b.size - s.size < n) : leastN s p n = n := by
  unfold leastN
  rw [if_neg]
  simp [h1, h2]

theorem foldN_le (s : ByteArray) (ps : List Pat) (hf : Fulls ps) (k : Nat) (hk : k ≤ ps.length) : foldN s (ps.take k) 0 ≤ 64 := by
  induction k with
  | zero => simp [foldN]
  | succ k ih =>
    have := ih (by omega)
    rw [foldN_take s ps k (by omega)]
    have h2 := (full_sizes (hf k (by omega))).1
    unfold leastN
    split
    · omega
    · exact this

set_option maxHeartbeats 1000000 in
set_option maxRecDepth 20000 in
theorem rNeeds_any (s : ByteArray) (ps : List Pat) (A : Option Addr) (c : Nat) (w : World) (hs : s.size ≤ 1000) (hf : Fulls ps) (hn : ps.length ≤ 1000) (hA : PatsAt w w.heap.size A ps) :
    Calls Try.prog 43 #[.string s, .slice A ps.length c] w fun e w' => e = .returned (.int .i64 (needsN s ps)) ∧ Below w.heap.size w w' := by
  have hsm : s.size ≤ maxLen := by unfold maxLen; omega
  have HF := Lib.hid hf; clear hf
  have HA := Lib.hid hA; clear hA
  go_enter Try.func43, Try.ntmps43
  go_wp2_with fail
  go_loopw [5, 6] (fun l i wr => ∃ n : Nat, n ≤ ps.length ∧ i = .int .i64 n ∧ NoneTo s ps n ∧ l = .int .i64 (foldN s (ps.take n) 0) ∧ Below w.heap.size w wr) (fun _ i _ => ps.length - (intOf i).toNat)
  case atStart => exact ⟨0, Nat.zero_le _, rfl, fun i _ h => by omega, rfl, Below.refl _ _⟩
  case round =>
    obtain ⟨n, hn, rfl, h0, rfl, hb⟩ := hrel
    have H0 := Lib.hid h0; clear h0
    have hl64 := foldN_le s ps HF.out n hn
    by_cases hlt : n < ps.length
    · have hz := hb.size
      rcases HA.out.below hb with hnil | ⟨g, rfl, hg, hcs⟩
      · rw [hnil] at hlt; simp at hlt
      obtain ⟨c0, c1, c2, c3⟩ := hcs n hlt
      have hful := HF.out n hlt
      obtain ⟨hb64, hb1, hmb, hk0⟩ := full_sizes hful
      have HS := Lib.hid (foldN_take s ps n hlt 0)
      have HFU := Lib.hid hful
      have HB := Lib.hid hb
      have HM1 := Lib.hid (fun h => needs_match hlt H0.out h)
      have HM2 := Lib.hid (fun h => noneTo_step H0.out hlt h)
      have HIs := Lib.hid (fun w => rIs_any s ps[n].b ps[n].m ps[n].k ps[n].t w hsm (by unfold maxLen; omega) (by unfold maxLen; omega) hmb)
      have HBe := Lib.hid (fun w => rBegins_any s ps[n].b ps[n].m ps[n].k ps[n].t w hsm (by unfold maxLen; omega))
      have HR := Lib.hid (rest_full hful s)
      have HAh := Lib.hid (ahead_full hful s)
      clear hcs hb hmb hk0 hful H0
      generalize ps[n] = p at *
      generalize foldN s (ps.take n) 0 = l at *
      have HX : Hid (matchP s p = (agreeL s.data.toList p.b.data.toList p.m.data.toList && decide (p.b.size ≤ s.size))) := Lib.hid (by rw [matchP_eq HFU.out, ← Lib.size_eq, ← Lib.size_eq])
      have HY : Hid (openP s p = (agreeL s.data.toList p.b.data.toList p.m.data.toList && decide (s.size < p.b.size))) := Lib.hid (by rw [openP_eq HFU.out, ← Lib.size_eq, ← Lib.size_eq])
      have HIs2 := HIs.out
      rw [HR.out] at HIs2
      have HBe2 := HBe.out
      rw [HAh.out] at HBe2
      generalize agreeL s.data.toList p.b.data.toList p.m.data.toList = a at *
      have CI := Lib.hid HIs2
      have CB : Hid (∀ w, Calls Try.prog 27 #[.string s, patV p.b p.m p.k p.t] w fun e w' => e = .returned (.int .i64 0) ∧ Below w.heap.size w w') := Lib.hid HBe2
      clear HIs HBe HR HAh HIs2 HBe2
      by_cases hm : a = true ∧ p.b.size ≤ s.size
      · obtain ⟨rfl, hle⟩ := hm
        have hmt : matchP s p = true := by rw [HX.out]; simp [hle]
        have HN := Lib.hid (HM1.out hmt)
        clear hmt
        go_wp2_with fail
        refine (CI.out _).mono ?_
        rintro e w1 ⟨rfl, hb1⟩
        have hdec : decide (p.b.size ≤ s.size) = true := decide_eq_true hle
        rw [hdec]
        clear hdec
        go_wp2_with fail
        go_ret
        exact ⟨ret_int (by rw [HN.out]; rfl), HB.out.trans (hb1.mono HB.out.size)⟩
      · have hmf : matchP s p = false := by
          rw [HX.out]
          cases a
          · rfl
          · simp at hm; simp; omega
        have HNS := Lib.hid (HM2.out hmf)
        have hall : (a && decide (p.b.size ≤ s.size)) = false := by rw [← HX.out]; exact hmf
        clear hmf
        have HALL := Lib.hid hall
        clear hall
        go_wp2_with fail
        refine (CI.out _).mono ?_
        rintro e w1 ⟨rfl, hb1⟩
        rw [HALL.out]
        have hz1 : g < w1.heap.size := by have := hb1.size; omega
        rw [← cell_below hb1 (by omega)] at c0 c1 c2 c3
        have HB1 := Lib.hid (HB.out.trans (hb1.mono HB.out.size))
        clear hb1
        cases a
        · have hop : openP s p = false := by rw [HY.out]; rfl
          have HL := Lib.hid (least_closed l hop)
          clear hop
          go_upto_region 8 with fail
          go_cut [9] (fun s9 wx => s9 = .int .i64 ((p.b.size : Int) - s.size) ∧ Below w1.heap.size w1 wx)
          case first =>
            have hx := @InB.cells w1
            refine wp_region_inb (by kernel_rfl) (by kernel_rfl) ?_; (repeat (first | go_big_quiet_skip | (go_big_quiet_want; go_big_quiet_op; first | go_big_quiet_on | (apply Exists.intro; refine ⟨fun x => ?_, ?_⟩; (· ((go_at_call 27; exact inb_call _ (CB.out _)))); go_big_quiet_on)))); refine wpQuiet_nil ?_; intro _ hw'; obtain ⟨⟨wq, hbq⟩, rfl⟩ := hw'
            go_wp2_with fail
            go_meet
            exact ⟨rfl, hbq⟩
          obtain ⟨rfl, hb2⟩ := hcut
          obtain ⟨W3, rfl⟩ : ∃ W3 : World, W3 = wc := ⟨_, rfl⟩
          have HB2 := Lib.hid (HB1.out.trans (hb2.mono HB1.out.size))
          clear hb2 c0 c1 c2 c3
          go_wp2_with fail
          go_roundw
          case rel => exact ⟨n + 1, by omega, by go_num, HNS.out, by rw [HS.out, HL.out], HB2.out⟩
          case measure => simp [intOf]; omega
        · have hlt2 : s.size < p.b.size := by simp at hm; omega
          have hop : openP s p = true := by rw [HY.out]; simp [hlt2]
          have HL1 := Lib.hid (fun h => least_open l hop h)
          have HL2 := Lib.hid (fun h1 h2 => least_keep (s := s) (p := p) l h1 h2)
          obtain ⟨d, hd⟩ : ∃ d : Nat, (p.b.size : Int) - s.size = d := ⟨p.b.size - s.size, by omega⟩
          have hd2 : p.b.size - s.size = d := by omega
          have HD := Lib.hid hd
          rw [hd2] at HL1 HL2
          have hd64 : d ≤ 64 := by omega
          clear hop hd hd2
          go_upto_region 8 with fail
          go_cut [9] (fun s9 wx => s9 = .int .i64 ((p.b.size : Int) - s.size) ∧ Below w1.heap.size w1 wx)
          case first =>
            have hx := @InB.cells w1
            refine wp_region_inb (by kernel_rfl) (by kernel_rfl) ?_; (repeat (first | go_big_quiet_skip | (go_big_quiet_want; go_big_quiet_op; first | go_big_quiet_on | (apply Exists.intro; refine ⟨fun x => ?_, ?_⟩; (· ((go_at_call 27; exact inb_call _ (CB.out _)))); go_big_quiet_on)))); refine wpQuiet_nil ?_; intro _ hw'; obtain ⟨⟨wq, hbq⟩, rfl⟩ := hw'
            go_wp2_with fail
            go_meet
            exact ⟨rfl, hbq⟩
          rw [HD.out] at hcut
          obtain ⟨rfl, hb2⟩ := hcut
          obtain ⟨W3, rfl⟩ : ∃ W3 : World, W3 = wc := ⟨_, rfl⟩
          have HB2 := Lib.hid (HB1.out.trans (hb2.mono HB1.out.size))
          clear hb2 c0 c1 c2 c3
          by_cases hl0 : l = 0
          · have HL := Lib.hid (HL1.out (.inl hl0))
            subst hl0
            clear HL1 HL2
            go_wp2_with fail
            go_roundw
            case rel => exact ⟨n + 1, by omega, by go_num, HNS.out, by rw [HS.out, HL.out], HB2.out⟩
            case measure => simp [intOf]; omega
          · by_cases hdl : d < l
            · have HL := Lib.hid (HL1.out (.inr hdl))
              clear HL1 HL2
              go_wp2_with fail
              go_roundw
              case rel => exact ⟨n + 1, by omega, by go_num, HNS.out, by rw [HS.out, HL.out], HB2.out⟩
              case measure => simp [intOf]; omega
            · have HL := Lib.hid (HL2.out hl0 hdl)
              clear HL1 HL2
              go_wp2_with fail
              go_roundw
              case rel => exact ⟨n + 1, by omega, by go_num, HNS.out, by rw [HS.out, HL.out], HB2.out⟩
              case measure => simp [intOf]; omega
    · obtain rfl : n = ps.length := by omega
      rw [List.take_length] at *
      have HN := Lib.hid (needs_none H0.out)
      have HB := Lib.hid hb; clear hb H0
      generalize foldN s ps 0 = l at *
      go_wp2_with fail
      go_ret
      exact ⟨ret_int (by rw [HN.out]), HB.out⟩

/-- A table is made, or handed on. -/
def GivesTab (ps : List Pat) (w : World) (e : Ending) (w' : World) : Prop :=
  ∃ g c, e = .returned (.slice (some ⟨g, 0, none⟩) ps.length c) ∧ PatsAt w' w'.heap.size (some ⟨g, 0, none⟩) ps ∧ Below w.heap.size w w'

theorem patsAt_new (w : World) (ps : List Pat) (e : TypeId) : PatsAt (w.alloc (.cells (rowP ps).toArray e)) (w.alloc (.cells (rowP ps).toArray e)).heap.size (some ⟨w.heap.size, 0, none⟩) ps := by
  right
  refine ⟨w.heap.size, rfl, by simp, fun i hi => ?_⟩
  have hc : ∀ j, j < 4 → (w.alloc (.cells (rowP ps).toArray e)).cell? ⟨w.heap.size, i * 4 + j, none⟩ = (patCells ps[i])[j]? := fun j hj => by
    rw [cell_of_row _ _ _ _ _ (0, 0) (heap_alloc_new w _), List.getElem?_toArray, rowP_at ps i hi j hj]
  exact ⟨by simpa [patCells] using hc 0 (by omega), by simpa [patCells] using hc 1 (by omega), by simpa [patCells] using hc 2 (by omega), by simpa [patCells] using hc 3 (by omega)⟩

end Go.Proofs.Ytcpjokjfjhhndaa
