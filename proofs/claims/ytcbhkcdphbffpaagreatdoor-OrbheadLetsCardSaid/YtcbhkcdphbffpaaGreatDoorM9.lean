/-
  Lemmas of this claim, part 9: the texts MimeL, MimeM, CombC, MimeOpen, HeadG, HeadA, one behind the other.
-/
import Derived.Test.YtcbhkcdphbffpaaGreatDoorM8
import Derived.Deep.CutBlock
import Derived.Deep.Slices
import Derived.Lib.SmallJoins
import Derived.Deep.RegionWith
import Derived.Deep.RegionHeld3
import Derived.Deep.Onto

namespace Go.Proofs.YtcbhkcdphbffpaaGreatDoor
open Go.RowKit
set_option linter.unusedSimpArgs false
set_option linter.unusedVariables false

/-- The world in which the document's answer reads a text's parameters. -/
structure ParV (W w : World) (R F : Nat) (T U : ByteArray) (ps : Pars) (v : Value) (wr : World) : Prop where
  bF : wr.heap[F]? = some (.cells #[.string T, .string U, v] 36 (0, 0))
  row : wr.ownsRow W.heap.size 96 2 v ps.length (rowQ ps)
  below : Below w.heap.size w wr
  bR : wr.heap[R]? = some (.cells #[.string ⟨#[]⟩, .string ⟨#[]⟩, .slice none 0 0] 36 (0, 0))
  size : W.heap.size ≤ wr.heap.size
  FW : F < W.heap.size
  RW : R < W.heap.size
  ne3 : R ≠ F
  wF : w.heap.size ≤ F
  wR : w.heap.size ≤ R
  wW : w.heap.size ≤ W.heap.size

theorem ParV.belowOn {W w wr w2 : World} {R F : Nat} {T U : ByteArray} {ps : Pars} {v : Value} (h : ParV W w R F T U ps v wr) (hb : Below wr.heap.size wr w2) : ParV W w R F T U ps v w2 :=
  { h with
    bF := (hb.block _ (by have := h.FW; have := h.size; omega)).trans h.bF
    row := row_stands h.row (fun j _ hj => hb.block j hj)
    below := h.below.trans (hb.mono h.below.size)
    bR := (hb.block _ (by have := h.RW; have := h.size; omega)).trans h.bR
    size := Nat.le_trans h.size hb.size }

theorem ParV.sub {W w wr : World} {R F : Nat} {T U : ByteArray} {ps : Pars} {v : Value} (h : ParV W w R F T U ps v wr) (U2 : ByteArray) : ParV W w R F T U2 ps v (wr.setCell ⟨F, 1, none⟩ (.string U2)) := by
  have hF := h.bF
  have hR := h.bR
  have hne3 : F ≠ R := Ne.symm h.ne3
  exact { h with
    bF := by simp [World.setCell, Array.getElem?_modify, hF]
    row := row_stands h.row (fun j hj _ => by
      have h1 := (h.row.lt j hj).1
      have h2 := h.FW
      have h3 : F ≠ j := by omega
      simp [World.setCell, Array.getElem?_modify, h3])
    below := h.below.setCell h.wF _
    bR := by simp [World.setCell, Array.getElem?_modify, hne3, hR]
    size := by simpa using h.size }

theorem ParV.more {W w wr w2 : World} {R F : Nat} {T U : ByteArray} {ps : Pars} {v v2 : Value} {p : List UInt8 × List UInt8} (h : ParV W w R F T U ps v wr) (hg : wr.grownBy w2 v.ownBlock)
    (ho : w2.ownsRow W.heap.size 96 2 v2 (ps.length + 1) (rowQ ps ++ parCells p)) : ParV W w R F T U (ps ++ [p]) v2 (w2.setCell ⟨F, 2, none⟩ v2) := by
  have hv : ∀ i, i < W.heap.size → some i ≠ v.ownBlock := fun i hi e => by have := (h.row.lt i e.symm).1; omega
  have hF2 := (hg.block F (by have := h.FW; have := h.size; omega) (hv _ h.FW)).trans h.bF
  have hR2 := (hg.block R (by have := h.RW; have := h.size; omega) (hv _ h.RW)).trans h.bR
  have hne : v2.ownBlock ≠ some F := fun e => by have := (ho.lt F e).1; have := h.FW; omega
  obtain ⟨x1, x2⟩ := row_laid hF2 ho hne
  have hne3 : F ≠ R := Ne.symm h.ne3
  exact { h with
    bF := x1
    row := by rw [rowQ_snoc, List.length_append]; exact x2
    below := (h.below.grown hg h.below.size (fun j hj => by have := (h.row.lt j hj).1; have := h.wW; omega)).setCell h.wF _
    bR := by simp [World.setCell, Array.getElem?_modify, hne3, hR2]
    size := by simpa using Nat.le_trans h.size hg.size }

theorem bt_take (p : UInt8 → Bool) (l : List UInt8) : (bt l).extract 0 (spanN p l) = bt (l.takeWhile p) := by
  have := ext_bt (bt l) 0 (spanN p l)
  rw [Nat.zero_add, dropB_zero, bt_list, span_take] at this
  exact this

theorem bt_drop (n : Nat) (l : List UInt8) : (bt l).extract n (bt l).size = bt (l.drop n) := by
  apply bytes_ext
  rw [bt_list, ByteArray.data_extract, Array.toList_extract, List.extract_eq_take_drop, bt_list]
  rw [List.take_of_length_le (by rw [List.length_drop, bt_size]; omega)]

theorem bt_rest (p : UInt8 → Bool) (l : List UInt8) : (bt l).extract (spanN p l) (bt l).size = bt (l.dropWhile p) := by
  rw [bt_drop, span_drop]

theorem drop_head (p : UInt8 → Bool) (l : List UInt8) : l.dropWhile p = [] ∨ ∃ b r, l.dropWhile p = b :: r ∧ p b = false := by
  have hh := List.head?_dropWhile_not p l
  cases hx : l.dropWhile p with
  | nil => exact .inl rfl
  | cons b r =>
    rw [hx] at hh
    simp only [List.head?_cons] at hh
    exact .inr ⟨b, r, rfl, by simpa using hh⟩

theorem span_full (p : UInt8 → Bool) (l : List UInt8) : ((spanN p l : Int) == ((bt l).size : Int)) = (l.dropWhile p).isEmpty := by
  have h1 := span_drop p l
  have h2 : (l.drop (spanN p l)).length = (l.dropWhile p).length := by rw [h1]
  rw [List.length_drop] at h2
  have h3 := spanN_le p l
  rw [bt_size]
  cases hx : l.dropWhile p with
  | nil => rw [hx] at h2; simp at h2; simp; omega
  | cons b r => rw [hx] at h2; simp at h2 ⊢; omega

theorem semi_head (l : List UInt8) : l.dropWhile nsemi = [] ∨ ∃ r, l.dropWhile nsemi = 59 :: r := by
  rcases drop_head nsemi l with h | ⟨b, r, h, hb⟩
  · exact .inl h
  · refine .inr ⟨r, ?_⟩
    unfold nsemi at hb
    simp at hb
    rw [h, hb]

theorem valL_head (r : List UInt8) : (valL r).2.2 = [] ∨ ∃ t, (valL r).2.2 = 59 :: t := by
  unfold valL
  split
  · exact semi_head _
  · exact semi_head _

/-- What holds at the head of a round of the document's answer. -/
def RefL (W w : World) (R F : Nat) (T U : ByteArray) (Z : Pars) (q : Value) (wr : World) : Prop :=
  ∃ l ps v, q = .string (bt l) ∧ ParV W w R F T U ps v wr ∧ parsL ps l = Z ∧ (l = [] ∨ ∃ r, l = 59 :: r) ∧ ps.length + l.length ≤ 1100 ∧ SizesP ps

set_option maxHeartbeats 4000000 in
set_option maxRecDepth 100000 in
theorem rParse_own (s : ByteArray) (w : World) (hs : s.size ≤ 1100) :
    Calls Tryz.prog 80 #[.string s] w fun e w' => ∃ A c, e = .returned (.tuple #[mimV (parseR s.data.toList).1 A c, .int .i64 (parseR s.data.toList).2]) ∧ ParsAt w' w'.heap.size A (parseR s.data.toList).1.ps ∧ Below w.heap.size w w' ∧ ∀ g, A = some ⟨g, 0, none⟩ → w.heap.size ≤ g := by
  have hTz := trimB_le s
  have HTR := Lib.hid (fun w => rTrim_any s w (by unfold maxLen; omega))
  obtain ⟨PR, hpr⟩ : ∃ PR, parseR s.data.toList = PR := ⟨_, rfl⟩
  have HEQ := Lib.hid (fun d r hd hr => (parseR_eq s d r hd hr).symm.trans hpr)
  rw [hpr]
  clear hpr
  obtain ⟨l, hl⟩ : ∃ l, trimB s = bt l := ⟨(trimB s).data.toList, rfl⟩
  rw [hl] at HEQ HTR hTz
  rw [bt_list] at HEQ
  rw [bt_size] at hTz
  have hlz : l.length ≤ 1100 := by omega
  clear hTz hs hl
  have hb0 : Below w.heap.size w (w.alloc (.cells #[.string ⟨#[]⟩, .string ⟨#[]⟩, .slice none 0 0] 36)) := below_box w _
  have HR0 : Hid ((w.alloc (.cells #[.string ⟨#[]⟩, .string ⟨#[]⟩, .slice none 0 0] 36)).heap[w.heap.size]? = some (.cells #[.string ⟨#[]⟩, .string ⟨#[]⟩, .slice none 0 0] 36 (0, 0))) := Lib.hid (heap_alloc_new w _)
  have hz0 : (w.alloc (.cells #[.string ⟨#[]⟩, .string ⟨#[]⟩, .slice none 0 0] 36)).heap.size = w.heap.size + 1 := by simp
  have HUP := Lib.hid (fun w => upto_any ⟨#[47]⟩ nslash goes_slash l w (by unfold maxLen; omega) (by decide))
  have hkle := spanN_le nslash l
  have hx0 := bt_take nslash l
  have HTK := Lib.hid (fun w => r10Token_any (bt (l.takeWhile nslash)) w (by rw [bt_size]; have := tw_len nslash l; unfold maxLen; omega))
  rw [bt_list] at HTK
  go_enter Tryz.func80, Tryz.ntmps80
  go_wp2_with fail
  generalize w.alloc (.cells #[.string ⟨#[]⟩, .string ⟨#[]⟩, .slice none 0 0] 36) = W0 at *
  refine (HTR.out _).mono ?_
  rintro e w1 ⟨rfl, rfl⟩
  go_wp2_with fail
  refine (HUP.out _).mono ?_
  rintro e w1 ⟨rfl, rfl⟩
  have hkeq := span_full nslash l
  have hdz := dropWhile_len nslash l
  have hkz : spanN nslash l ≤ (bt l).size := hkle
  have HX1 := Lib.hid (bt_drop (spanN nslash l + 1) l)
  have HDR : Hid (l.drop (spanN nslash l + 1) = (l.dropWhile nslash).tail) := Lib.hid (by rw [← List.drop_drop, span_drop, List.drop_one])
  have hnx : (l.dropWhile nslash).isEmpty = false → spanN nslash l + 1 ≤ (bt l).size := fun h => by
    rw [bt_size]
    have h1 := span_drop nslash l
    have h2 : (l.drop (spanN nslash l)).length = (l.dropWhile nslash).length := by rw [h1]
    rw [List.length_drop] at h2
    have h3 : (l.dropWhile nslash) ≠ [] := by intro e; rw [e] at h; simp at h
    have h4 := List.length_pos_iff.2 h3
    omega
  have HNX := Lib.hid hnx
  have hEQ := HEQ.out _ _ rfl rfl
  have HQ := Lib.hid hEQ
  rw [tokL_lower] at HQ
  have hTz : (l.takeWhile nslash).length ≤ 1100 := by have := tw_len nslash l; omega
  have hrz : (l.dropWhile nslash).tail.length ≤ 1100 := by rw [List.length_tail]; omega
  clear hEQ HEQ hkle hdz hnx HUP HTR
  rw [HDR.out] at HX1
  clear HDR
  generalize spanN nslash l = k at *
  generalize l.takeWhile nslash = t at *
  generalize (l.dropWhile nslash).tail = r at *
  generalize (l.dropWhile nslash).isEmpty = de at *
  generalize tokL t = b1 at *
  go_upto_region 3 with fail
  go_cut [25] (fun u wx => u = .bool (!b1 || de) ∧ W0 = wx)
  case first =>
    cases b1
    · go_wp2_with (go_at_call 113; (with_reducible refine (HTK.out _).mono ?_); rintro e w' ⟨rfl, rfl⟩)
      go_meet
      exact ⟨rfl, rfl⟩
    · go_wp2_with (go_at_call 113; (with_reducible refine (HTK.out _).mono ?_); rintro e w' ⟨rfl, rfl⟩)
      go_meet
      exact ⟨by simp, rfl⟩
  obtain ⟨rfl, rfl⟩ := hcut
  cases hbad : (!b1 || de)
  · rw [Bool.or_eq_false_iff] at hbad
    obtain ⟨hb1, rfl⟩ := hbad
    obtain rfl : b1 = true := by simpa using hb1
    have hk1 := HNX.out rfl
    have HL1 := Lib.hid (fun w => rLower_any (bt t) w (by rw [bt_size]; unfold maxLen; omega) (by rw [bt_size]; omega))
    rw [lower_bt] at HL1
    have hx1 := HX1.out
    have hbz : (bt l).size ≤ 1100 := hlz
    have s0 : wrap64 ((k : Int) + 1) = (k : Int) + 1 := by unfold wrap64; omega
    have s1 : (0 : Int) ≤ (k : Int) + 1 := by omega
    have s2 : (k : Int) + 1 ≤ ((bt l).size : Int) := by omega
    have s4 : ((k : Int) + 1).toNat = k + 1 := by omega
    have hTz2 : (lowerL t).length ≤ 1100 := by unfold lowerL; rw [List.length_map]; exact hTz
    clear HTK hb1 hkeq HNX HX1 hTz
    go_wp2_with fail
    refine (HL1.out _).mono ?_
    rintro e w3 ⟨rfl, hb3⟩
    have hz3 := hb3.size
    go_upto_region 6 with fail
    have HP0 : Hid (ParV (w3.alloc (.cells #[.string (bt (lowerL t)), .string ⟨#[]⟩, .slice none 0 0] 36)) w w.heap.size w3.heap.size (bt (lowerL t)) ⟨#[]⟩ [] (.slice none 0 0) (w3.alloc (.cells #[.string (bt (lowerL t)), .string ⟨#[]⟩, .slice none 0 0] 36))) := Lib.hid
      { bF := heap_alloc_new w3 _
        row := World.ownsRow_nil _ _ _ _
        below := (hb0.trans (hb3.mono (by omega))).alloc (by omega) _
        bR := heap_old _ _ ((hb3.block _ (by omega)).trans HR0.out)
        size := Nat.le_refl _
        FW := by simp
        RW := by simp; omega
        ne3 := by omega
        wF := by omega
        wR := by omega
        wW := by simp; omega }
    clear hb3 hz3 HL1 HR0 hb0 hz0
    generalize hF : w3.heap.size = F at *
    generalize w3.alloc (.cells #[.string (bt (lowerL t)), .string ⟨#[]⟩, .slice none 0 0] 36) = W at *
    clear hF
    generalize lowerL t = T at *
    go_upto_region 7 with fail
    have HUP := Lib.hid (fun w => upto_any ⟨#[59]⟩ nsemi goes_semi r w (by unfold maxLen; omega) (by decide))
    have hkz2 : spanN nsemi r ≤ (bt r).size := spanN_le nsemi r
    have hx2 := bt_take nsemi r
    have hx3 := bt_rest nsemi r
    have hul := tw_len nsemi r
    have hel := trimEnd_le isWhite (r.takeWhile nsemi)
    have HBK := Lib.hid (fun w => rback_any (bt (r.takeWhile nsemi)) w (by rw [bt_size]; unfold maxLen; omega))
    rw [bt_list] at HBK
    have HTK := Lib.hid (fun w => r10Token_any (bt (trimEnd isWhite (r.takeWhile nsemi))) w (by rw [bt_size]; unfold maxLen; omega))
    have HL2 := Lib.hid (fun w => rLower_any (bt (trimEnd isWhite (r.takeWhile nsemi))) w (by rw [bt_size]; unfold maxLen; omega) (by rw [bt_size]; omega))
    rw [bt_list] at HTK
    rw [lower_bt] at HL2
    rw [tokL_lower] at HQ
    have hUz : (lowerL (trimEnd isWhite (r.takeWhile nsemi))).length ≤ 1100 := by unfold lowerL; rw [List.length_map]; omega
    have hhead := semi_head r
    have hrl := dropWhile_len nsemi r
    have hrz2 : (r.dropWhile nsemi).length ≤ 1100 := by omega
    clear hul hel hrl
    generalize lowerL (trimEnd isWhite (r.takeWhile nsemi)) = U at *
    generalize trimEnd isWhite (r.takeWhile nsemi) = t2 at *
    generalize r.takeWhile nsemi = t3 at *
    generalize r.dropWhile nsemi = l3 at *
    generalize spanN nsemi r = k2 at *
    generalize tokL t2 = b2 at *
    go_wp2_with (go_at_call 112; (with_reducible refine (HUP.out _).mono ?_); rintro e w' ⟨rfl, rfl⟩)
    go_upto_region 8 with fail
    cases b2
    · have HZ : Hid (PR = (noM, 2)) := Lib.hid (by rw [← HQ.out]; rfl)
      have HB := Lib.hid HP0.out.below
      have HR := Lib.hid HP0.out.bR
      have r0 : W.cell? ⟨w.heap.size, 0, none⟩ = some (.string ⟨#[]⟩) := by rw [Lib.cell_of_heap HR.out]; rfl
      have r1 : W.cell? ⟨w.heap.size, 1, none⟩ = some (.string ⟨#[]⟩) := by rw [Lib.cell_of_heap HR.out]; rfl
      have r2 : W.cell? ⟨w.heap.size, 2, none⟩ = some (.slice none 0 0) := by rw [Lib.cell_of_heap HR.out]; rfl
      have rz : ∀ o, W.frozen? ⟨w.heap.size, o, none⟩ = false := fun o => Lib.frozen_of_heap HR.out o
      go_wp2_with (first | (go_at_call 114; (with_reducible refine (HBK.out _).mono ?_); rintro e w' ⟨rfl, rfl⟩) | (go_at_call 113; (with_reducible refine (HTK.out _).mono ?_); rintro e w' ⟨rfl, rfl⟩))
      refine bodyPost_ret (v := .tuple #[mimV noM none 0, .int .i64 2]) ?_ rfl ?_
      · simp [results, Tryz.results80, go_sem, r0, r1, r2, mimV, noM, bt]
      · first
        | exact ⟨none, 0, by rw [HZ.out]; rfl, by rw [HZ.out]; exact .inl rfl, ((HB.out.setCell (by simp) _).setCell (by simp) _).setCell (by simp) _, by intro g h; cases h⟩
        | exact ⟨none, ⟨0, by rw [HZ.out]; rfl⟩, by rw [HZ.out]; exact .inl rfl, ((HB.out.setCell (by simp) _).setCell (by simp) _).setCell (by simp) _, by intro g h; cases h⟩
    · have HZ : Hid (PR = (⟨T, U, parsL [] l3⟩, 0)) := Lib.hid (by rw [← HQ.out]; rfl)
      go_wp2_with (first | (go_at_call 114; (with_reducible refine (HBK.out _).mono ?_); rintro e w' ⟨rfl, rfl⟩) | (go_at_call 113; (with_reducible refine (HTK.out _).mono ?_); rintro e w' ⟨rfl, rfl⟩))
      go_upto_region 10 with fail
      have hk2n : k2 ≤ 1100 := by have : (bt r).size ≤ 1100 := hrz; omega
      have c0 : W.cell? ⟨F, 0, none⟩ = some (.string (bt T)) := by rw [Lib.cell_of_heap HP0.out.bF]; rfl
      have c1 : W.cell? ⟨F, 1, none⟩ = some (.string ⟨#[]⟩) := by rw [Lib.cell_of_heap HP0.out.bF]; rfl
      have cz : ∀ o, W.frozen? ⟨F, o, none⟩ = false := fun o => Lib.frozen_of_heap HP0.out.bF o
      go_cut [0] (fun u wx => u = .string (bt l3) ∧ ParV W w w.heap.size F (bt T) (bt U) [] (.slice none 0 0) wx)
      case first =>
        go_region_held3 (fun _ => True) (trivial) (first | (go_at_call 114; (with_reducible refine (HBK.out _).mono ?_); rintro e w' ⟨rfl, rfl⟩) | (go_at_call 66; refine (HL2.out _).mono ?_; rintro e w5 ⟨rfl, hb5⟩; have HP5 := Lib.hid (HP0.out.belowOn (below_undrew hb5)); have d0 : w5.cell? ⟨F, 0, none⟩ = some (.string (bt T)) := (by rw [Lib.cell_of_heap HP5.out.bF]; rfl); have d1 : w5.cell? ⟨F, 1, none⟩ = some (.string ⟨#[]⟩) := (by rw [Lib.cell_of_heap HP5.out.bF]; rfl); have dz : ∀ o, w5.frozen? ⟨F, o, none⟩ = false := (fun o => Lib.frozen_of_heap HP5.out.bF o); clear hb5))
        all_goals go_wp2_with fail
        all_goals go_meet
        all_goals exact ⟨rfl, HP5.out.sub (bt U)⟩
      obtain ⟨rfl, hpv⟩ := hcut
      have HPV := Lib.hid hpv
      clear hpv c0 c1 cz HBK HTK HL2 HQ hx0 hx1 hx2 hx3 hk1 hkz hkz2 HUP s0 s1 s2 s4 hbz hrz hk2n HP0
      have HST : Hid (RefL W w w.heap.size F (bt T) (bt U) (parsL [] l3) (.string (bt l3)) wc) := Lib.hid ⟨l3, [], _, rfl, HPV.out, rfl, hhead, by simp; omega, by simp [SizesP]⟩
      clear hhead hrz2 HPV
      generalize parsL [] l3 = Z at *
      obtain ⟨i0, hi, hz0, hz1, hz2⟩ := info_parts infoPar
      have HI := Lib.hid hi; have HZ0 := Lib.hid hz0; have HZ1 := Lib.hid hz1; have HZ2 := Lib.hid hz2
      clear hi hz0 hz1 hz2
      go_upto_block 0 with fail
      go_cut [] (fun wx => ∃ v, ParV W w w.heap.size F (bt T) (bt U) Z v wx)
      case first =>
        go_wp2_with fail
        go_loopw [0] (fun q wr => RefL W w w.heap.size F (bt T) (bt U) Z q wr) (fun q _ => strLen q)
        case atStart => exact HST.out
        case round =>
          clear HST
          obtain ⟨l, ps, v, rfl, hp, hz, hh, hcnt, hsz⟩ := hrel
          have HP := Lib.hid hp
          clear hp
          rcases hh with rfl | ⟨r, rfl⟩
          · rw [parsL_nil] at hz
            have hs0 : (bt []).size = 0 := rfl
            go_wp2_with fail
            go_meet
            exact ⟨v, hz ▸ HP.out⟩
          · have hlt : 0 < (bt (59 :: r)).size := by rw [bt_size]; simp
            have hs1 : (1 : Int) ≤ ((bt (59 :: r)).size : Int) := by omega
            have htl : (bt (59 :: r)).extract 1 (bt (59 :: r)).size = bt r := bt_drop 1 (59 :: r)
            rw [parsL_semi] at hz
            have HZZ := Lib.hid hz
            have hrz : r.length + 1 ≤ 1100 := by simp at hcnt; omega
            have hlen : strLen (Value.string (bt (59 :: r))) = r.length + 1 := by show (bt (59 :: r)).size = _; rw [bt_size]; simp
            have hcnt2 : ps.length + (r.length + 1) ≤ 1100 := by simp at hcnt; omega
            clear hz hcnt
            generalize bt (59 :: r) = tx at *
            go_upto_block 2 with fail
            go_cut [0] (fun u wx => u = .string (bt (r.dropWhile isWhite)) ∧ wr = wx)
            case first =>
              go_wp2_with fail
              go_loop [0] (fun q => ∃ l' : List UInt8, q = .string (bt l') ∧ l'.dropWhile isWhite = r.dropWhile isWhite ∧ l'.length ≤ r.length) (fun q => strLen q)
              case atStart => exact ⟨r, rfl, rfl, Nat.le_refl _⟩
              case round =>
                obtain ⟨l', rfl, hw, hl'⟩ := hrel
                cases l' with
                | nil =>
                  have hs0 : (bt []).size = 0 := rfl
                  go_wp2_with fail
                  go_meet
                  exact ⟨by rw [← hw]; rfl, rfl⟩
                | cons x q =>
                  have hlt2 : 0 < (bt (x :: q)).size := by rw [bt_size]; simp
                  have hs2 : (1 : Int) ≤ ((bt (x :: q)).size : Int) := by omega
                  have htl2 : (bt (x :: q)).extract 1 (bt (x :: q)).size = bt q := bt_drop 1 (x :: q)
                  have hidx := fun w => index_zero 9 Tryz.underlying9 (bt (x :: q)) hlt2 w
                  have hx0 : (bt (x :: q))[0]'hlt2 = x := rfl
                  rw [hx0] at hidx
                  have hlen2 : strLen (Value.string (bt (x :: q))) = q.length + 1 := by show (bt (x :: q)).size = _; rw [bt_size]; simp
                  have HW := Lib.hid hw
                  have hql : q.length ≤ r.length := by simp at hl'; omega
                  clear hw hl' hx0
                  cases hb : isWhite x
                  · have HB := Lib.hid hb
                    have HE : Hid (bt (x :: q) = bt (r.dropWhile isWhite)) := Lib.hid (by rw [← HW.out, List.dropWhile_cons, hb]; rfl)
                    clear hb
                    generalize bt (x :: q) = ty at *
                    go_wp2_with (go_at_call 115; refine (rWhite_any x _).mono ?_; rintro e w' ⟨rfl, rfl⟩; rw [HB.out])
                    go_meet
                    exact ⟨by rw [HE.out], rfl⟩
                  · have HB := Lib.hid hb
                    have HE : Hid (q.dropWhile isWhite = r.dropWhile isWhite) := Lib.hid (by rw [← HW.out, List.dropWhile_cons, hb]; rfl)
                    clear hb HW
                    generalize bt (x :: q) = ty at *
                    go_wp2_with (go_at_call 115; refine (rWhite_any x _).mono ?_; rintro e w' ⟨rfl, rfl⟩; rw [HB.out])
                    go_round
                    case rel => exact ⟨q, rfl, HE.out, hql⟩
                    case measure => rw [hlen2]; show (bt q).size < _; rw [bt_size]; omega
            obtain ⟨rfl, rfl⟩ := hcut
            clear htl hlt hs1
            have HUP := Lib.hid (fun w => upto_any ⟨#[59, 61]⟩ nname goes_name (r.dropWhile isWhite) w (by have := dropWhile_len isWhite r; unfold maxLen; omega) (by decide))
            have hkz : spanN nname (r.dropWhile isWhite) ≤ (bt (r.dropWhile isWhite)).size := spanN_le nname (r.dropWhile isWhite)
            have hx4 := bt_take nname (r.dropWhile isWhite)
            have hx5 := bt_rest nname (r.dropWhile isWhite)
            have hkn : spanN nname (r.dropWhile isWhite) ≤ 1100 := by have h1 := spanN_le nname (r.dropWhile isWhite); have h2 := dropWhile_len isWhite r; omega
            have hnl := tw_len nname (r.dropWhile isWhite)
            have hyl := dropWhile_len nname (r.dropWhile isWhite)
            have hwl := dropWhile_len isWhite r
            have HL3 := Lib.hid (fun w => rLower_any (bt ((r.dropWhile isWhite).takeWhile nname)) w (by rw [bt_size]; unfold maxLen; omega) (by rw [bt_size]; omega))
            rw [lower_bt] at HL3
            have hNz : (lowerL ((r.dropWhile isWhite).takeWhile nname)).length ≤ 1100 := by unfold lowerL; rw [List.length_map]; omega
            have hy2 := drop_head nname (r.dropWhile isWhite)
            have hyr : ((r.dropWhile isWhite).dropWhile nname).length ≤ r.length := by omega
            have HPS : Hid (parmStep r = (if ((r.dropWhile isWhite).dropWhile nname).head? = some 61 then (if ((r.dropWhile isWhite).dropWhile nname).tail = [] then (lowerL ((r.dropWhile isWhite).takeWhile nname), [], false, [])
              else (lowerL ((r.dropWhile isWhite).takeWhile nname), (valL ((r.dropWhile isWhite).dropWhile nname).tail).1, (valL ((r.dropWhile isWhite).dropWhile nname).tail).2.1 && tokL (lowerL ((r.dropWhile isWhite).takeWhile nname)) && quoL (valL ((r.dropWhile isWhite).dropWhile nname).tail).1, (valL ((r.dropWhile isWhite).dropWhile nname).tail).2.2))
              else (lowerL ((r.dropWhile isWhite).takeWhile nname), [], false, (r.dropWhile isWhite).dropWhile nname))) := Lib.hid rfl
            clear hnl hyl hwl
            generalize lowerL ((r.dropWhile isWhite).takeWhile nname) = N at *
            generalize (r.dropWhile isWhite).takeWhile nname = nm at *
            generalize (r.dropWhile isWhite).dropWhile nname = y2 at *
            generalize spanN nname (r.dropWhile isWhite) = k3 at *
            generalize r.dropWhile isWhite = y at *
            go_wp2_with (go_at_call 112; (with_reducible refine (HUP.out _).mono ?_); rintro e w' ⟨rfl, rfl⟩)
            refine (HL3.out _).mono ?_
            rintro e w2 ⟨rfl, hb2⟩
            have HP2 := Lib.hid (HP.out.belowOn hb2)
            clear hb2 HP HL3 HUP
            rcases hy2 with rfl | ⟨b, q, rfl, hb⟩
            · have HPS2 : Hid (parmStep r = (N, [], false, [])) := HPS
              have HE : Hid (ps = Z) := Lib.hid (by rw [← HZZ.out, HPS2.out]; show ps = parsL ps []; rw [parsL_nil])
              have hs0 : (bt []).size = 0 := rfl
              clear HPS
              go_wp2_with fail
              go_meet
              exact ⟨v, HE.out ▸ HP2.out⟩
            · have hlt : 0 < (bt (b :: q)).size := by rw [bt_size]; simp
              have hs1 : (1 : Int) ≤ ((bt (b :: q)).size : Int) := by omega
              have htl : (bt (b :: q)).extract 1 (bt (b :: q)).size = bt q := bt_drop 1 (b :: q)
              have hidx := fun w => index_zero 9 Tryz.underlying9 (bt (b :: q)) hlt w
              have hx0 : (bt (b :: q))[0]'hlt = b := rfl
              rw [hx0] at hidx
              have hql : q.length + 1 ≤ r.length := by simpa using hyr
              have hlen3 : strLen (Value.string (bt (b :: q))) = q.length + 1 := by show (bt (b :: q)).size = _; rw [bt_size]; simp
              have HTX : Hid (∀ tq, bt (b :: q) = tq → Value.string tq = .string (bt (b :: q))) := Lib.hid (fun tq h => by rw [h])
              clear hyr hx0
              by_cases h59 : b = 59
              · subst h59
                have HPS2 : Hid (parmStep r = (N, [], false, 59 :: q)) := HPS
                have HE : Hid (parsL ps (59 :: q) = Z) := Lib.hid (by have := HZZ.out; rw [HPS2.out] at this; exact this)
                have e59 : ((59 : UInt8).toNat : Int) = 59 := rfl
                rw [e59] at hidx
                obtain ⟨tq, htq⟩ : ∃ tq, bt (59 :: q) = tq := ⟨_, rfl⟩
                have HTQ := Lib.hid htq
                rw [htq] at hlt hs1 htl hidx hx5 hlen3
                clear htq HPS e59
                go_wp2_with fail
                go_roundw
                case rel => exact ⟨59 :: q, ps, v, by rw [HTQ.out], HP2.out, HE.out, .inr ⟨q, rfl⟩, by simp; omega, hsz⟩
                case measure => rw [hlen]; show strLen (.string tq) < _; rw [hlen3]; omega
              · have h61 : b = 61 := by
                  unfold nname at hb
                  simp at hb
                  exact hb h59
                subst h61
                have e61 : ((61 : UInt8).toNat : Int) = 61 := rfl
                rw [e61] at hidx
                obtain ⟨tq, htq⟩ : ∃ tq, bt (61 :: q) = tq := ⟨_, rfl⟩
                rw [htq] at hlt hs1 htl hidx hx5 hlen3
                clear htq e61 HTX h59 hb
                cases q with
                | nil =>
                  have HPS2 : Hid (parmStep r = (N, [], false, [])) := HPS
                  have HE : Hid (ps = Z) := Lib.hid (by rw [← HZZ.out, HPS2.out]; show ps = parsL ps []; rw [parsL_nil])
                  have hs0 : (bt []).size = 0 := rfl
                  clear HPS
                  go_wp2_with fail
                  go_meet
                  exact ⟨v, HE.out ▸ HP2.out⟩
                | cons z q =>
                  have HPS2 : Hid (parmStep r = (N, (valL (z :: q)).1, (valL (z :: q)).2.1 && tokL N && quoL (valL (z :: q)).1, (valL (z :: q)).2.2)) := HPS
                  clear HPS
                  have hlt5 : 0 < (bt (z :: q)).size := by rw [bt_size]; simp
                  have hidx5 := fun w => index_zero 9 Tryz.underlying9 (bt (z :: q)) hlt5 w
                  have hx05 : (bt (z :: q))[0]'hlt5 = z := rfl
                  rw [hx05] at hidx5
                  clear hx05
                  go_upto_region 22 with fail
                  have hvl := valL_len2 (z :: q)
                  have hvr := valL_len (z :: q)
                  have hvh := valL_head (z :: q)
                  have hqlz : (z :: q).length ≤ 1100 := by simp at hql ⊢; omega
                  go_cut [0, 7, 8] (fun a b c wx => a = .string (bt (z :: q)) ∧ b = .string ⟨#[]⟩ ∧ c = .bool (z == 34) ∧ ParV W w w.heap.size F (bt T) (bt U) ps v wx)
                  case first =>
                    have hz34 : ((z.toNat : Int) == 34) = (z == 34) := by
                      rw [Bool.eq_iff_iff, beq_iff_eq, beq_iff_eq]
                      constructor
                      · intro h; exact UInt8.toNat_inj.1 (by show z.toNat = 34; omega)
                      · rintro rfl; rfl
                    go_region_held3 (fun _ => True) (trivial) (fail)
                    all_goals go_wp2_with fail
                    all_goals go_meet
                    all_goals exact ⟨rfl, rfl, by rw [← hz34], HP2.out.belowOn (Below.refl _ _).drew⟩
                  obtain ⟨rfl, rfl, rfl, hp3⟩ := hcut
                  have HP3 := Lib.hid hp3
                  clear hp3 hidx5 HP2 hidx htl
                  go_upto_if 92 with fail
                  go_cut [0, 7, 8] (fun a b c wx => a = .string (bt (valL (z :: q)).2.2) ∧ b = .string (bt (valL (z :: q)).1) ∧ c = .bool (z == 34) ∧ ParV W w w.heap.size F (bt T) (bt U) ps v wx)
                  case first =>
                    by_cases h34 : z = 34
                    · subst h34
                      have hV : valL (34 :: q) = ((readL q).1, true, (q.drop (readL q).2).dropWhile nsemi) := by unfold valL; rfl
                      have HV := Lib.hid hV
                      have hr1 := (readL_le q).1
                      have HRD := Lib.hid (fun w => rRead_any (bt (34 :: q)) w hlt5 (by rw [bt_size]; omega))
                      have hd1 : dropB (bt (34 :: q)) 1 = q := rfl
                      rw [hd1] at HRD
                      have hn1 : 1 + (readL q).2 ≤ (bt (34 :: q)).size := by rw [bt_size]; simp; omega
                      have hn2 : 1 + (readL q).2 ≤ 1101 := by simp at hqlz; omega
                      have hx6 : (bt (34 :: q)).extract (1 + (readL q).2) (bt (34 :: q)).size = bt (q.drop (readL q).2) := by rw [bt_drop, ← List.drop_drop]; rfl
                      have hdl : (q.drop (readL q).2).length ≤ 1100 := by rw [List.length_drop]; simp at hqlz; omega
                      have HUP := Lib.hid (fun w => upto_any ⟨#[59]⟩ nsemi goes_semi (q.drop (readL q).2) w (by unfold maxLen; omega) (by decide))
                      have hk4 : spanN nsemi (q.drop (readL q).2) ≤ (bt (q.drop (readL q).2)).size := spanN_le nsemi _
                      have hk4n : spanN nsemi (q.drop (readL q).2) ≤ 1100 := by have := spanN_le nsemi (q.drop (readL q).2); omega
                      have hx7 := bt_rest nsemi (q.drop (readL q).2)
                      have HB34 : Hid (((34 : UInt8) == 34) = true) := Lib.hid rfl
                      clear hV hr1 hd1 hdl HPS2 hvl hvr hvh hqlz
                      generalize valL (34 :: q) = VV at *
                      generalize (q.drop (readL q).2).dropWhile nsemi = RS at *
                      generalize spanN nsemi (q.drop (readL q).2) = k4 at *
                      generalize q.drop (readL q).2 = q2 at *
                      generalize 1 + (readL q).2 = n1 at *
                      generalize readL q = RD at *
                      rw [HB34.out]
                      go_wp2_with fail
                      refine (HRD.out _).mono ?_
                      rintro e w4 ⟨rfl, hb4⟩
                      have HP4 := Lib.hid (HP3.out.belowOn hb4)
                      clear hb4
                      go_upto_region 25 with fail
                      go_region_held3 (fun _ => True) (trivial) (fail)
                      all_goals go_wp2_with (go_at_call 112; (with_reducible refine (HUP.out _).mono ?_); rintro e w' ⟨rfl, rfl⟩)
                      all_goals go_meet
                      all_goals exact ⟨by rw [HV.out], by rw [HV.out]; rfl, rfl, HP4.out.belowOn (Below.refl _ _).drew⟩
                    · have hh : (z :: q).head? ≠ some 34 := by simpa using h34
                      have HV := Lib.hid (valL_plain (z :: q) hh)
                      have HUP := Lib.hid (fun w => upto_any ⟨#[59]⟩ nsemi goes_semi (z :: q) w (by unfold maxLen; omega) (by decide))
                      have hk4 : spanN nsemi (z :: q) ≤ (bt (z :: q)).size := spanN_le nsemi _
                      have hk4n : spanN nsemi (z :: q) ≤ 1100 := by have := spanN_le nsemi (z :: q); omega
                      have hx6 := bt_take nsemi (z :: q)
                      have hx7 := bt_rest nsemi (z :: q)
                      have hul := tw_len nsemi (z :: q)
                      have HBK := Lib.hid (fun w => rback_any (bt ((z :: q).takeWhile nsemi)) w (by rw [bt_size]; unfold maxLen; omega))
                      rw [bt_list] at HBK
                      have HB34 : Hid ((z == 34) = false) := Lib.hid (beq_eq_false_iff_ne.2 h34)
                      clear hul hh HPS2 hvl hvr hvh hqlz h34
                      generalize valL (z :: q) = VV at *
                      generalize (z :: q).dropWhile nsemi = RS at *
                      generalize spanN nsemi (z :: q) = k4 at *
                      generalize (z :: q).takeWhile nsemi = t4 at *
                      generalize trimEnd isWhite t4 = t5 at *
                      generalize bt (z :: q) = tz at *
                      rw [HB34.out]
                      go_wp2_with (go_at_call 112; (with_reducible refine (HUP.out _).mono ?_); rintro e w' ⟨rfl, rfl⟩)
                      go_region_held3 (fun _ => True) (trivial) (first | (go_at_call 114; (with_reducible refine (HBK.out _).mono ?_); rintro e w' ⟨rfl, rfl⟩) | fail)
                      all_goals go_wp2_with fail
                      all_goals go_meet
                      all_goals exact ⟨by rw [HV.out], by rw [HV.out], by rw [HB34.out], HP3.out.belowOn (Below.refl _ _).drew⟩
                  obtain ⟨rfl, rfl, rfl, hp4⟩ := hcut
                  have HP4 := Lib.hid hp4
                  clear hp4 HP3
                  have HOK : Hid ((valL (z :: q)).2.1 = ((z == 34) || !(valL (z :: q)).1.isEmpty)) := Lib.hid (by
                    by_cases h34 : z = 34
                    · subst h34; unfold valL; rfl
                    · rw [valL_plain (z :: q) (by simpa using h34), beq_eq_false_iff_ne.2 h34]; rfl)
                  have hem : (bt (valL (z :: q)).1).toList.isEmpty = (valL (z :: q)).1.isEmpty := by rw [Lib.toList_data]; rfl
                  have hql2 : (z :: q).length + 1 ≤ r.length := hql
                  clear hlt5 hlen3 hql
                  generalize valL (z :: q) = VV at *
                  generalize (z == 34) = qt at *
                  obtain ⟨V, okv, RS⟩ := VV
                  dsimp only at HPS2 hvl hvr hvh HOK hem ⊢
                  have HVN : Hid (V.isEmpty = true → V = []) := Lib.hid (fun h => List.isEmpty_iff.1 h)
                  generalize V.isEmpty = em at *
                  have hVz : V.length ≤ 1100 := by omega
                  have hRz : RS.length + 1 ≤ r.length := by omega
                  clear hvl hvr hql2 hqlz
                  have HTK := Lib.hid (fun w => r10Token_any (bt N) w (by rw [bt_size]; unfold maxLen; omega))
                  have HQU := Lib.hid (fun w => r10Quoted_any (bt V) w (by rw [bt_size]; unfold maxLen; omega))
                  rw [bt_list] at HTK HQU
                  have HSM : Hid (SizesM ⟨T, U, ps⟩) := Lib.hid ⟨hTz2, hUz, hsz⟩
                  have HNZ : Hid (SizesP (ps ++ [(N, V)])) := Lib.hid ⟨by rw [List.length_append]; simp; omega, fun p hp => by
                    rcases List.mem_append.1 hp with hp | hp
                    · exact hsz.2 p hp
                    · simp at hp; subst hp; exact ⟨hNz, hVz⟩⟩
                  obtain ⟨A, c, rfl, hA⟩ := pars_of_own HP4.out.row rfl
                  have HAT := Lib.hid (rAt_par ⟨T, U, ps⟩ A c (bt N) wc HSM.out hA)
                  rw [bt_list] at HAT
                  unfold mimV at HAT
                  dsimp only at HAT
                  clear hA
                  have f0 : wc.cell? ⟨F, 0, none⟩ = some (.string (bt T)) := by rw [Lib.cell_of_heap HP4.out.bF]; rfl
                  have f1 : wc.cell? ⟨F, 1, none⟩ = some (.string (bt U)) := by rw [Lib.cell_of_heap HP4.out.bF]; rfl
                  have f2 : wc.cell? ⟨F, 2, none⟩ = some (.slice A ps.length c) := by rw [Lib.cell_of_heap HP4.out.bF]; rfl
                  have HADD : Hid (addP ps (N, V, okv && tokL N && quoL V, RS) = if (okv && tokL N && quoL V && decide (atL ps N < 0)) then ps ++ [(N, V)] else ps) := Lib.hid rfl
                  have HZF : Hid (parsL (addP ps (N, V, okv && tokL N && quoL V, RS)) RS = Z) := Lib.hid (by have := HZZ.out; rw [HPS2.out] at this; exact this)
                  clear HPS2 HZZ
                  go_upto_region 29 with fail
                  generalize tokL N = rt at *
                  generalize quoL V = rq at *
                  generalize hAL : atL ps N = al at *
                  go_cut [8, 133] (fun _ u wx => u = .bool (okv && rt && rq && decide (al < 0)) ∧ ParV W w w.heap.size F (bt T) (bt U) ps (.slice A ps.length c) wx)
                  case first =>
                    cases hok : okv
                    · have h2 := HOK.out
                      rw [hok] at h2
                      obtain ⟨rfl, he2⟩ := Bool.or_eq_false_iff.1 h2.symm
                      obtain rfl : em = true := by cases em with | true => rfl | false => exact absurd he2 (by decide)
                      obtain rfl := HVN.out rfl
                      have hb0 : bt [] = (⟨#[]⟩ : ByteArray) := rfl
                      clear h2 he2 hem
                      rw [hb0]
                      clear hb0
                      go_wp2_with fail
                      go_meet
                      exact ⟨by rw [hok]; rfl, HP4.out⟩
                    · have hq2 : (qt || !em) = true := by rw [← HOK.out, hok]
                      cases hrt : rt
                      · rw [hrt] at HTK
                        cases hqt : qt
                        · obtain rfl : em = false := by rw [hqt] at hq2; cases em with | false => rfl | true => exact absurd hq2 (by decide)
                          go_wp2_with (go_at_call 113; (with_reducible refine (HTK.out _).mono ?_); rintro e w' ⟨rfl, rfl⟩)
                          go_meet
                          exact ⟨by rw [hok, hrt]; rfl, HP4.out⟩
                        · go_wp2_with (go_at_call 113; (with_reducible refine (HTK.out _).mono ?_); rintro e w' ⟨rfl, rfl⟩)
                          go_meet
                          exact ⟨by rw [hok, hrt]; rfl, HP4.out⟩
                      · rw [hrt] at HTK
                        cases hrq : rq
                        · rw [hrq] at HQU
                          cases hqt : qt
                          · obtain rfl : em = false := by rw [hqt] at hq2; cases em with | false => rfl | true => exact absurd hq2 (by decide)
                            go_wp2_with (first | (go_at_call 113; (with_reducible refine (HTK.out _).mono ?_); rintro e w' ⟨rfl, rfl⟩) | (go_at_call 117; (with_reducible refine (HQU.out _).mono ?_); rintro e w' ⟨rfl, rfl⟩))
                            go_meet
                            exact ⟨by rw [hok, hrt, hrq]; rfl, HP4.out⟩
                          · go_wp2_with (first | (go_at_call 113; (with_reducible refine (HTK.out _).mono ?_); rintro e w' ⟨rfl, rfl⟩) | (go_at_call 117; (with_reducible refine (HQU.out _).mono ?_); rintro e w' ⟨rfl, rfl⟩))
                            go_meet
                            exact ⟨by rw [hok, hrt, hrq]; rfl, HP4.out⟩
                        · rw [hrq] at HQU
                          cases hqt : qt
                          · obtain rfl : em = false := by rw [hqt] at hq2; cases em with | false => rfl | true => exact absurd hq2 (by decide)
                            go_wp2_with (first | (go_at_call 113; (with_reducible refine (HTK.out _).mono ?_); rintro e w' ⟨rfl, rfl⟩) | (go_at_call 117; (with_reducible refine (HQU.out _).mono ?_); rintro e w' ⟨rfl, rfl⟩))
                            refine HAT.out.mono ?_
                            rintro e w5 ⟨rfl, hb5⟩
                            have HP5 := Lib.hid (HP4.out.belowOn hb5)
                            clear hb5
                            go_wp2_with fail
                            go_meet
                            exact ⟨by rw [hok, hrt, hrq]; first | rfl | simp, HP5.out⟩
                          · go_wp2_with (first | (go_at_call 113; (with_reducible refine (HTK.out _).mono ?_); rintro e w' ⟨rfl, rfl⟩) | (go_at_call 117; (with_reducible refine (HQU.out _).mono ?_); rintro e w' ⟨rfl, rfl⟩))
                            refine HAT.out.mono ?_
                            rintro e w5 ⟨rfl, hb5⟩
                            have HP5 := Lib.hid (HP4.out.belowOn hb5)
                            clear hb5
                            go_wp2_with fail
                            go_meet
                            exact ⟨by rw [hok, hrt, hrq]; first | rfl | simp, HP5.out⟩
                  obtain ⟨rfl, hp5⟩ := hcut
                  have HP5 := Lib.hid hp5
                  clear hp5 f0 f1 f2 HAT HTK HQU HP4 hem
                  generalize (okv && rt && rq && decide (al < 0)) = add at *
                  cases add
                  · have HE : Hid (parsL ps RS = Z) := Lib.hid (by have := HZF.out; rw [HADD.out, if_neg (by simp)] at this; exact this)
                    go_wp2_with fail
                    go_roundw
                    case rel => exact ⟨RS, ps, _, rfl, HP5.out, HE.out, hvh, by omega, hsz⟩
                    case measure => rw [hlen]; show (bt RS).size < _; rw [bt_size]; omega
                  · have HE : Hid (parsL (ps ++ [(N, V)]) RS = Z) := Lib.hid (by have := HZF.out; rw [HADD.out, if_pos rfl] at this; exact this)
                    have f2 : wc.cell? ⟨F, 2, none⟩ = some (.slice A ps.length c) := by rw [Lib.cell_of_heap HP5.out.bF]; rfl
                    have HP6 := Lib.hid (HP5.out.belowOn (below_box wc (.cells #[.string (bt N), .string (bt V)] 96)))
                    have K0 := Lib.hid HP6.out.row
                    have K1 := Lib.hid (par_cells_new wc (N, V) 96)
                    have K2 := Lib.hid (show ∀ u ∈ parCells (N, V), u.oneCell' = true from by intro u hu; simp [parCells] at hu; rcases hu with rfl | rfl <;> rfl)
                    have K3 := Lib.hid (show ps.length + 1 ≤ maxLen from by unfold maxLen; omega)
                    have K4 := Lib.hid (show (ps.length + 1) * 32 ≤ 140737488355328 from by omega)
                    have K5 := Lib.hid HP6.out.size
                    have K6 : Hid (∀ w9, (wc.alloc (.cells #[.string (bt N), .string (bt V)] 96)).grownBy w9 (Value.slice A ps.length c).ownBlock → w9.heap[F]? = some (.cells #[.string (bt T), .string (bt U), .slice A ps.length c] 36 (0, 0))) :=
                      Lib.hid (fun w9 hg => (hg.block F (by have := HP6.out.FW; have := HP6.out.size; omega) (fun e => by have := (HP6.out.row.lt F e.symm).1; have := HP6.out.FW; omega)).trans HP6.out.bF)
                    go_wp2_with (at_builtin; go_must (refine wpList_append_lies _ rfl (.tmp 135) (.tmp 139) 34 rfl W.heap.size 96 i0 (.agg #[.string ByteArray.empty, .string ByteArray.empty]) 2 32 Tryz.underlying34 HI.out HZ0.out HZ1.out HZ2.out rfl (by decide) (.slice A ps.length c) ps.length (rowQ ps) rfl K0.out ⟨wc.heap.size, 0, none⟩ 1 1 (parCells (N, V)) rfl rfl K1.out K2.out (by decide) K3.out K4.out K5.out _ rfl ?_; intro g3 c3 w9 hown hgrow hat9 hlt9; have hf9 := K6.out w9 hgrow; have y2 : w9.cell? ⟨F, 2, none⟩ = some (.slice A ps.length c) := (by rw [Lib.cell_of_heap hf9]; rfl); have yz : ∀ o, w9.frozen? ⟨F, o, none⟩ = false := (fun o => Lib.frozen_of_heap hf9 o); have HP9 := Lib.hid (HP6.out.more hgrow hown); clear hown hgrow hat9 hlt9 hf9))
                    go_roundw
                    case rel => exact ⟨RS, _, _, rfl, HP9.out, HE.out, hvh, by rw [List.length_append]; simp; omega, HNZ.out⟩
                    case measure => rw [hlen]; show (bt RS).size < _; rw [bt_size]; omega
      obtain ⟨v, hpz⟩ := hcut
      have HPZ := Lib.hid hpz
      clear hpz HST
      obtain ⟨A, c, rfl, hA⟩ := pars_of_own HPZ.out.row rfl
      have HA := Lib.hid hA
      clear hA
      have f0 : wc.cell? ⟨F, 0, none⟩ = some (.string (bt T)) := by rw [Lib.cell_of_heap HPZ.out.bF]; rfl
      have f1 : wc.cell? ⟨F, 1, none⟩ = some (.string (bt U)) := by rw [Lib.cell_of_heap HPZ.out.bF]; rfl
      have f2 : wc.cell? ⟨F, 2, none⟩ = some (.slice A Z.length c) := by rw [Lib.cell_of_heap HPZ.out.bF]; rfl
      have r0 : wc.cell? ⟨w.heap.size, 0, none⟩ = some (.string ⟨#[]⟩) := by rw [Lib.cell_of_heap HPZ.out.bR]; rfl
      have r1 : wc.cell? ⟨w.heap.size, 1, none⟩ = some (.string ⟨#[]⟩) := by rw [Lib.cell_of_heap HPZ.out.bR]; rfl
      have r2 : wc.cell? ⟨w.heap.size, 2, none⟩ = some (.slice none 0 0) := by rw [Lib.cell_of_heap HPZ.out.bR]; rfl
      have rz : ∀ o, wc.frozen? ⟨w.heap.size, o, none⟩ = false := fun o => Lib.frozen_of_heap HPZ.out.bR o
      go_wp2_with fail
      refine bodyPost_ret (v := .tuple #[mimV ⟨T, U, Z⟩ A c, .int .i64 0]) ?_ rfl ?_
      · simp [results, Tryz.results80, go_sem, r0, r1, r2, mimV]
      · have hfar : ∀ q, A = some ⟨q, 0, none⟩ → w.heap.size ≠ q := fun q hq => by
          subst hq
          have h1 := (HPZ.out.row.lt q rfl).1
          have h2 := HPZ.out.RW
          omega
        exact ⟨A, c, by rw [HZ.out]; rfl, by rw [HZ.out]; exact (((HA.out.set hfar _).set hfar _).set hfar _).more (by simp), ((HPZ.out.below.setCell (by simp) _).setCell (by simp) _).setCell (by simp) _, fun q hq => by
          subst hq
          have h1 := (HPZ.out.row.lt q rfl).1
          have h2 := HPZ.out.RW
          omega⟩
  · have HZ : Hid (PR = (noM, 2)) := Lib.hid (by
      rw [← HQ.out, if_pos]
      rw [Bool.or_eq_true] at hbad
      rcases hbad with h | h
      · simp at h; rw [h]; simp
      · rw [h]; simp)
    have r0 : W0.cell? ⟨w.heap.size, 0, none⟩ = some (.string ⟨#[]⟩) := by rw [Lib.cell_of_heap HR0.out]; rfl
    have r1 : W0.cell? ⟨w.heap.size, 1, none⟩ = some (.string ⟨#[]⟩) := by rw [Lib.cell_of_heap HR0.out]; rfl
    have r2 : W0.cell? ⟨w.heap.size, 2, none⟩ = some (.slice none 0 0) := by rw [Lib.cell_of_heap HR0.out]; rfl
    have rz : ∀ o, W0.frozen? ⟨w.heap.size, o, none⟩ = false := fun o => Lib.frozen_of_heap HR0.out o
    go_wp2_with fail
    refine bodyPost_ret (v := .tuple #[mimV noM none 0, .int .i64 2]) ?_ rfl ?_
    · simp [results, Tryz.results80, go_sem, r0, r1, r2, mimV, noM, bt]
    · first
      | exact ⟨none, 0, by rw [HZ.out]; rfl, by rw [HZ.out]; exact .inl rfl, ((hb0.setCell (by simp) _).setCell (by simp) _).setCell (by simp) _, by intro g h; cases h⟩
      | exact ⟨none, ⟨0, by rw [HZ.out]; rfl⟩, by rw [HZ.out]; exact .inl rfl, ((hb0.setCell (by simp) _).setCell (by simp) _).setCell (by simp) _, by intro g h; cases h⟩

theorem rParse_any (s : ByteArray) (w : World) (hs : s.size ≤ 1100) :
    Calls Tryz.prog 80 #[.string s] w fun e w' => ∃ A c, e = .returned (.tuple #[mimV (parseR s.data.toList).1 A c, .int .i64 (parseR s.data.toList).2]) ∧ ParsAt w' w'.heap.size A (parseR s.data.toList).1.ps ∧ Below w.heap.size w w' :=
  (rParse_own s w hs).mono fun _ _ ⟨A, c, h1, h2, h3, _⟩ => ⟨A, c, h1, h2, h3⟩

end Go.Proofs.YtcbhkcdphbffpaaGreatDoor

namespace Go.Proofs.YtcbhkcdphbffpaaGreatDoor
open Go.RowKit
set_option linter.unusedSimpArgs false
set_option linter.unusedVariables false

def livL : List UInt8 := [32, 84, 101, 120, 116, 47, 72, 84, 77, 76, 59, 67, 104, 97, 114, 115, 101, 116, 61, 34, 117, 116, 102, 45, 56, 34, 32]

def livM : MimeL := ⟨[116, 101, 120, 116], [104, 116, 109, 108], [([99, 104, 97, 114, 115, 101, 116], [117, 116, 102, 45, 56])]⟩

theorem liv_parse : parseR livL = (livM, 0) := by
  unfold parseR parseL
  dsimp only
  rw [show trimL isWhite livL = [84, 101, 120, 116, 47, 72, 84, 77, 76, 59, 67, 104, 97, 114, 115, 101, 116, 61, 34, 117, 116, 102, 45, 56, 34] from by decide +kernel]
  rw [show List.dropWhile nslash ([84, 101, 120, 116, 47, 72, 84, 77, 76, 59, 67, 104, 97, 114, 115, 101, 116, 61, 34, 117, 116, 102, 45, 56, 34] : List UInt8) = [47, 72, 84, 77, 76, 59, 67, 104, 97, 114, 115, 101, 116, 61, 34, 117, 116, 102, 45, 56, 34] from by decide +kernel]
  rw [show List.takeWhile nslash ([84, 101, 120, 116, 47, 72, 84, 77, 76, 59, 67, 104, 97, 114, 115, 101, 116, 61, 34, 117, 116, 102, 45, 56, 34] : List UInt8) = [84, 101, 120, 116] from by decide +kernel]
  rw [List.tail_cons]
  rw [show List.takeWhile nsemi ([72, 84, 77, 76, 59, 67, 104, 97, 114, 115, 101, 116, 61, 34, 117, 116, 102, 45, 56, 34] : List UInt8) = [72, 84, 77, 76] from by decide +kernel]
  rw [show List.dropWhile nsemi ([72, 84, 77, 76, 59, 67, 104, 97, 114, 115, 101, 116, 61, 34, 117, 116, 102, 45, 56, 34] : List UInt8) = [59, 67, 104, 97, 114, 115, 101, 116, 61, 34, 117, 116, 102, 45, 56, 34] from by decide +kernel]
  rw [parsL_semi]
  rw [show parmStep ([67, 104, 97, 114, 115, 101, 116, 61, 34, 117, 116, 102, 45, 56, 34] : List UInt8) = ([99, 104, 97, 114, 115, 101, 116], [117, 116, 102, 45, 56], true, []) from by decide +kernel]
  rw [show (trimEnd isWhite ([72, 84, 77, 76] : List UInt8)) = [72, 84, 77, 76] from by decide +kernel]
  rw [show addP [] (([99, 104, 97, 114, 115, 101, 116], [117, 116, 102, 45, 56], true, []) : List UInt8 × List UInt8 × Bool × List UInt8) = [([99, 104, 97, 114, 115, 101, 116], [117, 116, 102, 45, 56])] from by decide +kernel]
  rw [parsL_nil, if_neg (by decide +kernel)]
  rfl

end Go.Proofs.YtcbhkcdphbffpaaGreatDoor

namespace Go.Proofs.YtcbhkcdphbffpaaGreatDoor
open Go.RowKit
set_option linter.unusedSimpArgs false
set_option linter.unusedVariables false

/-- What comes is a row of texts, with room for them. -/
def GivesStrC (l : List ByteArray) (w : World) (e : Ending) (w' : World) : Prop :=
  ∃ A c, e = .returned (.slice A l.length c) ∧ StrsIn w' A l ∧ l.length ≤ c ∧ Below w.heap.size w w'

theorem strs_of_ownC {w : World} {B : Nat} {e : TypeId} {v : Value} {n : Nat} {l : List ByteArray} (h : w.ownsRow B e 1 v n (rowS l)) (hn : n = l.length) : ∃ A c, v = .slice A l.length c ∧ StrsIn w A l ∧ l.length ≤ c := by
  obtain ⟨A, c, hv, hA⟩ := strs_of_own h hn
  refine ⟨A, c, hv, hA, ?_⟩
  subst hn
  rcases h.2 with ⟨h1, h0⟩ | ⟨g, cap, cur, h1, hB, hg, hc, _⟩
  · omega
  · rw [hv] at h1
    injection h1 with _ _ e3
    omega

/-- Some texts, somewhat cut. -/
def fewS (m : Nat) (l : List ByteArray) : List ByteArray := (l.take m).map (fun s => cutB s 120)

theorem fewS_sizes (m : Nat) (l : List ByteArray) : (fewS m l).length ≤ m ∧ ∀ s ∈ fewS m l, s.size ≤ 120 := by
  unfold fewS
  constructor
  · rw [List.length_map, List.length_take]; omega
  · intro s hs
    obtain ⟨x, _, rfl⟩ := List.mem_map.1 hs
    rw [cutB_size]; omega

theorem fewS_snoc (l : List ByteArray) (n : Nat) (h : n < l.length) : rowS ((l.take (n + 1)).map (fun s => cutB s 120)) = rowS ((l.take n).map (fun s => cutB s 120)) ++ [.string (cutB l[n] 120)] := by
  rw [← List.take_append_getElem h, List.map_append, ← rowS_snoc]
  rfl

end Go.Proofs.YtcbhkcdphbffpaaGreatDoor

namespace Go.Proofs.YtcbhkcdphbffpaaGreatDoor
open Go.RowKit
set_option linter.unusedSimpArgs false
set_option linter.unusedVariables false

theorem choose_ltP {α : Type} [Inhabited α] {n : Nat} {p : Nat → α → Prop} (h : ∀ i, i < n → ∃ x, p i x) : ∃ f : Nat → α, ∀ i, i < n → p i (f i) := by
  classical
  exact ⟨fun i => if hi : i < n then (h i hi).choose else default, fun i hi => by simp only [hi, dif_pos]; exact (h i hi).choose_spec⟩

open Go.ChangeShapes Go.WideShapes Go.Deep in
/-- A slice of structs of two texts, opened. -/
theorem open_parsV {H : Type} {enc : TypeId × Value → H} {P : Program} {w : World} {base : Nat} {spare : Nat → Bool} {held : Bool} {t e ts : TypeId} {f0 f1 : Field} {v : Value} {n : Nat} {y : DataW H × List MemPlace}
    (ht : P.underlying t = some (.slice e)) (he : P.underlying e = some (.struct #[f0, f1])) (ce : P.cellsOf e = 2) (o0 : f0.offset = 0) (o1 : f1.offset = 1)
    (t0 : f0.type = ts) (t1 : f1.type = ts) (cs : P.cellsOf ts = 1) (hs : P.underlying ts = some .string)
    (h : DataW.trod enc P w base spare held n t [v] = some y) :
    ∃ A c ps, v = .slice A ps.length c ∧ ParsIn w w.heap.size A ps ∧ (∀ p ∈ ps, (bt p.1).size ≤ maxLen ∧ (bt p.2).size ≤ maxLen) ∧ ps.length ≤ maxLen := by
  rcases open_slice ht h with ⟨h0, _⟩ | ⟨a, len, cap, m, n', D, Pl, hc, hb, hl, hm, hmm, _, hx⟩
  · simp at h0
    subst h0
    exact ⟨none, 0, [], rfl, .inl rfl, fun p hp => by simp at hp, Nat.zero_le _⟩
  simp at hc
  subst hc
  have hlm : len ≤ m := by rw [hmm]; split <;> omega
  have each : ∀ i, i < len → ∃ p : List UInt8 × List UInt8, w.cell? (a.add (i * 2)) = some (.string (bt p.1)) ∧ w.cell? (a.add (i * 2 + 1)) = some (.string (bt p.2)) ∧ (bt p.1).size ≤ maxLen ∧ (bt p.2).size ≤ maxLen := by
    intro i hi
    obtain ⟨cs', h1, h2⟩ := hx i (by omega)
    rw [ce] at h1
    obtain ⟨_, hlen, hcell⟩ := World.cells?_some h1
    obtain ⟨xs, k, hk, hxy, _, hxl, hf⟩ := DataW.trod_struct he h2
    match xs, hxl, cs', hlen with
    | [y0, y1], _, [v0, v1], _ =>
      have g0 := hf 0 f0 rfl
      have g1 := hf 1 f1 rfl
      simp [o0, o1, t0, t1, cs] at g0 g1
      have e0 := hcell 0 (by omega)
      have e1 := hcell 1 (by omega)
      rw [add_add] at e0 e1
      obtain ⟨b0, q0, _, s0⟩ := DataW.trod_string hs g0
      obtain ⟨b1, q1, _, s1⟩ := DataW.trod_string hs g1
      simp at q0 q1
      subst q0 q1
      exact ⟨(b0.data.toList, b1.data.toList), by rw [list_bt]; simpa using e0, by rw [list_bt]; simpa using e1, s0, s1⟩
  obtain ⟨f, hfs⟩ := choose_ltP each
  refine ⟨some a, cap, (List.range len).map f, by simp, ?_, ?_, by simp; omega⟩
  · by_cases hz : len = 0
    · subst hz; exact .inl rfl
    right
    have h0 := (hfs 0 (by omega)).1
    rw [Nat.zero_mul, show a.add 0 = a from rfl] at h0
    obtain ⟨b, off, sp⟩ := a
    have hsp : sp = none := by
      cases sp with
      | none => rfl
      | some k =>
        simp only [World.cell?] at h0
        split at h0 <;> simp at h0
    subst hsp
    refine ⟨b, off, rfl, lt_of_cell h0, fun i hi => ?_⟩
    have hi' : i < len := by simpa using hi
    obtain ⟨h1, h2, _⟩ := hfs i hi'
    simp only [List.getElem_map, List.getElem_range]
    have hadd : ∀ k, (⟨b, off, none⟩ : Addr).add k = ⟨b, off + k, none⟩ := fun k => by
      unfold Addr.add
      split
      · rename_i hk; subst hk; rfl
      · rfl
    rw [hadd] at h1 h2
    exact ⟨h1, h2⟩
  · intro p hp
    simp only [List.mem_map, List.mem_range] at hp
    obtain ⟨i, hi, rfl⟩ := hp
    exact (hfs i hi).2.2

end Go.Proofs.YtcbhkcdphbffpaaGreatDoor

namespace Go.Proofs.YtcbhkcdphbffpaaGreatDoor
end Go.Proofs.YtcbhkcdphbffpaaGreatDoor

namespace Go.Proofs.YtcbhkcdphbffpaaGreatDoor
open Go.RowKit
set_option linter.unusedSimpArgs false
set_option linter.unusedVariables false

theorem infoHead : (Tryz.prog.info? 54).map (fun i => (i.zero, i.size, i.bytes)) = some (some (.agg #[.string ByteArray.empty, .string ByteArray.empty]), 2, 32) := by kernel_rfl

def fewH (p : List UInt8 × List UInt8) : List UInt8 × List UInt8 := (p.1.take 30, p.2.take 100)

/-- Headers, somewhat cut. -/
def fewHs (n : Nat) (l : Pars) : Pars := (l.take n).map fewH

theorem fewH_snoc (l : Pars) (n : Nat) (h : n < l.length) : rowQ ((l.take (n + 1)).map fewH) = rowQ ((l.take n).map fewH) ++ parCells (fewH l[n]) := by
  rw [← rowQ_snoc]
  congr 1
  rw [← List.take_append_getElem h, List.map_append]
  rfl

theorem fewHs_idem (n : Nat) (l : Pars) : fewHs n (fewHs n l) = fewHs n l := by
  unfold fewHs
  rw [← List.map_take, List.take_take, Nat.min_self, List.map_map]
  apply List.map_congr_left
  intro p _
  simp [fewH, List.take_take]

theorem fewHs_sizes (n : Nat) (l : Pars) : (fewHs n l).length ≤ n ∧ ∀ p ∈ fewHs n l, p.1.length ≤ 30 ∧ p.2.length ≤ 100 := by
  unfold fewHs
  refine ⟨by simp; omega, ?_⟩
  intro p hp
  simp only [List.mem_map] at hp
  obtain ⟨q, _, rfl⟩ := hp
  simp [fewH]
  omega

theorem row_fresh {w1 : World} {B : Nat} {A : Option Addr} {c m n : Nat} {e : TypeId} {v : Value} {xs : List Value} (h : w1.ownsRow B e 2 v n xs) (hv : v = .slice A m c) : ∀ g, A = some ⟨g, 0, none⟩ → B ≤ g := by
  intro g hg
  subst hv hg
  exact (World.ownsRow.lt h g rfl).1

set_option maxHeartbeats 4000000 in
set_option maxRecDepth 20000 in
theorem Few22_own (l : Pars) (m : Nat) (A : Option Addr) (c : Nat) (w : World) (hm : m ≤ 1000) (hlm : l.length ≤ maxLen) (hps : ∀ p ∈ l, (bt p.1).size ≤ maxLen ∧ (bt p.2).size ≤ maxLen) (hA : ParsIn w w.heap.size A l) :
    Calls Tryz.prog 22 #[.slice A l.length c, .int .i64 m] w fun e w' => ∃ A2 c2, e = .returned (.slice A2 (fewHs m l).length c2) ∧ ParsAt w' w'.heap.size A2 (fewHs m l) ∧ Below w.heap.size w w' ∧ ∀ g, A2 = some ⟨g, 0, none⟩ → w.heap.size ≤ g := by
  obtain ⟨i0, hi, hz0, hz1, hz2⟩ := info_parts infoHead
  have HI := Lib.hid hi; have HZ0 := Lib.hid hz0; have HZ1 := Lib.hid hz1; have HZ2 := Lib.hid hz2
  clear hi hz0 hz1 hz2
  have HPS := Lib.hid hps
  have HA := Lib.hid hA
  clear hA hps
  go_enter Tryz.func22, Tryz.ntmps22
  go_wp2
  go_loopw [5, 6] (fun v i wr => ∃ n : Nat, n ≤ l.length ∧ n ≤ m ∧ i = .int .i64 n ∧ wr.ownsRow w.heap.size 54 2 v n (rowQ ((l.take n).map fewH)) ∧ Below w.heap.size w wr) (fun _ i _ => m - (intOf i).toNat)
  case atStart => exact ⟨0, Nat.zero_le _, Nat.zero_le _, rfl, by simpa [rowQ] using World.ownsRow_lit (base := w.heap.size) (e := 54) (size := 2) w #[] 0 (Nat.le_refl _) (Nat.zero_le _) rfl, (Below.refl _ _).alloc (Nat.le_refl _) _⟩
  case round =>
    obtain ⟨n, hn, hnm, rfl, hrow, hb⟩ := hrel
    by_cases hlt : n < l.length ∧ n < m
    · obtain ⟨hlt1, hlt2⟩ := hlt
      rcases HA.out.below hb with hnil | ⟨g, off, rfl, hg, hcs⟩
      · rw [hnil] at hlt1; simp at hlt1
      obtain ⟨c0, c1⟩ := hcs n hlt1
      have hz := hb.size
      have HB := Lib.hid hb
      have HROW := Lib.hid hrow
      have hsz := HPS.out l[n] (List.getElem_mem _)
      have C30 : Hid (∀ w, Calls Tryz.prog 21 #[.string (bt l[n].1), .int .i64 30] w fun e w' => e = .returned (.string (bt (l[n].1.take 30))) ∧ w = w') := Lib.hid (fun w => by have := Cut_any (bt l[n].1) 30 w hsz.1 (by decide); rw [cut_bt] at this; exact this)
      have C100 : Hid (∀ w, Calls Tryz.prog 21 #[.string (bt l[n].2), .int .i64 100] w fun e w' => e = .returned (.string (bt (l[n].2.take 100))) ∧ w = w') := Lib.hid (fun w => by have := Cut_any (bt l[n].2) 100 w hsz.2 (by decide); rw [cut_bt] at this; exact this)
      clear hcs hb hrow hsz
      have K0 : Hid ((wr.alloc (.cells #[.string (bt (l[n].1.take 30)), .string (bt (l[n].2.take 100))] 54)).drew.ownsRow w.heap.size 54 2 u5 n (rowQ ((l.take n).map fewH))) := Lib.hid (HROW.out.alloc _)
      have K1 : Hid (∀ (j : Nat) (u : Value), (parCells (fewH l[n]))[j]? = some u → (wr.alloc (.cells #[.string (bt (l[n].1.take 30)), .string (bt (l[n].2.take 100))] 54)).drew.cell? ((⟨wr.heap.size, 0, none⟩ : Addr).add j) = some u) := Lib.hid (par_cells_new wr (fewH l[n]) 54)
      have K2 := Lib.hid (show ∀ u ∈ parCells (fewH l[n]), u.oneCell' = true from by intro u hu; simp [parCells] at hu; rcases hu with rfl | rfl <;> rfl)
      have K3 := Lib.hid (show n + 1 ≤ maxLen from by unfold maxLen; omega)
      have K4 := Lib.hid (show (n + 1) * 32 ≤ 140737488355328 from by omega)
      have K5 : Hid (w.heap.size ≤ (wr.alloc (.cells #[.string (bt (l[n].1.take 30)), .string (bt (l[n].2.take 100))] 54)).drew.heap.size) := Lib.hid (by simp; omega)
      have K6 : Hid ((wr.alloc (.cells #[.string (bt (l[n].1.take 30)), .string (bt (l[n].2.take 100))] 54)).drew.heap.size = wr.heap.size + 1) := Lib.hid (by simp)
      go_upto_region 5 with fail
      refine wp_region_N 17 (fun w' => w'.cell? ⟨g, off + n * 2, none⟩ = some (.string (bt l[n].1)) ∧ w'.cell? ⟨g, off + n * 2 + 1, none⟩ = some (.string (bt l[n].2))) (by kernel_rfl) (by kernel_rfl) ⟨c0, c1⟩ ?_
      (refine NJ.take (i := 0) (v := ?_) rfl rfl (by kernel_rfl) (by kernel_rfl) (by kernel_rfl) (by kernel_rfl) (fun _ _ _ h => h) (Or.inl ⟨by rfl, ?_⟩) ?_; rotate_left; (focus (intro wS hSw; (try dsimp only at hSw); go_simp; first | done | with_reducible rfl)); (try simp only [Act.put, List.getElem_toArray, List.getElem_cons_zero, List.getElem_cons_succ, List.setIfInBounds_toArray, List.set_cons_zero, List.set_cons_succ]))
      (refine NJ.take (i := 1) (v := ?_) rfl rfl (by kernel_rfl) (by kernel_rfl) (by kernel_rfl) (by kernel_rfl) (fun _ _ _ h => h) (Or.inl ⟨by rfl, ?_⟩) ?_; rotate_left; (focus (intro wS hSw; (try dsimp only at hSw); go_simp; first | done | with_reducible rfl)); (try simp only [Act.put, List.getElem_toArray, List.getElem_cons_zero, List.getElem_cons_succ, List.setIfInBounds_toArray, List.set_cons_zero, List.set_cons_succ]))
      (refine NJ.take (i := 2) (v := ?_) rfl rfl (by kernel_rfl) (by kernel_rfl) (by kernel_rfl) (by kernel_rfl) (fun _ _ _ h => h) (Or.inl ⟨by rfl, ?_⟩) ?_; rotate_left; (focus (intro wS hSw; (try dsimp only at hSw); go_simp; first | done | with_reducible rfl)); (try simp only [Act.put, List.getElem_toArray, List.getElem_cons_zero, List.getElem_cons_succ, List.setIfInBounds_toArray, List.set_cons_zero, List.set_cons_succ]))
      (refine NJ.take (i := 3) (v := ?_) rfl rfl (by kernel_rfl) (by kernel_rfl) (by kernel_rfl) (by kernel_rfl) (fun _ _ _ h => h) (Or.inl ⟨by rfl, ?_⟩) ?_; rotate_left; (focus (intro wS hSw; (try dsimp only at hSw); go_simp; first | done | with_reducible rfl)); (try simp only [Act.put, List.getElem_toArray, List.getElem_cons_zero, List.getElem_cons_succ, List.setIfInBounds_toArray, List.set_cons_zero, List.set_cons_succ]))
      (refine NJ.take (i := 4) (v := ?_) rfl rfl (by kernel_rfl) (by kernel_rfl) (by kernel_rfl) (by kernel_rfl) (fun _ _ _ h => h) (Or.inl ⟨by rfl, ?_⟩) ?_; rotate_left; (focus (intro wS hSw; (try dsimp only at hSw); go_simp; first | done | with_reducible rfl)); (try simp only [Act.put, List.getElem_toArray, List.getElem_cons_zero, List.getElem_cons_succ, List.setIfInBounds_toArray, List.set_cons_zero, List.set_cons_succ]))
      (refine NJ.take (i := 5) (v := ?_) rfl rfl (by kernel_rfl) (by kernel_rfl) (by kernel_rfl) (by kernel_rfl) (fun _ _ _ h => h) (Or.inl ⟨by rfl, ?_⟩) ?_; rotate_left; (focus (intro wS hSw; (try dsimp only at hSw); go_simp; first | done | with_reducible rfl)); (try simp only [Act.put, List.getElem_toArray, List.getElem_cons_zero, List.getElem_cons_succ, List.setIfInBounds_toArray, List.set_cons_zero, List.set_cons_succ]))
      (refine NJ.take (i := 7) (v := ?_) rfl rfl (by kernel_rfl) (by kernel_rfl) (by kernel_rfl) (by kernel_rfl) (fun _ _ _ h => h) (Or.inl ⟨by rfl, ?_⟩) ?_; rotate_left; (focus (intro wS hSw; (try dsimp only at hSw); go_simp; first | done | with_reducible rfl)); (try simp only [Act.put, List.getElem_toArray, List.getElem_cons_zero, List.getElem_cons_succ, List.setIfInBounds_toArray, List.set_cons_zero, List.set_cons_succ]))
      (refine NJ.take (i := 8) (v := ?_) rfl rfl (by kernel_rfl) (by kernel_rfl) (by kernel_rfl) (by kernel_rfl) (fun _ _ _ h => h) (Or.inl ⟨by rfl, ?_⟩) ?_; rotate_left; (focus (intro wS hSw; (try dsimp only at hSw); go_simp; first | done | with_reducible rfl)); (try simp only [Act.put, List.getElem_toArray, List.getElem_cons_zero, List.getElem_cons_succ, List.setIfInBounds_toArray, List.set_cons_zero, List.set_cons_succ]))
      (refine NJ.take (i := 9) (v := ?_) rfl rfl (by kernel_rfl) (by kernel_rfl) (by kernel_rfl) (by kernel_rfl) (fun _ _ _ h => h) (Or.inl ⟨by rfl, ?_⟩) ?_; rotate_left; (focus (intro wS hSw; (try dsimp only at hSw); go_simp; first | done | with_reducible rfl)); (try simp only [Act.put, List.getElem_toArray, List.getElem_cons_zero, List.getElem_cons_succ, List.setIfInBounds_toArray, List.set_cons_zero, List.set_cons_succ]))
      (refine NJ.take (i := 10) (v := ?_) rfl rfl (by kernel_rfl) (by kernel_rfl) (by kernel_rfl) (by kernel_rfl) (fun _ _ _ h => h) (Or.inl ⟨by rfl, ?_⟩) ?_; rotate_left; (focus (intro wS hSw; (try dsimp only at hSw); go_simp; first | done | with_reducible rfl)); (try simp only [Act.put, List.getElem_toArray, List.getElem_cons_zero, List.getElem_cons_succ, List.setIfInBounds_toArray, List.set_cons_zero, List.set_cons_succ]))
      (refine NJ.take (i := 11) (v := ?_) rfl rfl (by kernel_rfl) (by kernel_rfl) (by kernel_rfl) (by kernel_rfl) (fun _ _ _ h => h) (Or.inl ⟨by rfl, ?_⟩) ?_; rotate_left; (focus (intro wS hSw; (try dsimp only at hSw); go_simp; first | done | with_reducible rfl)); (try simp only [Act.put, List.getElem_toArray, List.getElem_cons_zero, List.getElem_cons_succ, List.setIfInBounds_toArray, List.set_cons_zero, List.set_cons_succ]))
      (refine NJ.step (i := 6) rfl rfl (by kernel_rfl) (fun hSat K hK => ?_); go_simp; (go_at_call 21; (with_reducible refine (C30.out _).mono ?_); rintro e w' ⟨rfl, rfl⟩); go_wp2_with fail; refine hK.out _ _ ?_ ?_; (focus (exact hSat)); clear hK hSat K; (try simp only [Act.put, List.getElem_toArray, List.getElem_cons_zero, List.getElem_cons_succ, List.setIfInBounds_toArray, List.set_cons_zero, List.set_cons_succ]))
      (refine NJ.step (i := 12) rfl rfl (by kernel_rfl) (fun hSat K hK => ?_); go_simp; (go_at_call 21; (with_reducible refine (C100.out _).mono ?_); rintro e w' ⟨rfl, rfl⟩); go_wp2_with fail; refine hK.out _ _ ?_ ?_; (focus (exact hSat)); clear hK hSat K; (try simp only [Act.put, List.getElem_toArray, List.getElem_cons_zero, List.getElem_cons_succ, List.setIfInBounds_toArray, List.set_cons_zero, List.set_cons_succ]))
      (refine NJ.take (i := 13) (v := ?_) rfl rfl (by kernel_rfl) (by kernel_rfl) (by kernel_rfl) (by kernel_rfl) (fun _ _ _ h => h) (Or.inl ⟨by rfl, ?_⟩) ?_; rotate_left; (focus (intro wS hSw; (try dsimp only at hSw); go_simp; first | done | with_reducible rfl)); (try simp only [Act.put, List.getElem_toArray, List.getElem_cons_zero, List.getElem_cons_succ, List.setIfInBounds_toArray, List.set_cons_zero, List.set_cons_succ]))
      (refine NJ.step (i := 14) rfl rfl (by kernel_rfl) (fun hSat K hK => ?_); go_simp; refine hK.out _ _ ?_ ?_; (focus (first | exact hSat | go_keep)); clear hK hSat K; (try simp only [Act.put, List.getElem_toArray, List.getElem_cons_zero, List.getElem_cons_succ, List.setIfInBounds_toArray, List.set_cons_zero, List.set_cons_succ]))
      refine NJ.step (i := 15) rfl rfl (by kernel_rfl) (fun hSat K hK => ?_)
      refine step_append_lies _ rfl (.tmp 19) (.tmp 33) 24 rfl w.heap.size 54 i0 (.agg #[.string ByteArray.empty, .string ByteArray.empty]) 2 32 Tryz.underlying24 HI.out HZ0.out HZ1.out HZ2.out rfl (by decide) u5 n (rowQ ((l.take n).map fewH)) rfl K0.out ⟨wr.heap.size, 0, none⟩ 1 1 (parCells (fewH l[n])) rfl rfl K1.out K2.out (by decide) K3.out K4.out K5.out (wr.heap.size + 1) K6.out ?_
      intro g3 c3 w2 hown hgrow hat hlt3
      have HO := Lib.hid hown
      have HBW2 := Lib.hid (((HB.out.alloc hz (.cells #[.string (bt (l[n].1.take 30)), .string (bt (l[n].2.take 100))] 54)).drew).grown hgrow (by rw [K6.out]; omega) (fun j hj => (HROW.out.lt j hj).1))
      have t3 : w2.cell? ⟨g, off + n * 2, none⟩ = some (.string (bt l[n].1)) := (cell_below HBW2.out hg).trans ((cell_below HB.out hg).symm.trans c0)
      have t4 : w2.cell? ⟨g, off + n * 2 + 1, none⟩ = some (.string (bt l[n].2)) := (cell_below HBW2.out hg).trans ((cell_below HB.out hg).symm.trans c1)
      clear hown hgrow
      refine hK.out _ _ ⟨t3, t4⟩ ?_
      clear hK hSat K
      (try simp only [Act.put, List.getElem_toArray, List.getElem_cons_zero, List.getElem_cons_succ, List.setIfInBounds_toArray, List.set_cons_zero, List.set_cons_succ])
      (refine NJ.take (i := 16) (v := ?_) rfl rfl (by kernel_rfl) (by kernel_rfl) (by kernel_rfl) (by kernel_rfl) (fun _ _ _ h => h) (Or.inl ⟨by rfl, ?_⟩) ?_; rotate_left; (focus (intro wS hSw; (try dsimp only at hSw); go_simp; first | done | with_reducible rfl)); (try simp only [Act.put, List.getElem_toArray, List.getElem_cons_zero, List.getElem_cons_succ, List.setIfInBounds_toArray, List.set_cons_zero, List.set_cons_succ]))
      refine NJ.done (by kernel_rfl) (fun hSat => ?_)
      clear hSat t3 t4 c0 c1
      go_wp2_with fail
      go_roundw
      case rel => exact ⟨n + 1, by omega, by omega, by go_num, by rw [fewH_snoc l n hlt1]; exact HO.out, HBW2.out⟩
      case measure => simp [intOf]; omega
    · have ht : l.take n = l.take m := by
        by_cases h6 : n = m
        · rw [h6]
        · have : n = l.length := by omega
          rw [List.take_of_length_le (by omega), List.take_of_length_le (by omega)]
      rw [ht] at hrow
      have hlen : n = ((l.take m).map fewH).length := by
        rw [← ht, List.length_map, List.length_take]; omega
      obtain ⟨A2, c2, hv, hA2⟩ := pars_of_own hrow hlen
      have HFR := Lib.hid (row_fresh hrow hv)
      have HL := Lib.hid hlen
      have HP := Lib.hid hA2
      have HB := Lib.hid hb
      rw [← hlen] at hv
      subst hv
      clear hrow hlen hA2 hb ht
      by_cases h1 : n < l.length
      · have h2 : ¬ n < m := fun h2 => hlt ⟨h1, h2⟩
        go_wp2_with fail
        go_ret
        exact ⟨A2, c2, by unfold fewHs; rw [← HL.out]; rfl, HP.out, HB.out, HFR.out⟩
      · go_wp2_with fail
        go_ret
        exact ⟨A2, c2, by unfold fewHs; rw [← HL.out]; rfl, HP.out, HB.out, HFR.out⟩

theorem Few22_any (l : Pars) (m : Nat) (A : Option Addr) (c : Nat) (w : World) (hm : m ≤ 1000) (hlm : l.length ≤ maxLen) (hps : ∀ p ∈ l, (bt p.1).size ≤ maxLen ∧ (bt p.2).size ≤ maxLen) (hA : ParsIn w w.heap.size A l) :
    Calls Tryz.prog 22 #[.slice A l.length c, .int .i64 m] w fun e w' => ∃ A2 c2, e = .returned (.slice A2 (fewHs m l).length c2) ∧ ParsAt w' w'.heap.size A2 (fewHs m l) ∧ Below w.heap.size w w' :=
  (Few22_own l m A c w hm hlm hps hA).mono fun e w' ⟨A2, c2, h1, h2, h3, _⟩ => ⟨A2, c2, h1, h2, h3⟩

end Go.Proofs.YtcbhkcdphbffpaaGreatDoor
