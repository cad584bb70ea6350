/-
  Lemmas of this claim, part 13: the texts CombH, CombL, SniB, SniC, SniD, DecimalPlain, one behind the other.
-/
import Derived.Test.YtcbhkcdphbffpaaGreatDoorM12
import Derived.Deep.RegionWith

namespace Go.Proofs.YtcbhkcdphbffpaaGreatDoor
open Go.RowKit
set_option linter.unusedSimpArgs false
set_option linter.unusedVariables false

/-- What the reference's extract gives: no word of where its parameters stand but that they stand. -/
def GivesExtR (r : MimeL × Int) (w : World) (e : Ending) (w' : World) : Prop :=
  ∃ A c, e = .returned (.tuple #[mimV r.1 A c, .int .i64 r.2]) ∧ ParsAt w' w'.heap.size A r.1.ps ∧ Below w.heap.size w w' ∧ (r.1.ps = [] ∨ ∀ g, A = some ⟨g, 0, none⟩ → w.heap.size ≤ g)

/-- How the loop stands. -/
def ExtW (w W : World) (Q : Nat) (r : MimeL × List UInt8) (wr : World) : Prop :=
  ∃ (A3 : Option Addr) (c3 : Nat), wr.heap[w.heap.size]? = some (mimO noM none 0) ∧ wr.heap[Q]? = some (mimO r.1 A3 c3) ∧ ParsAt wr wr.heap.size A3 r.1.ps ∧ (r.1.ps = [] ∨ ∀ g, A3 = some ⟨g, 0, none⟩ → w.heap.size + 1 ≤ g ∧ g ≠ Q) ∧ Below w.heap.size w wr ∧ Q + 1 ≤ wr.heap.size ∧ ∀ b, w.heap.size + 1 ≤ b → b < Q → wr.heap[b]? = W.heap[b]?

theorem hb2_fix {wr w2 : World} (h : Below wr.drew.heap.size wr.drew w2) : Below wr.heap.size wr w2 := (Below.refl _ _).drew.trans h

theorem ExtW.drew {w W wr : World} {Q : Nat} {r : MimeL × List UInt8} (h : ExtW w W Q r wr) : ExtW w W Q r wr.drew := by
  obtain ⟨A3, c3, h1, h2, h3, h4, h5, h6, h7⟩ := h
  exact ⟨A3, c3, h1, h2, h3, h4, h5.drew, h6, h7⟩

theorem ExtW.put {w W w2 : World} {Q : Nat} {n m x : MimeL} {set : List UInt8} {A3 A4 A2 : Option Addr} {c3 c4 : Nat} {wr : World} (hP : wr.heap[w.heap.size]? = some (mimO noM none 0)) (hM : w2.heap[Q]? = some (mimO m A3 c3)) (hA : ParsAt w2 w2.heap.size A4 n.ps) (hB : Below w.heap.size w wr) (hb2 : Below wr.heap.size wr w2) (hz : Q + 1 ≤ wr.heap.size) (hWz : w.heap.size + 1 ≤ Q)
    (hs : ∀ b, w.heap.size + 1 ≤ b → b < Q → wr.heap[b]? = W.heap[b]?) (hX : ParsAt W Q A2 x.ps) (hX2 : ∀ g2, A2 = some ⟨g2, 0, none⟩ → w.heap.size + 1 ≤ g2) (hf : (A4 = A2 ∧ n = x) ∨ ∀ g, A4 = some ⟨g, 0, none⟩ → wr.heap.size ≤ g) :
    ExtW w W Q (n, set) (((w2.setCell ⟨Q, 0, none⟩ (.string (bt n.t))).setCell ⟨Q, 1, none⟩ (.string (bt n.s))).setCell ⟨Q, 2, none⟩ (.slice A4 n.ps.length c4)) := by
  have hne : ∀ b, b ≠ Q → (((w2.setCell ⟨Q, 0, none⟩ (.string (bt n.t))).setCell ⟨Q, 1, none⟩ (.string (bt n.s))).setCell ⟨Q, 2, none⟩ (.slice A4 n.ps.length c4)).heap[b]? = w2.heap[b]? := fun b hb => by
    rw [Below.heap_setCell _ _ _ _ hb, Below.heap_setCell _ _ _ _ hb, Below.heap_setCell _ _ _ _ hb]
  have hfar : n.ps = [] ∨ ∀ g, A4 = some ⟨g, 0, none⟩ → w.heap.size + 1 ≤ g ∧ g ≠ Q := by
    rcases hf with ⟨rfl, rfl⟩ | hf
    · by_cases h : n.ps = []
      · exact .inl h
      · refine .inr fun g hg => ?_
        have h1 := hX2 g hg
        have h2 := hX.lt_of h hg
        omega
    · exact .inr fun g hg => by have := hf g hg; omega
  have hfar2 : n.ps = [] ∨ ∀ g, A4 = some ⟨g, 0, none⟩ → Q ≠ g := by
    rcases hfar with h | h
    · exact .inl h
    · exact .inr fun g hg e => (h g hg).2 e.symm
  refine ⟨A4, c4, ?_, mim_set3 hM, (((hA.set3 hfar2 _).set3 hfar2 _).set3 hfar2 _).more (by simp), hfar, ?_, ?_, ?_⟩
  · rw [hne _ (by omega)]
    exact (hb2.block _ (by omega)).trans hP
  · exact (((hB.trans (hb2.mono hB.size)).setCell (show w.heap.size ≤ Q by omega) _).setCell (show w.heap.size ≤ Q by omega) _).setCell (show w.heap.size ≤ Q by omega) _
  · have := hb2.size
    simp
    omega
  · intro b h1 h2
    rw [hne _ (by omega)]
    exact (hb2.block _ (by omega)).trans (hs b h1 h2)

set_option maxHeartbeats 4000000 in
set_option maxRecDepth 20000 in
theorem rExtract_any (l : List ByteArray) (A : Option Addr) (c : Nat) (w : World) (hA : StrsIn w A l) (hl : l.length ≤ 90) (hs : ∀ s ∈ l, s.size ≤ 1000) (hN : (joinL l).length ≤ 1099) :
    Calls Tryz.prog 35 #[.slice A l.length c] w fun e w' => GivesExtR (extractL l) w e w' := by
  have HAL := Lib.hid (fun (w1 : World) (hb : Below w.heap.size w w1) => rAll_any l A c w1 (hA.below hb) hl hs hN)
  obtain ⟨hfit, hlen⟩ := all_fit l hN
  have HX0 := Lib.hid (@extractL_none l)
  have HX1 := Lib.hid (@extractL_some l)
  generalize extractL l = X at *
  generalize allL l = ms at *
  have HFIT := Lib.hid hfit
  clear hA hl hs hN hfit
  have hP : (w.alloc (.cells #[.string ⟨#[]⟩, .string ⟨#[]⟩, .slice none 0 0] 36)).heap[w.heap.size]? = some (mimO noM none 0) := heap_alloc_new w _
  have hb : Below w.heap.size w (w.alloc (.cells #[.string ⟨#[]⟩, .string ⟨#[]⟩, .slice none 0 0] 36)) := below_box _ _
  have hz0 : (w.alloc (.cells #[.string ⟨#[]⟩, .string ⟨#[]⟩, .slice none 0 0] 36)).heap.size = w.heap.size + 1 := by simp
  go_enter Tryz.func35, Tryz.ntmps35
  go_upto_region 1 with fail
  generalize w.alloc (.cells #[.string ⟨#[]⟩, .string ⟨#[]⟩, .slice none 0 0] 36) = W0 at *
  go_wp2_with fail
  refine (HAL.out _ hb).mono ?_
  rintro e W ⟨A1, c1, rfl, hA1, hbn⟩
  rw [hz0] at hA1
  have hP := (hbn.block _ (Array.getElem?_eq_some_iff.1 hP).1).trans hP
  have hb := hb.trans (hbn.mono hb.size)
  have hWz : w.heap.size + 1 ≤ W.heap.size := by have := hbn.size; omega
  have hP1 : (W.alloc (.cells #[.string ⟨#[]⟩, .string ⟨#[]⟩, .slice none 0 0] 36)).heap[w.heap.size]? = _ := (Below.heap_alloc _ _ _ (Array.getElem?_eq_some_iff.1 hP).1).trans hP
  have hM1 : (W.alloc (.cells #[.string ⟨#[]⟩, .string ⟨#[]⟩, .slice none 0 0] 36)).heap[W.heap.size]? = some (mimO noM none 0) := heap_alloc_new W _
  have HBW := Lib.hid (hb.alloc hb.size (.cells #[.string ⟨#[]⟩, .string ⟨#[]⟩, .slice none 0 0] 36))
  have HA1 := Lib.hid hA1
  have HP := Lib.hid hP1
  have HM := Lib.hid hM1
  have HSM : Hid (∀ b, w.heap.size + 1 ≤ b → b < W.heap.size → (W.alloc (.cells #[.string ⟨#[]⟩, .string ⟨#[]⟩, .slice none 0 0] 36)).heap[b]? = W.heap[b]?) := Lib.hid (fun b _ h => Below.heap_alloc W _ b h)
  have HWX : Hid (W.heap.size + 1 ≤ (W.alloc (.cells #[.string ⟨#[]⟩, .string ⟨#[]⟩, .slice none 0 0] 36)).heap.size) := Lib.hid (by simp)
  clear hA1 hbn hP hP1 hM1 hb HAL
  go_upto_region 2 with fail
  obtain ⟨Q, hQ⟩ : ∃ Q, W.heap.size = Q := ⟨_, rfl⟩
  rw [hQ] at HM HWX HSM HA1 hWz ⊢
  generalize W.alloc (.cells #[.string ⟨#[]⟩, .string ⟨#[]⟩, .slice none 0 0] 36) = W1 at *
  clear hQ hz0
  go_wp2_with fail
  go_loopw [5, 7] (fun s i wr => ∃ k : Nat, k ≤ ms.length ∧ i = .int .i64 k ∧ s = .string (bt (extractS (ms.take k)).2) ∧ ExtW w W Q (extractS (ms.take k)) wr) (fun _ i _ => ms.length - (intOf i).toNat)
  case atStart => exact ⟨0, Nat.zero_le _, rfl, rfl, none, 0, HP.out, HM.out, .inl rfl, .inl rfl, HBW.out, HWX.out, HSM.out⟩
  case round =>
    obtain ⟨k, hk, rfl, rfl, A3, c3, hP, hM, hA3, hf3, hb, hzz, hsame⟩ := hrel
    have HB := Lib.hid hb
    have HSAME := Lib.hid hsame
    have HA3 := Lib.hid hA3
    have HF3 := Lib.hid hf3
    obtain ⟨hsz, hss⟩ := extractS_fit ms HFIT.out k hk
    by_cases hlt : k < ms.length
    · have hfx := HFIT.out ms[k] (List.getElem_mem _)
      have HSN := Lib.hid (extractS_snoc ms k hlt)
      rcases HA1.out.same hsame with hnil | ⟨g, rfl, hL, hgB, hcs⟩
      · rw [hnil] at hlt; simp at hlt
      obtain ⟨A2, c2, h0, h1, h2, h3, h4⟩ := hcs k hlt
      have HX2 := Lib.hid (h3.same (w' := W) (fun b hb1 hb2 => (hsame b hb1 hb2).symm) h4)
      have HX3 := Lib.hid h3
      have HX4 := Lib.hid h4
      generalize ms[k] = x at *
      generalize (extractS (ms.take k)).1 = m at *
      generalize (extractS (ms.take k)).2 = set at *
      have HST := Lib.hid (fun (w1 : World) (hb : Below wr.heap.size wr w1) => rStep_any m x A3 A2 c3 c2 set w1 hsz hfx.sizes (Nat.le_trans hfx.n (by omega)) (Nat.le_trans hss (by omega)) (HA3.out.on hb) ((HX3.out.more (by omega)).on hb))
      obtain ⟨m0, m1, m2, mz, mlt⟩ := mim_cells hM
      have HPP := Lib.hid hP
      have HMM := Lib.hid hM
      clear hcs hA3 hf3 hsame h3 h4 hb hP hM
      unfold mimV at HST
      obtain ⟨S, hS⟩ : ∃ S, bt set = S := ⟨_, rfl⟩
      rw [hS] at HST ⊢
      go_upto_region 5 with fail
      go_region_with (go_at_call 63; (refine Calls.mono (HST.out _ ?_) ?_); (focus (first | exact Below.refl _ _ | exact (Below.refl _ _).drew)); rintro e w2 ⟨A4, c4, rfl, hA4, hb2, hf4⟩; unfold mimV; have HA4 := Lib.hid hA4; have HF4 := Lib.hid hf4; have HB2 : Hid (Below wr.heap.size wr w2) := Lib.hid (hb2_fix hb2); have hM2 := (HB2.out.block _ mlt).trans HMM.out; have HM2 := Lib.hid hM2; obtain ⟨d0, d1, d2, dz, dlt⟩ := mim_cells hM2; clear hA4 hf4 hb2 hM2)
      all_goals clear m0 m1 m2 mz mlt h0 h1 h2
      all_goals go_wp2_with fail
      all_goals go_roundw
      all_goals first
        | exact ⟨k + 1, by omega, by go_num, by rw [HSN.out], by rw [HSN.out]; exact ExtW.put HPP.out HM2.out HA4.out HB.out HB2.out hzz hWz HSAME.out HX2.out HX4.out HF4.out⟩
        | exact ⟨k + 1, by omega, by go_num, by rw [HSN.out], by rw [HSN.out]; exact (ExtW.put HPP.out HM2.out HA4.out HB.out HB2.out hzz hWz HSAME.out HX2.out HX4.out HF4.out).drew⟩
        | (simp [intOf]; omega)
    · obtain rfl : k = ms.length := by omega
      rw [List.take_length] at hM hA3 HA3 HF3
      by_cases h0 : ms.length = 0
      · have HV := Lib.hid (HX0.out h0)
        have h0i : ((ms.length : Int) == 0) = true := by rw [h0]; rfl
        obtain ⟨r0, r1, r2, rz, rlt⟩ := mim_cells hP
        clear hP hM hA3 hf3 hsame hb
        go_wp2_with fail
        refine bodyPost_ret (v := .tuple #[mimV noM none 0, .int .i64 4]) ?_ rfl ?_
        · simp [results, Tryz.results35, go_sem, r0, r1, r2, mimV, noM, bt]
        · refine ⟨none, 0, by rw [HV.out], by rw [HV.out]; exact .inl rfl, ?_, .inl (by rw [HV.out]; rfl)⟩
          exact ((HB.out.setCell (show w.heap.size ≤ w.heap.size by omega) _).setCell (show w.heap.size ≤ w.heap.size by omega) _).setCell (show w.heap.size ≤ w.heap.size by omega) _
      · have HV := Lib.hid (HX1.out h0)
        have h0i : ((ms.length : Int) == 0) = false := beq_eq_false_iff_ne.2 (by omega)
        generalize (extractS ms).1 = m at *
        obtain ⟨r0, r1, r2, rz, rlt⟩ := mim_cells hP
        obtain ⟨m0, m1, m2, mz, mlt⟩ := mim_cells hM
        clear hP hM hA3 hf3 hsame hb
        go_wp2_with fail
        refine bodyPost_ret (v := .tuple #[mimV m A3 c3, .int .i64 0]) ?_ rfl ?_
        · simp [results, Tryz.results35, go_sem, r0, r1, r2, mimV]
        · have hfar : m.ps = [] ∨ ∀ g, A3 = some ⟨g, 0, none⟩ → w.heap.size ≠ g := by
            rcases HF3.out with h | h
            · exact .inl h
            · exact .inr fun g hg => by have := (h g hg).1; omega
          refine ⟨A3, c3, by rw [HV.out], ?_, ?_, ?_⟩
          · rw [HV.out]
            exact (((HA3.out.set3 hfar _).set3 hfar _).set3 hfar _).more (by simp)
          · exact ((HB.out.setCell (show w.heap.size ≤ w.heap.size by omega) _).setCell (show w.heap.size ≤ w.heap.size by omega) _).setCell (show w.heap.size ≤ w.heap.size by omega) _
          · rw [HV.out]
            rcases HF3.out with h | h
            · exact .inl h
            · exact .inr fun g hg => by have := (h g hg).1; omega

end Go.Proofs.YtcbhkcdphbffpaaGreatDoor

namespace Go.Proofs.YtcbhkcdphbffpaaGreatDoor
open Go.RowKit
set_option linter.unusedSimpArgs false
set_option linter.unusedVariables false

/-- The pieces, by steps that are counted. -/
def splitF : Nat → List UInt8 → List UInt8 → List ByteArray
  | 0, T, _ => [pieceB ⟨T.toArray⟩]
  | _ + 1, T, [] => [pieceB ⟨T.toArray⟩]
  | n + 1, T, b :: r => if b = 34 then splitF n (T ++ 34 :: r.take (readL r).2) (r.drop (readL r).2) else if b = 44 then pieceB ⟨T.toArray⟩ :: splitF n [] r else splitF n (T ++ [b]) r

theorem splitF_eq : ∀ (n : Nat) (T l : List UInt8), l.length ≤ n → splitF n T l = splitL T l
  | 0, T, l, h => by
    obtain rfl : l = [] := List.eq_nil_of_length_eq_zero (by omega)
    rw [splitL_end]
    rfl
  | n + 1, T, [], _ => by rw [splitL_end]; rfl
  | n + 1, T, b :: r, h => by
    rw [List.length_cons] at h
    rw [splitF]
    by_cases h34 : b = 34
    · subst h34
      rw [if_pos rfl, splitL_quote, splitF_eq n _ _ (by rw [List.length_drop]; omega)]
    · by_cases h44 : b = 44
      · subst h44
        rw [if_neg h34, if_pos rfl, splitL_comma, splitF_eq n _ _ (by omega)]
      · rw [if_neg h34, if_neg h44, splitL_other _ _ _ h34 h44, splitF_eq n _ _ (by omega)]

def parsF : Nat → Pars → List UInt8 → Pars
  | 0, ps, _ => ps
  | _ + 1, ps, [] => ps
  | n + 1, ps, b :: r => if b = 59 then parsF n (addP ps (parmStep r)) (parmStep r).2.2.2 else ps

theorem parsF_eq : ∀ (n : Nat) (ps : Pars) (l : List UInt8), l.length ≤ n → parsF n ps l = parsL ps l
  | 0, ps, l, h => by
    obtain rfl : l = [] := List.eq_nil_of_length_eq_zero (by omega)
    rw [parsL_nil]
    rfl
  | n + 1, ps, [], _ => by rw [parsL_nil]; rfl
  | n + 1, ps, b :: r, h => by
    rw [List.length_cons] at h
    rw [parsF]
    by_cases hb : b = 59
    · subst hb
      have := parmStep_len r
      rw [if_pos rfl, parsL_semi, parsF_eq n _ _ (by omega)]
    · rw [if_neg hb, parsL_other _ _ _ hb]

/-- A text's type, by steps that are counted. -/
def parseF (l0 : List UInt8) : MimeL × Nat :=
  if (trimL isWhite l0).dropWhile nslash = [] ∨ tokL ((trimL isWhite l0).takeWhile nslash) = false ∨ tokL (trimEnd isWhite (((trimL isWhite l0).dropWhile nslash).tail.takeWhile nsemi)) = false then (noM, 2)
  else (⟨lowerL ((trimL isWhite l0).takeWhile nslash), lowerL (trimEnd isWhite (((trimL isWhite l0).dropWhile nslash).tail.takeWhile nsemi)), parsF l0.length [] (((trimL isWhite l0).dropWhile nslash).tail.dropWhile nsemi)⟩, 0)

theorem parseF_eq (l : List UInt8) : parseR l = parseF l := by
  unfold parseR parseL parseF
  simp only
  split
  · rename_i m h
    split at h
    · cases h
    · rename_i hn
      injection h with h
      rw [if_neg hn, parsF_eq]
      · rw [← h]
      · have h0 := trimL_len isWhite l
        have h2 := dropWhile_len nslash (trimL isWhite l)
        have h3 := dropWhile_len nsemi ((trimL isWhite l).dropWhile nslash).tail
        rw [List.length_tail] at h3
        omega
  · rename_i h
    split at h
    · rename_i hn
      rw [if_pos hn]
    · cases h

def addF (s : ByteArray) : List MimeL := if (parseF s.data.toList).2 = 0 ∧ everyM (parseF s.data.toList).1 = false then [(parseF s.data.toList).1] else []

def allF (l : List ByteArray) : List MimeL := if l = [] then [] else (splitF (joinL l).length [] (joinL l)).flatMap addF

theorem allF_eq (l : List ByteArray) : allL l = allF l := by
  unfold allL allF valuesL
  have hf : addM = addF := by
    funext s
    unfold addM addF
    rw [parseF_eq]
  rw [hf]
  split
  · rfl
  · rw [splitF_eq _ _ _ (Nat.le_refl _)]
    rfl

def lineC : ByteArray := ⟨#[116, 101, 120, 116, 47, 104, 116, 109, 108, 59, 99, 104, 97, 114, 115, 101, 116, 61, 97, 44, 32, 116, 101, 120, 116, 47, 104, 116, 109, 108]⟩
def livC : MimeL := ⟨[116, 101, 120, 116], [104, 116, 109, 108], [(charL, [97])]⟩

theorem all_lives : allL [lineC] = [livC, ⟨[116, 101, 120, 116], [104, 116, 109, 108], []⟩] := by
  rw [allF_eq]
  kernel_rfl

theorem ext_lives : extractL [lineC] = (livC, 0) := by
  unfold extractL
  rw [all_lives, if_neg (by simp)]
  kernel_rfl

end Go.Proofs.YtcbhkcdphbffpaaGreatDoor

namespace Go.Proofs.YtcbhkcdphbffpaaGreatDoor
open Go.RowKit
set_option linter.unusedSimpArgs false
set_option linter.unusedVariables false

theorem noSniff_nil {l : Pars} (h : sniL l = []) : noSniff l = false := by unfold noSniff; rw [h]

theorem noSniff_cons {l : Pars} {v : ByteArray} {r : List ByteArray} (h : sniL l = v :: r) : noSniff l = isSniff v := by unfold noSniff; rw [h]

theorem sni_sizes {l : Pars} (hl : FewP l) : ∀ s ∈ sniL l, s.size ≤ 100000 := by
  have := sni_room hl
  rw [bt_size] at this
  exact (values_sizes (getL optName l) 100000 this).1

theorem sniff_spelled (v : ByteArray) : ((lowerB v).toList == [110, 111, 115, 110, 105, 102, 102]) = isSniff v := by
  rw [Lib.toList_data, lowerB_data]
  rfl

theorem sis_any (l : Pars) (A : Option Addr) (c : Nat) (w : World) (hl : FewP l) (hA : ParsIn w w.heap.size A l) :
    Calls Tryz.prog 47 #[.slice A l.length c] w fun e w' => e = .returned (.bool (noSniff l)) ∧ Below w.heap.size w w' := by
  have HV := Lib.hid (svalues_any l A c w hl hA)
  have hs := sni_sizes hl
  have h1 := @noSniff_nil l
  have h2 := fun v r => @noSniff_cons l v r
  generalize noSniff l = q at *
  generalize sniL l = vs at *
  clear hA hl
  match vs, HV, hs, h1, h2 with
  | [], HV, hs, h1, h2 =>
    rw [h1 rfl]
    clear h1 h2
    go_enter Tryz.func47, Tryz.ntmps47
    go_wp2_with fail
    refine HV.out.mono ?_
    rintro e w2 ⟨A2, c2, rfl, _, hb⟩
    have HB := Lib.hid hb
    clear hb
    go_wp2_with fail
    go_ret
    exact ⟨rfl, HB.out⟩
  | v :: r, HV, hs, h1, h2 =>
    rw [h2 v r rfl]
    have hv := hs v (List.mem_cons_self ..)
    have HSM := Lib.hid (fun w => Same_any v sniffT w (by unfold maxLen; omega) (by decide))
    have hq : (lowerL v.data.toList == lowerL sniffT.data.toList) = isSniff v := rfl
    rw [hq] at HSM
    unfold sniffT at HSM
    generalize isSniff v = q2 at *
    have hpos : (0 : Int) < ((v :: r).length : Int) := by simp
    clear h1 h2 hs hq
    go_enter Tryz.func47, Tryz.ntmps47
    go_wp2_with fail
    refine HV.out.mono ?_
    rintro e w2 ⟨A2, c2, rfl, hA2, hb⟩
    rcases hA2 with hnil | ⟨b, off, rfl, hlt, hcs⟩
    · cases hnil
    have c0 : w2.cell? ⟨b, off, none⟩ = some (.string v) := hcs 0 (by simp)
    have HB := Lib.hid hb
    clear hb hcs
    go_wp2_with (go_at_call 73; refine Calls.mono (HSM.out _) ?_; rintro e w3 ⟨rfl, hd⟩; have HD := Lib.hid hd; clear hd)
    go_ret
    exact ⟨rfl, HB.out.trans (HD.out.below _)⟩

theorem rsIs_any (l : Pars) (A : Option Addr) (c : Nat) (w : World) (hl : FewP l) (hA : ParsIn w w.heap.size A l) :
    Calls Tryz.prog 38 #[.slice A l.length c] w fun e w' => e = .returned (.bool (noSniff l)) ∧ Below w.heap.size w w' := by
  have HV := Lib.hid (rsValues_any l A c w hl hA)
  have hs := sni_sizes hl
  have h1 := @noSniff_nil l
  have h2 := fun v r => @noSniff_cons l v r
  generalize noSniff l = q at *
  generalize sniL l = vs at *
  clear hA hl
  match vs, HV, hs, h1, h2 with
  | [], HV, hs, h1, h2 =>
    rw [h1 rfl]
    clear h1 h2
    go_enter Tryz.func38, Tryz.ntmps38
    go_wp2_with fail
    refine HV.out.mono ?_
    rintro e w2 ⟨A2, c2, rfl, _, hb⟩
    have HB := Lib.hid hb
    clear hb
    go_wp2_with fail
    go_ret
    exact ⟨rfl, HB.out⟩
  | v :: r, HV, hs, h1, h2 =>
    rw [h2 v r rfl]
    have hv := hs v (List.mem_cons_self ..)
    have HLO := Lib.hid (fun w => rLower_any v w (by unfold maxLen; omega) (by omega))
    have hq := sniff_spelled v
    generalize lowerB v = y at *
    generalize isSniff v = q2 at *
    have hpos : (0 : Int) < ((v :: r).length : Int) := by simp
    clear h1 h2 hs
    go_enter Tryz.func38, Tryz.ntmps38
    go_wp2_with fail
    refine HV.out.mono ?_
    rintro e w2 ⟨A2, c2, rfl, hA2, hb⟩
    rcases hA2 with hnil | ⟨b, off, rfl, hlt, hcs⟩
    · cases hnil
    have c0 : w2.cell? ⟨b, off, none⟩ = some (.string v) := hcs 0 (by simp)
    have HB := Lib.hid hb
    clear hb hcs
    go_wp2_with (go_at_call 66; refine Calls.mono (HLO.out _) ?_; rintro e w3 ⟨rfl, hd⟩; have HD := Lib.hid (HB.out.trans (hd.mono HB.out.size)); clear hd)
    go_ret
    exact ⟨rfl, HD.out⟩

def livH : Pars := [([120, 45, 99, 111, 110, 116, 101, 110, 116, 45, 116, 121, 112, 101, 45, 111, 112, 116, 105, 111, 110, 115], [78, 111, 83, 110, 105, 102, 102, 44, 32, 120])]

theorem sni_lives : noSniff livH = true := by
  unfold noSniff sniL valuesL
  rw [show getL optName livH = [⟨#[78, 111, 83, 110, 105, 102, 102, 44, 32, 120]⟩] from by kernel_rfl]
  rw [if_neg (by simp)]
  unfold splitB
  rw [← splitF_eq 10 _ _ (by decide +kernel)]
  kernel_rfl

theorem sni_lives0 : noSniff [] = false := by
  unfold noSniff sniL valuesL getL
  rfl

end Go.Proofs.YtcbhkcdphbffpaaGreatDoor

namespace Go.Proofs.YtcbhkcdphbffpaaGreatDoor
open Go.RowKit
set_option linter.unusedSimpArgs false
set_option linter.unusedVariables false

def kindName : ByteArray := ⟨#[67, 111, 110, 116, 101, 110, 116, 45, 84, 121, 112, 101]⟩
def kindSmall : ByteArray := ⟨#[99, 111, 110, 116, 101, 110, 116, 45, 116, 121, 112, 101]⟩

theorem getL_kind (l : Pars) : getL kindName l = getL kindSmall l := by
  unfold getL isName
  rw [show lowerL kindName.data.toList = lowerL kindSmall.data.toList from by decide +kernel]

/-- The values of the type's header. -/
def kindL (l : Pars) : List ByteArray := getL kindName l

theorem kind_room {l : Pars} (h : FewP l) : (kindL l).length ≤ 10 ∧ (∀ s ∈ kindL l, s.size ≤ 100) ∧ (joinL (kindL l)).length ≤ 1099 := by
  obtain ⟨g1, g2⟩ := h.get kindName
  refine ⟨g1, g2, ?_⟩
  have h1 := join_len (kindL l) 100 g2
  have h3 := Nat.mul_le_mul_right (100 + 2) g1
  show (joinL (getL kindName l)).length ≤ 1099
  unfold kindL at h1
  omega

/-- The type. -/
def kindM (l : Pars) : MimeL × Bool := ((extractL (kindL l)).1, (extractL (kindL l)).2 == 0)

theorem kindM_sizes {l : Pars} (h : FewP l) : SizesM (kindM l).1 := extractL_sizes _ (kind_room h).2.2

def GivesKind (r : MimeL × Bool) (w : World) (e : Ending) (w' : World) : Prop :=
  ∃ A c, e = .returned (.tuple #[mimV r.1 A c, .bool r.2]) ∧ ParsAt w' w'.heap.size A r.1.ps ∧ Below w.heap.size w w' ∧ ∀ g, A = some ⟨g, 0, none⟩ → w.heap.size < g

set_option maxHeartbeats 1000000 in
set_option maxRecDepth 20000 in
theorem sextract_any (l : Pars) (A : Option Addr) (c : Nat) (w : World) (hl : FewP l) (hA : ParsIn w w.heap.size A l) :
    Calls Tryz.prog 45 #[.slice A l.length c] w fun e w' => GivesKind (kindM l) w e w' := by
  have HG := Lib.hid (fun (w1 : World) (hb : Below w.heap.size w w1) => Get_any kindName l A c w1 (Nat.le_trans hl.n (by omega)) (fun p hp => (hl.p p hp).1) (by decide) ((hA.on hb)))
  obtain ⟨k1, k2, k3⟩ := kind_room hl
  unfold kindM
  unfold kindL at *
  generalize getL kindName l = L at *
  unfold kindName at HG
  have HE := Lib.hid (fun (A1 : Option Addr) (c1 : Nat) (w1 : World) (h1 : StrsIn w1 A1 L) (h2 : L.length ≤ c1) => Extract_any L A1 c1 w1 h1 h2 (Nat.le_trans k1 (by omega)) (fun s hs => Nat.le_trans (k2 s hs) (by omega)) k3)
  generalize extractL L = X at *
  obtain ⟨M, code⟩ := X
  dsimp only at HE ⊢
  clear hA hl k1 k2 k3
  have hP : (w.alloc (.cells #[.string ⟨#[]⟩, .string ⟨#[]⟩, .slice none 0 0] 36)).heap[w.heap.size]? = some (mimO noM none 0) := heap_alloc_new w _
  have hb : Below w.heap.size w (w.alloc (.cells #[.string ⟨#[]⟩, .string ⟨#[]⟩, .slice none 0 0] 36)) := below_box w _
  go_enter Tryz.func45, Tryz.ntmps45
  go_upto_region 1 with fail
  generalize w.alloc (.cells #[.string ⟨#[]⟩, .string ⟨#[]⟩, .slice none 0 0] 36) = W at *
  go_wp2_with fail
  refine (HG.out W hb).mono ?_
  rintro e w1 ⟨A1, c1, rfl, h1, hbn, hc⟩
  have hP := (hbn.block _ (Array.getElem?_eq_some_iff.1 hP).1).trans hP
  have hb := hb.trans (hbn.mono hb.size)
  have HE1 := Lib.hid (HE.out A1 c1 w1 h1 hc)
  clear hbn h1 hc HE HG
  go_wp2_with fail
  refine HE1.out.mono ?_
  rintro e w2 ⟨A2, c2, rfl, hA2, hbn, hf⟩
  unfold mimV
  have hf : ∀ g, A2 = some ⟨g, 0, none⟩ → w.heap.size < g := fun g hg => by have h1 := hf g hg; have h2 := (Array.getElem?_eq_some_iff.1 hP).1; omega
  have hP := (hbn.block _ (Array.getElem?_eq_some_iff.1 hP).1).trans hP
  have hb := hb.trans (hbn.mono hb.size)
  have hb0 := below_box w2 (.cells #[.string (bt M.t), .string (bt M.s), .slice A2 M.ps.length c2] 36)
  have hP := (hb0.block _ (Array.getElem?_eq_some_iff.1 hP).1).trans hP
  have hb := hb.trans (hb0.mono hb.size)
  have hA2 := hA2.on hb0
  have hM : (w2.alloc (.cells #[.string (bt M.t), .string (bt M.s), .slice A2 M.ps.length c2] 36)).heap[w2.heap.size]? = some (mimO M A2 c2) := heap_alloc_new w2 _
  have HF := Lib.hid hf
  clear hbn hb0 hf HE1
  go_upto_region 2 with fail
  generalize w2.heap.size = gm at *
  generalize w2.alloc (.cells #[.string (bt M.t), .string (bt M.s), .slice A2 M.ps.length c2] 36) = W2 at *
  have HA2 := Lib.hid hA2
  have HB := Lib.hid hb
  obtain ⟨p0, p1, p2, pz, plt⟩ := mim_cells hP
  obtain ⟨m0, m1, m2, mz, mlt⟩ := mim_cells hM
  clear hP hM hA2 hb
  go_wp2_with fail
  refine bodyPost_ret (v := .tuple #[mimV M A2 c2, .bool (code == 0)]) ?_ rfl ?_
  · simp [results, Tryz.results45, go_sem, p0, p1, p2, mimV]
  · have hf : ∀ g, A2 = some ⟨g, 0, none⟩ → w.heap.size ≠ g := fun g hg => by have := HF.out g hg; omega
    refine ⟨A2, c2, rfl, ?_, ?_, HF.out⟩
    · exact (((HA2.out.set hf _).set hf _).set hf _).more (by simp)
    · exact ((HB.out.setCell (Nat.le_refl _) _).setCell (Nat.le_refl _) _).setCell (Nat.le_refl _) _

/-- The last value of the type's header. -/
def lastB (L : List ByteArray) : ByteArray := (L.getLast?).getD ⟨#[]⟩
def anyB (L : List ByteArray) : Bool := decide (L ≠ [])

theorem lastB_at {L : List ByteArray} (h : L ≠ []) (hk : L.length - 1 < L.length) : L[L.length - 1] = lastB L := by
  unfold lastB
  rw [List.getLast?_eq_getElem?, List.getElem?_eq_getElem hk]
  rfl

def GivesRaw (L : List ByteArray) (w : World) (e : Ending) (w' : World) : Prop :=
  e = .returned (.tuple #[.string (lastB L), .bool (anyB L)]) ∧ Below w.heap.size w w'

set_option maxHeartbeats 1000000 in
theorem sraw_any (l : Pars) (A : Option Addr) (c : Nat) (w : World) (hl : FewP l) (hA : ParsIn w w.heap.size A l) :
    Calls Tryz.prog 46 #[.slice A l.length c] w fun e w' => GivesRaw (kindL l) w e w' := by
  have hL10 := (hl.get kindName).1
  have HG : Hid (Calls Tryz.prog 71 #[.string kindName, .slice A l.length c] w fun e w' => ∃ A2 c2, e = .returned (.slice A2 (getL kindName l).length c2) ∧ StrsIn w' A2 (getL kindName l) ∧ Below w.heap.size w w') := Lib.hid ((Get_any kindName l A c w (Nat.le_trans hl.n (by omega)) (fun p hp => (hl.p p hp).1) (by decide) hA).mono (by rintro e w' ⟨A2, c2, h1, h2, h3, _⟩; exact ⟨A2, c2, h1, h2, h3⟩))
  unfold kindL
  generalize getL kindName l = L at *
  unfold kindName at HG
  clear hA hl
  by_cases h0 : L = []
  · rw [h0] at HG ⊢
    clear h0
    go_enter Tryz.func46, Tryz.ntmps46
    go_wp2_with fail
    refine HG.out.mono ?_
    rintro e w1 ⟨A1, c1, rfl, h1, hbn⟩
    have HB := Lib.hid hbn
    clear h1 hbn
    go_wp2_with fail
    go_ret2
    exact ⟨rfl, HB.out⟩
  · have hn : 0 < L.length := List.length_pos_iff.2 h0
    have h0b : (((L.length : Int)) == 0) = false := beq_eq_false_iff_ne.2 (by omega)
    have hk : L.length - 1 < L.length := by omega
    have hz := lastB_at h0 hk
    have hq : anyB L = true := decide_eq_true h0
    have hsub : (((L.length - 1 : Nat)) : Int) = (L.length : Int) - 1 := by omega
    have hi0 : (0 : Int) ≤ (L.length : Int) - 1 := by omega
    have hi1 : ((L.length : Int) - 1).toNat = L.length - 1 := by omega
    have hi2 : (L.length : Int) - 1 < (L.length : Int) := by omega
    go_enter Tryz.func46, Tryz.ntmps46
    go_wp2_with fail
    refine HG.out.mono ?_
    rintro e w1 ⟨A1, c1, rfl, h1, hbn⟩
    have HB := Lib.hid hbn
    rcases h1 with hnil | ⟨b, off, rfl, hlt, hcs⟩
    · exact absurd hnil h0
    have c0 := hcs (L.length - 1) hk
    rw [hz] at c0
    have HQ := Lib.hid hq
    clear hbn hcs hz hk hq h0
    go_wp2_with fail
    go_ret2
    exact ⟨by rw [HQ.out]; rfl, HB.out⟩

set_option maxHeartbeats 1000000 in
theorem rsRaw_any (l : Pars) (A : Option Addr) (c : Nat) (w : World) (hl : FewP l) (hA : ParsIn w w.heap.size A l) :
    Calls Tryz.prog 37 #[.slice A l.length c] w fun e w' => GivesRaw (kindL l) w e w' := by
  have hL10 := (hl.get kindName).1
  have HG := Lib.hid (rGet22_any kindSmall l A c w (Nat.le_trans hl.n (by omega)) (fun p hp => (hl.p p hp).1) (by decide) hA)
  rw [← getL_kind] at HG
  unfold kindSmall at HG
  unfold kindL
  generalize getL kindName l = L at *
  clear hA hl
  by_cases h0 : L = []
  · rw [h0] at HG ⊢
    clear h0
    go_enter Tryz.func37, Tryz.ntmps37
    go_wp2_with fail
    refine HG.out.mono ?_
    rintro e w1 ⟨A1, c1, rfl, h1, hbn⟩
    have HB := Lib.hid hbn
    clear h1 hbn
    go_wp2_with fail
    go_ret2
    exact ⟨rfl, HB.out⟩
  · have hn : 0 < L.length := List.length_pos_iff.2 h0
    have h0b : (((L.length : Int)) == 0) = false := beq_eq_false_iff_ne.2 (by omega)
    have hk : L.length - 1 < L.length := by omega
    have hz := lastB_at h0 hk
    have hq : anyB L = true := decide_eq_true h0
    have hsub : (((L.length - 1 : Nat)) : Int) = (L.length : Int) - 1 := by omega
    have hi0 : (0 : Int) ≤ (L.length : Int) - 1 := by omega
    have hi1 : ((L.length : Int) - 1).toNat = L.length - 1 := by omega
    have hi2 : (L.length : Int) - 1 < (L.length : Int) := by omega
    go_enter Tryz.func37, Tryz.ntmps37
    go_wp2_with fail
    refine HG.out.mono ?_
    rintro e w1 ⟨A1, c1, rfl, h1, hbn⟩
    have HB := Lib.hid hbn
    rcases h1 with hnil | ⟨b, off, rfl, hlt, hcs⟩
    · exact absurd hnil h0
    have c0 := hcs (L.length - 1) hk
    rw [hz] at c0
    have HQ := Lib.hid hq
    clear hbn hcs hz hk hq h0
    go_wp2_with fail
    go_ret2
    exact ⟨by rw [HQ.out]; rfl, HB.out⟩

/-- Whether a server may err of a type's text. -/
def bugB (s : ByteArray) : Bool := (s.toList == [116, 101, 120, 116, 47, 112, 108, 97, 105, 110]) || (s.toList == [116, 101, 120, 116, 47, 112, 108, 97, 105, 110, 59, 32, 99, 104, 97, 114, 115, 101, 116, 61, 73, 83, 79, 45, 56, 56, 53, 57, 45, 49]) || (s.toList == [116, 101, 120, 116, 47, 112, 108, 97, 105, 110, 59, 32, 99, 104, 97, 114, 115, 101, 116, 61, 105, 115, 111, 45, 56, 56, 53, 57, 45, 49]) || (s.toList == [116, 101, 120, 116, 47, 112, 108, 97, 105, 110, 59, 32, 99, 104, 97, 114, 115, 101, 116, 61, 85, 84, 70, 45, 56])

set_option maxRecDepth 20000 in
theorem rBug_any (s : ByteArray) (w : World) : Calls Tryz.prog 39 #[.string s] w fun e w' => e = .returned (.bool (bugB s)) ∧ w = w' := by
  unfold bugB
  generalize h0 : (s.toList == [116, 101, 120, 116, 47, 112, 108, 97, 105, 110]) = q0
  generalize h1 : (s.toList == [116, 101, 120, 116, 47, 112, 108, 97, 105, 110, 59, 32, 99, 104, 97, 114, 115, 101, 116, 61, 73, 83, 79, 45, 56, 56, 53, 57, 45, 49]) = q1
  generalize h2 : (s.toList == [116, 101, 120, 116, 47, 112, 108, 97, 105, 110, 59, 32, 99, 104, 97, 114, 115, 101, 116, 61, 105, 115, 111, 45, 56, 56, 53, 57, 45, 49]) = q2
  generalize h3 : (s.toList == [116, 101, 120, 116, 47, 112, 108, 97, 105, 110, 59, 32, 99, 104, 97, 114, 115, 101, 116, 61, 85, 84, 70, 45, 56]) = q3
  go_enter Tryz.func39, Tryz.ntmps39
  cases q0 <;> cases q1 <;> cases q2 <;> cases q3
  all_goals
    go_wp2_with fail
    go_ret
    exact ⟨rfl, rfl⟩

end Go.Proofs.YtcbhkcdphbffpaaGreatDoor

namespace Go.Proofs.YtcbhkcdphbffpaaGreatDoor
open Go.RowKit
set_option linter.unusedSimpArgs false
set_option linter.unusedVariables false

def setB (k : Nat) : ByteArray := if k = 0 then ⟨#[73, 83, 79, 45, 56, 56, 53, 57, 45, 49]⟩ else if k = 1 then ⟨#[105, 115, 111, 45, 56, 56, 53, 57, 45, 49]⟩ else ⟨#[85, 84, 70, 45, 56]⟩

theorem setB_size (k : Nat) : (setB k).size ≤ 10 := by
  unfold setB
  split
  · decide
  · split <;> decide

def hitB (s : ByteArray) (k : Nat) : Bool := s.toList == ((⟨#[116, 101, 120, 116, 47, 112, 108, 97, 105, 110, 59, 32, 99, 104, 97, 114, 115, 101, 116, 61]⟩ : ByteArray) ++ setB k).toList

theorem bug_hit {s : ByteArray} (k : Nat) (hk : k < 3) (h : hitB s k = true) : bugB s = true := by
  unfold hitB at h
  have h2 := beq_iff_eq.1 h
  unfold bugB
  rw [h2]
  match k, hk with
  | 0, _ => decide +kernel
  | 1, _ => decide +kernel
  | 2, _ => decide +kernel

theorem bug_miss {s : ByteArray} (h0 : (s.toList == [116, 101, 120, 116, 47, 112, 108, 97, 105, 110]) = false) (h : ∀ k, k < 3 → hitB s k = false) : bugB s = false := by
  unfold bugB
  have a0 := h 0 (by omega)
  have a1 := h 1 (by omega)
  have a2 := h 2 (by omega)
  unfold hitB at a0 a1 a2
  rw [show ((⟨#[116, 101, 120, 116, 47, 112, 108, 97, 105, 110, 59, 32, 99, 104, 97, 114, 115, 101, 116, 61]⟩ : ByteArray) ++ setB 0).toList = [116, 101, 120, 116, 47, 112, 108, 97, 105, 110, 59, 32, 99, 104, 97, 114, 115, 101, 116, 61, 73, 83, 79, 45, 56, 56, 53, 57, 45, 49] from by decide +kernel] at a0
  rw [show ((⟨#[116, 101, 120, 116, 47, 112, 108, 97, 105, 110, 59, 32, 99, 104, 97, 114, 115, 101, 116, 61]⟩ : ByteArray) ++ setB 1).toList = [116, 101, 120, 116, 47, 112, 108, 97, 105, 110, 59, 32, 99, 104, 97, 114, 115, 101, 116, 61, 105, 115, 111, 45, 56, 56, 53, 57, 45, 49] from by decide +kernel] at a1
  rw [show ((⟨#[116, 101, 120, 116, 47, 112, 108, 97, 105, 110, 59, 32, 99, 104, 97, 114, 115, 101, 116, 61]⟩ : ByteArray) ++ setB 2).toList = [116, 101, 120, 116, 47, 112, 108, 97, 105, 110, 59, 32, 99, 104, 97, 114, 115, 101, 116, 61, 85, 84, 70, 45, 56] from by decide +kernel] at a2
  rw [h0, a0, a1, a2]
  rfl

def MissTo (s : ByteArray) (k : Nat) : Prop := ∀ j, j < k → hitB s j = false

theorem MissTo.next {s : ByteArray} {k : Nat} (h : MissTo s k) (hk : hitB s k = false) : MissTo s (k + 1) := fun j hj => by
  rcases Nat.lt_or_ge j k with h2 | h2
  · exact h j h2
  · have : j = k := by omega
    subst this
    exact hk

set_option maxHeartbeats 1000000 in
set_option maxRecDepth 20000 in
theorem Bug_any (s : ByteArray) (w : World) : Calls Tryz.prog 48 #[.string s] w fun e w' => e = .returned (.bool (bugB s)) ∧ Below w.heap.size w w' := by
  cases h0 : (s.toList == [116, 101, 120, 116, 47, 112, 108, 97, 105, 110])
  · have hm := @bug_miss s h0
    have hh := @bug_hit s
    have hW : Below w.heap.size w (w.alloc (.cells #[.string ⟨#[73, 83, 79, 45, 56, 56, 53, 57, 45, 49]⟩, .string ⟨#[105, 115, 111, 45, 56, 56, 53, 57, 45, 49]⟩, .string ⟨#[85, 84, 70, 45, 56]⟩] 9)) := below_box w _
    have hcs : ∀ k, k < 3 → (w.alloc (.cells #[.string ⟨#[73, 83, 79, 45, 56, 56, 53, 57, 45, 49]⟩, .string ⟨#[105, 115, 111, 45, 56, 56, 53, 57, 45, 49]⟩, .string ⟨#[85, 84, 70, 45, 56]⟩] 9)).cell? ⟨w.heap.size, k, none⟩ = some (.string (setB k)) := fun k hk => by
      match k, hk with
      | 0, _ => simp [go_sem]; rfl
      | 1, _ => simp [go_sem]; rfl
      | 2, _ => simp [go_sem]; rfl
    have HB := Lib.hid hW
    have HM := Lib.hid hm
    have HH := Lib.hid hh
    have HCS := Lib.hid hcs
    clear hm hh hW hcs
    go_enter Tryz.func48, Tryz.ntmps48
    go_upto_region 4 with fail
    generalize w.alloc (.cells #[.string ⟨#[73, 83, 79, 45, 56, 56, 53, 57, 45, 49]⟩, .string ⟨#[105, 115, 111, 45, 56, 56, 53, 57, 45, 49]⟩, .string ⟨#[85, 84, 70, 45, 56]⟩] 9) = W at *
    go_loopw [4, 9] (fun v i wr => ∃ k : Nat, k ≤ 3 ∧ i = .int .i64 k ∧ wr = W ∧ MissTo s k) (fun _ i _ => 3 - (intOf i).toNat)
    case atStart => exact ⟨0, by omega, rfl, rfl, fun j hj => absurd hj (by omega)⟩
    case round =>
      obtain ⟨k, hk, rfl, rfl, hms⟩ := hrel
      by_cases hlt : k < 3
      · have c0 := HCS.out k hlt
        have hltI : (k : Int) < 3 := by omega
        have hge : (0 : Int) ≤ (k : Int) := by omega
        have hsz := setB_size k
        have hc : (9223372036854775807 < 20 + (setB k).size) = False := eq_false (by omega)
        have hq : (s.toList == ((⟨#[116, 101, 120, 116, 47, 112, 108, 97, 105, 110, 59, 32, 99, 104, 97, 114, 115, 101, 116, 61]⟩ : ByteArray) ++ setB k).toList) = hitB s k := rfl
        have HK := Lib.hid (HH.out k hlt)
        have HMS := Lib.hid hms
        have HQ : Hid (∀ q, hitB s k = q → hitB s k = q) := Lib.hid (fun _ h => h)
        clear hms hsz
        cases hh : hitB s k
        · rw [hh] at hq
          have HN := Lib.hid (HMS.out.next hh)
          clear hh HK HQ HMS
          go_wp2_with fail
          go_roundw
          all_goals first
            | exact ⟨k + 1, by omega, by go_num, rfl, HN.out⟩
            | (simp [intOf]; omega)
            | (simp; exact ⟨k + 1, by omega, by omega, HN.out⟩)
        · rw [hh] at hq
          have HV := Lib.hid (HK.out hh)
          clear hh HK HQ HMS
          go_wp2_with fail
          go_ret
          exact ⟨by rw [HV.out]; rfl, HB.out⟩
      · obtain rfl : k = 3 := by omega
        have HV := Lib.hid (HM.out hms)
        clear hms
        go_wp2_with fail
        go_ret
        exact ⟨by rw [HV.out]; rfl, HB.out⟩
  · have HV : Hid (bugB s = true) := Lib.hid (by unfold bugB; rw [h0]; rfl)
    go_enter Tryz.func48, Tryz.ntmps48
    go_wp2_with fail
    go_ret
    exact ⟨by rw [HV.out]; rfl, Below.refl _ _⟩

/-- What is said of a body. -/
def saidV (M : MimeL) (A : Option Addr) (c : Nat) (h n b : Bool) : Value := .agg #[.string (bt M.t), .string (bt M.s), .slice A M.ps.length c, .bool h, .bool n, .bool b]

def saidO (M : MimeL) (A : Option Addr) (c : Nat) (h n b : Bool) : Obj := .cells #[.string (bt M.t), .string (bt M.s), .slice A M.ps.length c, .bool h, .bool n, .bool b] 38 (0, 0)

theorem said_cells {w : World} {g : Nat} {m : MimeL} {A : Option Addr} {c : Nat} {h n b : Bool} (hh : w.heap[g]? = some (saidO m A c h n b)) :
    w.cell? ⟨g, 0, none⟩ = some (.string (bt m.t)) ∧ w.cell? ⟨g, 1, none⟩ = some (.string (bt m.s)) ∧ w.cell? ⟨g, 2, none⟩ = some (.slice A m.ps.length c) ∧ w.cell? ⟨g, 3, none⟩ = some (.bool h) ∧ w.cell? ⟨g, 4, none⟩ = some (.bool n) ∧ w.cell? ⟨g, 5, none⟩ = some (.bool b) ∧ (∀ i, w.frozen? ⟨g, i, none⟩ = false) ∧ g < w.heap.size := by
  refine ⟨?_, ?_, ?_, ?_, ?_, ?_, ?_, (Array.getElem?_eq_some_iff.1 hh).1⟩
  · rw [Lib.cell_of_heap hh]; rfl
  · rw [Lib.cell_of_heap hh]; rfl
  · rw [Lib.cell_of_heap hh]; rfl
  · rw [Lib.cell_of_heap hh]; rfl
  · rw [Lib.cell_of_heap hh]; rfl
  · rw [Lib.cell_of_heap hh]; rfl
  · exact fun i => Lib.frozen_of_heap hh i

/-- What all headers say. -/
def saidBug (l : Pars) : Bool := bugB (lastB (kindL l))

def GivesSaid (l : Pars) (w : World) (e : Ending) (w' : World) : Prop :=
  ∃ A c, e = .returned (saidV (kindM l).1 A c (kindM l).2 (noSniff l) (saidBug l)) ∧ ParsAt w' w'.heap.size A (kindM l).1.ps ∧ Below w.heap.size w w'

set_option maxHeartbeats 2000000 in
set_option maxRecDepth 20000 in
theorem Said_any (l : Pars) (A : Option Addr) (c : Nat) (w : World) (hl : FewP l) (hA : ParsIn w w.heap.size A l) :
    Calls Tryz.prog 23 #[.slice A l.length c] w fun e w' => GivesSaid l w e w' := by
  have HE := Lib.hid (fun (w1 : World) (hb : Below w.heap.size w w1) => sextract_any l A c w1 hl (hA.on hb))
  have HR := Lib.hid (fun (w1 : World) (hb : Below w.heap.size w w1) => sraw_any l A c w1 hl (hA.on hb))
  have HI := Lib.hid (fun (w1 : World) (hb : Below w.heap.size w w1) => sis_any l A c w1 hl (hA.on hb))
  have HBU := Lib.hid (fun (w1 : World) => Bug_any (lastB (kindL l)) w1)
  unfold GivesSaid saidBug
  generalize bugB (lastB (kindL l)) = bu at *
  generalize noSniff l = ns at *
  generalize kindM l = X at *
  unfold GivesRaw at HR
  generalize lastB (kindL l) = S at *
  generalize anyB (kindL l) = an at *
  obtain ⟨M, code⟩ := X
  dsimp only at HE ⊢
  clear hA hl
  have hP : (w.alloc (.cells #[.string ⟨#[]⟩, .string ⟨#[]⟩, .slice none 0 0, .bool false, .bool false, .bool false] 38)).heap[w.heap.size]? = some (saidO noM none 0 false false false) := heap_alloc_new w _
  have hb : Below w.heap.size w (w.alloc (.cells #[.string ⟨#[]⟩, .string ⟨#[]⟩, .slice none 0 0, .bool false, .bool false, .bool false] 38)) := below_box w _
  go_enter Tryz.func23, Tryz.ntmps23
  go_upto_region 1 with fail
  generalize w.alloc (.cells #[.string ⟨#[]⟩, .string ⟨#[]⟩, .slice none 0 0, .bool false, .bool false, .bool false] 38) = W at *
  go_wp2_with fail
  refine (HE.out W hb).mono ?_
  rintro e w2 ⟨A2, c2, rfl, hA2, hbn, hf⟩
  have hf : M.ps = [] ∨ ∀ g, A2 = some ⟨g, 0, none⟩ → w.heap.size < g := .inr (fun g hg => by have h1 := hf g hg; have h2 := (Array.getElem?_eq_some_iff.1 hP).1; omega)
  unfold mimV
  have hP := (hbn.block _ (Array.getElem?_eq_some_iff.1 hP).1).trans hP
  have hb := hb.trans (hbn.mono hb.size)
  have hb0 := below_box w2 (.cells #[.string (bt M.t), .string (bt M.s), .slice A2 M.ps.length c2] 36)
  have hP := (hb0.block _ (Array.getElem?_eq_some_iff.1 hP).1).trans hP
  have hb := hb.trans (hb0.mono hb.size)
  have hA2 := hA2.on hb0
  have hM : (w2.alloc (.cells #[.string (bt M.t), .string (bt M.s), .slice A2 M.ps.length c2] 36)).heap[w2.heap.size]? = some (mimO M A2 c2) := heap_alloc_new w2 _
  have HF := Lib.hid hf
  clear hbn hb0 hf
  go_upto_region 2 with fail
  generalize w2.heap.size = gm at *
  generalize w2.alloc (.cells #[.string (bt M.t), .string (bt M.s), .slice A2 M.ps.length c2] 36) = W2 at *
  go_wp2_with fail
  refine (HR.out W2 hb).mono ?_
  rintro e w3 ⟨rfl, hbn⟩
  have hP := (hbn.block _ (Array.getElem?_eq_some_iff.1 hP).1).trans hP
  have hM := (hbn.block _ (Array.getElem?_eq_some_iff.1 hM).1).trans hM
  have hA2 := hA2.on hbn
  have hb := hb.trans (hbn.mono hb.size)
  have HP := Lib.hid hP; have HM := Lib.hid hM; have HA2 := Lib.hid hA2; have HB := Lib.hid hb
  obtain ⟨p0, p1, p2, p3, p4, p5, -, pz⟩ := said_cells hP
  obtain ⟨m0, m1, m2, -, mz⟩ := mim_cells hM
  clear hbn hP hM hA2 hb
  go_upto_region 3 with fail
  refine wp_region_N 7 (fun w' => w'.cell? ⟨gm, 0, none⟩ = some (.string (bt M.t)) ∧ w'.cell? ⟨gm, 1, none⟩ = some (.string (bt M.s)) ∧ w'.cell? ⟨gm, 2, none⟩ = some (.slice A2 M.ps.length c2)) (by kernel_rfl) (by kernel_rfl) ⟨m0, m1, m2⟩ ?_
  (refine NJ.take (i := 0) (v := ?_) rfl rfl (by kernel_rfl) (by kernel_rfl) (by kernel_rfl) (by kernel_rfl) (fun _ _ _ h => h) (Or.inl ⟨by rfl, ?_⟩) ?_; rotate_left; (focus (intro wS hSw; (try dsimp only at hSw); go_simp; first | done | with_reducible rfl)); (try simp only [Act.put, List.getElem_toArray, List.getElem_cons_zero, List.getElem_cons_succ, List.setIfInBounds_toArray, List.set_cons_zero, List.set_cons_succ]))
  (refine NJ.take (i := 1) (v := ?_) rfl rfl (by kernel_rfl) (by kernel_rfl) (by kernel_rfl) (by kernel_rfl) (fun _ _ _ h => h) (Or.inl ⟨by rfl, ?_⟩) ?_; rotate_left; (focus (intro wS hSw; (try dsimp only at hSw); go_simp; first | done | with_reducible rfl)); (try simp only [Act.put, List.getElem_toArray, List.getElem_cons_zero, List.getElem_cons_succ, List.setIfInBounds_toArray, List.set_cons_zero, List.set_cons_succ]))
  (refine NJ.take (i := 2) (v := ?_) rfl rfl (by kernel_rfl) (by kernel_rfl) (by kernel_rfl) (by kernel_rfl) (fun _ _ _ h => h) (Or.inl ⟨by rfl, ?_⟩) ?_; rotate_left; (focus (intro wS hSw; (try dsimp only at hSw); go_simp; first | done | with_reducible rfl)); (try simp only [Act.put, List.getElem_toArray, List.getElem_cons_zero, List.getElem_cons_succ, List.setIfInBounds_toArray, List.set_cons_zero, List.set_cons_succ]))
  (refine NJ.take (i := 4) (v := ?_) rfl rfl (by kernel_rfl) (by kernel_rfl) (by kernel_rfl) (by kernel_rfl) (fun _ _ _ h => h) (Or.inl ⟨by rfl, ?_⟩) ?_; rotate_left; (focus (intro wS hSw; (try dsimp only at hSw); go_simp; first | done | with_reducible rfl)); (try simp only [Act.put, List.getElem_toArray, List.getElem_cons_zero, List.getElem_cons_succ, List.setIfInBounds_toArray, List.set_cons_zero, List.set_cons_succ]))
  refine NJ.step (i := 3) rfl rfl (by kernel_rfl) (fun hSat K hK => ?_)
  go_simp
  refine Calls.mono (HI.out _ HB.out.drew) ?_
  rintro e w4 ⟨rfl, hb4⟩
  have hbn := hb2_fix hb4
  have HB4 := Lib.hid hbn
  clear hb4
  go_wp2_with fail
  refine hK.out _ _ ?_ ?_
  · exact ⟨(cell_below hbn mz).trans m0, (cell_below hbn mz).trans m1, (cell_below hbn mz).trans m2⟩
  clear hK hSat K
  (try simp only [Act.put, List.getElem_toArray, List.getElem_cons_zero, List.getElem_cons_succ, List.setIfInBounds_toArray, List.set_cons_zero, List.set_cons_succ])
  clear hbn
  refine NJ.step (i := 5) rfl rfl (by kernel_rfl) (fun hSat K hK => ?_)
  go_simp
  refine Calls.mono (HBU.out _) ?_
  rintro e w5 ⟨rfl, hb5⟩
  have hbn := HB4.out.trans (hb5.mono HB4.out.size)
  clear hb5
  have hP5 := (hbn.block _ pz).trans HP.out
  have HA5 := Lib.hid (HA2.out.on hbn)
  have HB5 := Lib.hid (HB.out.trans (hbn.mono HB.out.size))
  obtain ⟨q0, q1, q2, q3, q4, q5, fq, qz⟩ := said_cells hP5
  clear hP5
  go_wp2_with fail
  refine hK.out _ _ ?_ ?_
  · exact ⟨(cell_below hbn mz).trans m0, (cell_below hbn mz).trans m1, (cell_below hbn mz).trans m2⟩
  clear hK hSat K
  (try simp only [Act.put, List.getElem_toArray, List.getElem_cons_zero, List.getElem_cons_succ, List.setIfInBounds_toArray, List.set_cons_zero, List.set_cons_succ])
  (refine NJ.take (i := 6) (v := ?_) rfl rfl (by kernel_rfl) (by kernel_rfl) (by kernel_rfl) (by kernel_rfl) (fun _ _ _ h => h) (Or.inl ⟨by rfl, ?_⟩) ?_; rotate_left; (focus (intro wS hSw; (try dsimp only at hSw); go_simp; first | done | with_reducible rfl)); (try simp only [Act.put, List.getElem_toArray, List.getElem_cons_zero, List.getElem_cons_succ, List.setIfInBounds_toArray, List.set_cons_zero, List.set_cons_succ]))
  clear hbn m0 m1 m2 p0 p1 p2 p3 p4 p5
  (refine NJ.last rfl (by kernel_rfl) (by kernel_rfl) (fun hSat K hK => ?_); go_simp; refine hK.out _ _ ?_; clear hK hSat K; (try simp only [Act.put, List.getElem_toArray, List.getElem_cons_zero, List.getElem_cons_succ, List.setIfInBounds_toArray, List.set_cons_zero, List.set_cons_succ]))
  go_wp2_with fail
  refine bodyPost_ret (v := saidV M A2 c2 code ns bu) ?_ rfl ?_
  · simp [results, Tryz.results23, go_sem, q0, q1, q2, q3, q4, q5, mimV, saidV]
  · have hf : M.ps = [] ∨ ∀ g, A2 = some ⟨g, 0, none⟩ → w.heap.size ≠ g := HF.out.imp id (fun h g hg => by have := h g hg; omega)
    refine ⟨A2, c2, rfl, ?_, ?_⟩
    · exact ((((((HA5.out.set3 hf _).set3 hf _).set3 hf _).set3 hf _).set3 hf _).set3 hf _).more (by simp)
    · exact (((((HB5.out.setCell (Nat.le_refl _) _).setCell (Nat.le_refl _) _).setCell (Nat.le_refl _) _).setCell (Nat.le_refl _) _).setCell (Nat.le_refl _) _).setCell (Nat.le_refl _) _

set_option maxHeartbeats 2000000 in
set_option maxRecDepth 20000 in
theorem rSaid_any (l : Pars) (A : Option Addr) (c : Nat) (w : World) (hl : FewP l) (hA : ParsIn w w.heap.size A l) :
    Calls Tryz.prog 11 #[.slice A l.length c] w fun e w' => GivesSaid l w e w' := by
  have HG := Lib.hid (fun (w1 : World) (hb : Below w.heap.size w w1) => rGet22_any kindSmall l A c w1 (Nat.le_trans hl.n (by omega)) (fun p hp => (hl.p p hp).1) (by decide) (hA.on hb))
  rw [← getL_kind] at HG
  obtain ⟨k1, k2, k3⟩ := kind_room hl
  have HR := Lib.hid (fun (w1 : World) (hb : Below w.heap.size w w1) => rsRaw_any l A c w1 hl (hA.on hb))
  have HI := Lib.hid (fun (w1 : World) (hb : Below w.heap.size w w1) => rsIs_any l A c w1 hl (hA.on hb))
  have HBU := Lib.hid (fun (w1 : World) => rBug_any (lastB (kindL l)) w1)
  unfold GivesSaid saidBug kindM
  unfold GivesRaw at HR
  generalize bugB (lastB (kindL l)) = bu at *
  generalize noSniff l = ns at *
  generalize lastB (kindL l) = S at *
  generalize anyB (kindL l) = an at *
  unfold kindL at *
  generalize getL kindName l = L at *
  unfold kindSmall at HG
  have HE := Lib.hid (fun (A1 : Option Addr) (c1 : Nat) (w1 : World) (h1 : StrsIn w1 A1 L) => rExtract_any L A1 c1 w1 h1 (Nat.le_trans k1 (by omega)) (fun s hs => Nat.le_trans (k2 s hs) (by omega)) k3)
  generalize extractL L = X at *
  obtain ⟨M, code⟩ := X
  dsimp only at HE ⊢
  clear k1 k2 k3
  clear hA hl
  have hP : (w.alloc (.cells #[.string ⟨#[]⟩, .string ⟨#[]⟩, .slice none 0 0, .bool false, .bool false, .bool false] 38)).heap[w.heap.size]? = some (saidO noM none 0 false false false) := heap_alloc_new w _
  have hb : Below w.heap.size w (w.alloc (.cells #[.string ⟨#[]⟩, .string ⟨#[]⟩, .slice none 0 0, .bool false, .bool false, .bool false] 38)) := below_box w _
  go_enter Tryz.func11, Tryz.ntmps11
  go_upto_region 1 with fail
  generalize w.alloc (.cells #[.string ⟨#[]⟩, .string ⟨#[]⟩, .slice none 0 0, .bool false, .bool false, .bool false] 38) = W at *
  go_wp2_with fail
  refine (HG.out W hb).mono ?_
  rintro e w1 ⟨A1, c1, rfl, h1, hbn⟩
  have hP := (hbn.block _ (Array.getElem?_eq_some_iff.1 hP).1).trans hP
  have hb := hb.trans (hbn.mono hb.size)
  have HE1 := Lib.hid (HE.out A1 c1 w1 h1)
  clear hbn h1 HE HG
  go_wp2_with fail
  refine HE1.out.mono ?_
  rintro e w2 ⟨A2, c2, rfl, hA2, hbn, hf⟩
  have hf : M.ps = [] ∨ ∀ g, A2 = some ⟨g, 0, none⟩ → w.heap.size < g := hf.imp id (fun hf g hg => by have h1 := hf g hg; have h2 := (Array.getElem?_eq_some_iff.1 hP).1; omega)
  unfold mimV
  have hP := (hbn.block _ (Array.getElem?_eq_some_iff.1 hP).1).trans hP
  have hb := hb.trans (hbn.mono hb.size)
  have hb0 := below_box w2 (.cells #[.string (bt M.t), .string (bt M.s), .slice A2 M.ps.length c2] 36)
  have hP := (hb0.block _ (Array.getElem?_eq_some_iff.1 hP).1).trans hP
  have hb := hb.trans (hb0.mono hb.size)
  have hA2 := hA2.on hb0
  have hM : (w2.alloc (.cells #[.string (bt M.t), .string (bt M.s), .slice A2 M.ps.length c2] 36)).heap[w2.heap.size]? = some (mimO M A2 c2) := heap_alloc_new w2 _
  have HF := Lib.hid hf
  clear hbn hb0 hf
  go_upto_region 2 with fail
  generalize w2.heap.size = gm at *
  generalize w2.alloc (.cells #[.string (bt M.t), .string (bt M.s), .slice A2 M.ps.length c2] 36) = W2 at *
  go_wp2_with fail
  refine (HR.out W2 hb).mono ?_
  rintro e w3 ⟨rfl, hbn⟩
  have hP := (hbn.block _ (Array.getElem?_eq_some_iff.1 hP).1).trans hP
  have hM := (hbn.block _ (Array.getElem?_eq_some_iff.1 hM).1).trans hM
  have hA2 := hA2.on hbn
  have hb := hb.trans (hbn.mono hb.size)
  have HP := Lib.hid hP; have HM := Lib.hid hM; have HA2 := Lib.hid hA2; have HB := Lib.hid hb
  obtain ⟨p0, p1, p2, p3, p4, p5, -, pz⟩ := said_cells hP
  obtain ⟨m0, m1, m2, -, mz⟩ := mim_cells hM
  clear hbn hP hM hA2 hb
  go_upto_region 3 with fail
  refine wp_region_N 8 (fun w' => w'.cell? ⟨gm, 0, none⟩ = some (.string (bt M.t)) ∧ w'.cell? ⟨gm, 1, none⟩ = some (.string (bt M.s)) ∧ w'.cell? ⟨gm, 2, none⟩ = some (.slice A2 M.ps.length c2)) (by kernel_rfl) (by kernel_rfl) ⟨m0, m1, m2⟩ ?_
  (refine NJ.take (i := 0) (v := ?_) rfl rfl (by kernel_rfl) (by kernel_rfl) (by kernel_rfl) (by kernel_rfl) (fun _ _ _ h => h) (Or.inl ⟨by rfl, ?_⟩) ?_; rotate_left; (focus (intro wS hSw; (try dsimp only at hSw); go_simp; first | done | with_reducible rfl)); (try simp only [Act.put, List.getElem_toArray, List.getElem_cons_zero, List.getElem_cons_succ, List.setIfInBounds_toArray, List.set_cons_zero, List.set_cons_succ]))
  (refine NJ.take (i := 1) (v := ?_) rfl rfl (by kernel_rfl) (by kernel_rfl) (by kernel_rfl) (by kernel_rfl) (fun _ _ _ h => h) (Or.inl ⟨by rfl, ?_⟩) ?_; rotate_left; (focus (intro wS hSw; (try dsimp only at hSw); go_simp; first | done | with_reducible rfl)); (try simp only [Act.put, List.getElem_toArray, List.getElem_cons_zero, List.getElem_cons_succ, List.setIfInBounds_toArray, List.set_cons_zero, List.set_cons_succ]))
  (refine NJ.take (i := 2) (v := ?_) rfl rfl (by kernel_rfl) (by kernel_rfl) (by kernel_rfl) (by kernel_rfl) (fun _ _ _ h => h) (Or.inl ⟨by rfl, ?_⟩) ?_; rotate_left; (focus (intro wS hSw; (try dsimp only at hSw); go_simp; first | done | with_reducible rfl)); (try simp only [Act.put, List.getElem_toArray, List.getElem_cons_zero, List.getElem_cons_succ, List.setIfInBounds_toArray, List.set_cons_zero, List.set_cons_succ]))
  (refine NJ.take (i := 3) (v := ?_) rfl rfl (by kernel_rfl) (by kernel_rfl) (by kernel_rfl) (by kernel_rfl) (fun _ _ _ h => h) (Or.inl ⟨by rfl, ?_⟩) ?_; rotate_left; (focus (intro wS hSw; (try dsimp only at hSw); go_simp; first | done | with_reducible rfl)); (try simp only [Act.put, List.getElem_toArray, List.getElem_cons_zero, List.getElem_cons_succ, List.setIfInBounds_toArray, List.set_cons_zero, List.set_cons_succ]))
  (refine NJ.take (i := 5) (v := ?_) rfl rfl (by kernel_rfl) (by kernel_rfl) (by kernel_rfl) (by kernel_rfl) (fun _ _ _ h => h) (Or.inl ⟨by rfl, ?_⟩) ?_; rotate_left; (focus (intro wS hSw; (try dsimp only at hSw); go_simp; first | done | with_reducible rfl)); (try simp only [Act.put, List.getElem_toArray, List.getElem_cons_zero, List.getElem_cons_succ, List.setIfInBounds_toArray, List.set_cons_zero, List.set_cons_succ]))
  refine NJ.step (i := 4) rfl rfl (by kernel_rfl) (fun hSat K hK => ?_)
  go_simp
  refine Calls.mono (HI.out _ HB.out.drew) ?_
  rintro e w4 ⟨rfl, hb4⟩
  have hbn := hb2_fix hb4
  have HB4 := Lib.hid hbn
  clear hb4
  go_wp2_with fail
  refine hK.out _ _ ?_ ?_
  · exact ⟨(cell_below hbn mz).trans m0, (cell_below hbn mz).trans m1, (cell_below hbn mz).trans m2⟩
  clear hK hSat K
  (try simp only [Act.put, List.getElem_toArray, List.getElem_cons_zero, List.getElem_cons_succ, List.setIfInBounds_toArray, List.set_cons_zero, List.set_cons_succ])
  clear hbn
  refine NJ.step (i := 6) rfl rfl (by kernel_rfl) (fun hSat K hK => ?_)
  go_simp
  refine Calls.mono (HBU.out _) ?_
  rintro e w5 ⟨rfl, rfl⟩
  have hbn := HB4.out
  have hP5 := (hbn.block _ pz).trans HP.out
  have HA5 := Lib.hid (HA2.out.on hbn)
  have HB5 := Lib.hid (HB.out.trans (hbn.mono HB.out.size))
  obtain ⟨q0, q1, q2, q3, q4, q5, fq, qz⟩ := said_cells hP5
  clear hP5
  go_wp2_with fail
  refine hK.out _ _ ?_ ?_
  · exact ⟨(cell_below hbn mz).trans m0, (cell_below hbn mz).trans m1, (cell_below hbn mz).trans m2⟩
  clear hK hSat K
  (try simp only [Act.put, List.getElem_toArray, List.getElem_cons_zero, List.getElem_cons_succ, List.setIfInBounds_toArray, List.set_cons_zero, List.set_cons_succ])
  (refine NJ.take (i := 7) (v := ?_) rfl rfl (by kernel_rfl) (by kernel_rfl) (by kernel_rfl) (by kernel_rfl) (fun _ _ _ h => h) (Or.inl ⟨by rfl, ?_⟩) ?_; rotate_left; (focus (intro wS hSw; (try dsimp only at hSw); go_simp; first | done | with_reducible rfl)); (try simp only [Act.put, List.getElem_toArray, List.getElem_cons_zero, List.getElem_cons_succ, List.setIfInBounds_toArray, List.set_cons_zero, List.set_cons_succ]))
  clear hbn m0 m1 m2 p0 p1 p2 p3 p4 p5
  (refine NJ.last rfl (by kernel_rfl) (by kernel_rfl) (fun hSat K hK => ?_); go_simp; refine hK.out _ _ ?_; clear hK hSat K; (try simp only [Act.put, List.getElem_toArray, List.getElem_cons_zero, List.getElem_cons_succ, List.setIfInBounds_toArray, List.set_cons_zero, List.set_cons_succ]))
  go_wp2_with fail
  refine bodyPost_ret (v := saidV M A2 c2 (code == 0) ns bu) ?_ rfl ?_
  · simp [results, Tryz.results11, go_sem, q0, q1, q2, q3, q4, q5, mimV, saidV]
  · have hf : M.ps = [] ∨ ∀ g, A2 = some ⟨g, 0, none⟩ → w.heap.size ≠ g := HF.out.imp id (fun h g hg => by have := h g hg; omega)
    refine ⟨A2, c2, rfl, ?_, ?_⟩
    · exact ((((((HA5.out.set3 hf _).set3 hf _).set3 hf _).set3 hf _).set3 hf _).set3 hf _).more (by simp)
    · exact (((((HB5.out.setCell (Nat.le_refl _) _).setCell (Nat.le_refl _) _).setCell (Nat.le_refl _) _).setCell (Nat.le_refl _) _).setCell (Nat.le_refl _) _).setCell (Nat.le_refl _) _

end Go.Proofs.YtcbhkcdphbffpaaGreatDoor

namespace Go.Proofs.YtcbhkcdphbffpaaGreatDoor

def mostN : Nat := 9007199254740991

/-- The number of the digits of a text (whatever else it holds counts as some digit). -/
def valFrom (n : Nat) (l : List UInt8) : Nat := l.foldl (fun n b => 10 * n + (b.toNat - 48)) n
def dec_valL (l : List UInt8) : Nat := valFrom 0 l

theorem valFrom_le (l : List UInt8) : ∀ n, n ≤ valFrom n l := by
  induction l with
  | nil => intro n; exact Nat.le_refl _
  | cons b l ih =>
    intro n
    have := ih (10 * n + (b.toNat - 48))
    unfold valFrom at this ⊢
    rw [List.foldl_cons]
    omega

theorem valL_take_le (l : List UInt8) (k : Nat) : dec_valL (l.take k) ≤ dec_valL l := by
  have h : dec_valL l = valFrom (dec_valL (l.take k)) (l.drop k) := by
    unfold dec_valL valFrom
    rw [← List.foldl_append, List.take_append_drop]
  rw [h]
  exact valFrom_le _ _

theorem valL_at (s : ByteArray) (k : Nat) (hk : k < s.size) : dec_valL (s.data.toList.take (k + 1)) = 10 * dec_valL (s.data.toList.take k) + ((s[k]).toNat - 48) := by
  rw [List.take_succ_eq_append_getElem (by rw [← Lib.size_eq]; exact hk), ← getElem_data s k hk]
  unfold dec_valL valFrom
  rw [List.foldl_append]
  rfl

/-- How many digits a text begins with. -/
def runL (l : List UInt8) : Nat := (l.takeWhile isDigit).length

theorem runL_le (l : List UInt8) : runL l ≤ l.length := (List.takeWhile_sublist _).length_le

theorem runL_leB (s : ByteArray) : runL s.data.toList ≤ s.size := by rw [Lib.size_eq]; exact runL_le _

/-- The first k bytes are digits. -/
def DigTo (s : ByteArray) (k : Nat) : Prop := (s.data.toList.take k).all isDigit = true

theorem digTo_zero (s : ByteArray) : DigTo s 0 := by simp [DigTo]

theorem digTo_step {s : ByteArray} {k : Nat} (h : DigTo s k) (hk : k < s.size) (hd : isDigit s[k] = true) : DigTo s (k + 1) := by
  unfold DigTo at *
  rw [List.take_succ_eq_append_getElem (by rw [← Lib.size_eq]; exact hk), List.all_append, h, ← getElem_data s k hk]
  simp [hd]

theorem runL_split (l : List UInt8) (k : Nat) (h : (l.take k).all isDigit = true) (hk : k ≤ l.length) : runL l = k + runL (l.drop k) := by
  induction k generalizing l with
  | zero => simp
  | succ k ih =>
    cases l with
    | nil => simp at hk
    | cons b l =>
      simp only [List.take_succ_cons, List.all_cons, Bool.and_eq_true] at h
      have := ih l h.2 (by simpa using hk)
      unfold runL at this ⊢
      rw [List.takeWhile_cons_of_pos h.1, List.length_cons, this, List.drop_succ_cons]
      omega

theorem runL_stop {s : ByteArray} {k : Nat} (h : DigTo s k) (hk : k < s.size) (hd : isDigit s[k] = false) : runL s.data.toList = k := by
  have hk' : k < s.data.toList.length := by rw [← Lib.size_eq]; exact hk
  rw [runL_split _ k h (by omega), List.drop_eq_getElem_cons hk', ← getElem_data s k hk]
  unfold runL
  rw [List.takeWhile_cons_of_neg (by simp [hd])]
  rfl

theorem runL_all {s : ByteArray} (h : DigTo s s.size) : runL s.data.toList = s.size := by
  rw [runL_split _ s.size h (by rw [← Lib.size_eq]; omega), drop_endB]
  rfl

theorem all_of_run {l : List UInt8} (h : runL l = l.length) : l.all isDigit = true := by
  induction l with
  | nil => rfl
  | cons b l ih =>
    unfold runL at h ih
    by_cases hb : isDigit b = true
    · rw [List.takeWhile_cons_of_pos hb] at h
      rw [List.all_cons, hb, Bool.true_and]
      exact ih (by simpa using h)
    · rw [List.takeWhile_cons_of_neg hb] at h
      simp at h

theorem run_of_all {l : List UInt8} (h : l.all isDigit = true) : runL l = l.length := by
  have := runL_split l l.length (by rw [List.take_length]; exact h) (Nat.le_refl _)
  rw [List.drop_length] at this
  exact this

theorem digTo_at {s : ByteArray} (h : s.data.toList.all isDigit = true) (k : Nat) (hk : k < s.size) : isDigit s[k] = true := by
  rw [getElem_data s k hk]
  exact List.all_eq_true.1 h _ (List.getElem_mem _)

/-- Which number a text is, and the code. -/
def parseOk (s : ByteArray) : Bool := !s.data.toList.isEmpty && s.data.toList.all isDigit
def parseN (s : ByteArray) : Int := if parseOk s = true ∧ dec_valL s.data.toList ≤ mostN then (dec_valL s.data.toList : Int) else 0
def parseE (s : ByteArray) : Int := if parseOk s = true then (if dec_valL s.data.toList ≤ mostN then 0 else 9) else 2

theorem take_all_digits (l : List UInt8) : (l.take (runL l)).all isDigit = true := by
  induction l with
  | nil => rfl
  | cons b l ih =>
    unfold runL at *
    by_cases hb : isDigit b = true
    · rw [List.takeWhile_cons_of_pos hb, List.length_cons, List.take_succ_cons, List.all_cons, hb, ih]
      rfl
    · rw [List.takeWhile_cons_of_neg hb]
      rfl

/-- A nought ahead of another digit. -/
def strictOff (s : ByteArray) : Bool := decide (1 < s.size) && (s.data.toList.getD 0 0 == 48)
def strictN (s : ByteArray) : Int := if strictOff s then 0 else parseN s
def strictE (s : ByteArray) : Int := if strictOff s then 2 else parseE s

theorem strict_on {s : ByteArray} (h : strictOff s = true) : strictN s = 0 ∧ strictE s = 2 := by simp [strictN, strictE, h]

theorem strict_off {s : ByteArray} (h : strictOff s = false) : strictN s = parseN s ∧ strictE s = parseE s := by simp [strictN, strictE, h]

theorem strictOff_at (s : ByteArray) (h : 1 < s.size) : strictOff s = (((s[0]).toNat : Int) == 48) := by
  have e : s.data.toList.getD 0 0 = s[0] := by
    rw [getElem_data s 0 (by omega)]
    simp [List.getD, List.getElem?_eq_getElem (show 0 < s.data.toList.length by rw [← Lib.size_eq]; omega)]
  unfold strictOff
  rw [e, beq_u8, decide_eq_true h, Bool.true_and, Bool.eq_iff_iff, decide_eq_true_eq, beq_iff_eq]
  exact Iff.rfl

theorem strictOff_short (s : ByteArray) (h : ¬ 1 < s.size) : strictOff s = false := by
  simp [strictOff, h]

/-- Of a text: what stands in its first digits. -/
theorem extract_run (s : ByteArray) : (s.extract 0 (runL s.data.toList)).data.toList = s.data.toList.take (runL s.data.toList) := by
  rw [Lib.extract_data, List.drop_zero, Nat.sub_zero]

theorem extract_digits (s : ByteArray) : (s.extract 0 (runL s.data.toList)).data.toList.all isDigit = true := by
  rw [extract_run]; exact take_all_digits _

theorem parse_empty {s : ByteArray} (h : s.size = 0) : parseN s = 0 ∧ parseE s = 2 ∧ dec_valL s.data.toList = 0 := by
  have : s.data.toList = [] := List.eq_nil_of_length_eq_zero (by rw [← Lib.size_eq]; exact h)
  simp [parseN, parseE, parseOk, this, dec_valL, valFrom]

theorem parse_digits {s : ByteArray} (h0 : 0 < s.size) (hd : s.data.toList.all isDigit = true) :
    parseN s = (if dec_valL s.data.toList ≤ mostN then (dec_valL s.data.toList : Int) else 0) ∧ parseE s = (if dec_valL s.data.toList ≤ mostN then 0 else 9) := by
  have hz : s.data.toList.isEmpty = false := by rw [List.isEmpty_eq_false_iff, ne_eq, ← List.length_eq_zero_iff, ← Lib.size_eq]; omega
  simp [parseN, parseE, parseOk, hz, hd]

theorem parse_bad {s : ByteArray} (hd : ¬ s.data.toList.all isDigit = true) : parseN s = 0 ∧ parseE s = 2 := by
  simp [parseN, parseE, parseOk, hd]

theorem not_all_at {s : ByteArray} {k : Nat} (hk : k < s.size) (hd : isDigit s[k] = false) : ¬ s.data.toList.all isDigit = true := by
  intro h
  rw [digTo_at h k hk] at hd
  exact absurd hd (by simp)

theorem all_of_digTo {s : ByteArray} (h : DigTo s s.size) : s.data.toList.all isDigit = true := by
  unfold DigTo at h
  rwa [take_allB] at h

end Go.Proofs.YtcbhkcdphbffpaaGreatDoor
