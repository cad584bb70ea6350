/-
  Lemmas of this claim, part 13: the texts CombH, CombL, LawCombineParts, LawCombineExtracts, MimeOpen, StrsOpen, one behind the other.
-/
import Derived.Test.YtdkkbibdjagjjaaGreatM12
import Derived.Deep.RegionWith
import Derived.Deep.Slices
import Derived.Lib.SmallJoins

namespace Go.Proofs.YtdkkbibdjagjjaaGreat
open Go.RowKit
set_option linter.unusedSimpArgs false
set_option linter.unusedVariables false

/-- What the reference's extract gives: no word of where its parameters stand but that they stand. -/
def GivesExtR (r : MimeL × Int) (w : World) (e : Ending) (w' : World) : Prop :=
  ∃ A c, e = .returned (.tuple #[mimV r.1 A c, .int .i64 r.2]) ∧ ParsAt w' w'.heap.size A r.1.ps ∧ Below w.heap.size w w' ∧ (r.1.ps = [] ∨ ∀ g, A = some ⟨g, 0, none⟩ → w.heap.size ≤ g)

/-- How the loop stands. -/
def ExtW (w W : World) (Q : Nat) (r : MimeL × List UInt8) (wr : World) : Prop :=
  ∃ (A3 : Option Addr) (c3 : Nat), wr.heap[w.heap.size]? = some (mimO noM none 0) ∧ wr.heap[Q]? = some (mimO r.1 A3 c3) ∧ ParsAt wr wr.heap.size A3 r.1.ps ∧ (r.1.ps = [] ∨ ∀ g, A3 = some ⟨g, 0, none⟩ → w.heap.size + 1 ≤ g ∧ g ≠ Q) ∧ Below w.heap.size w wr ∧ Q + 1 ≤ wr.heap.size ∧ ∀ b, w.heap.size + 1 ≤ b → b < Q → wr.heap[b]? = W.heap[b]?

theorem hb2_fix {wr w2 : World} (h : Below wr.drew.heap.size wr.drew w2) : Below wr.heap.size wr w2 := (Below.refl _ _).drew.trans h

theorem ExtW.drew {w W wr : World} {Q : Nat} {r : MimeL × List UInt8} (h : ExtW w W Q r wr) : ExtW w W Q r wr.drew := by
  obtain ⟨A3, c3, h1, h2, h3, h4, h5, h6, h7⟩ := h
  exact ⟨A3, c3, h1, h2, h3, h4, h5.drew, h6, h7⟩

theorem ExtW.put {w W w2 : World} {Q : Nat} {n m x : MimeL} {set : List UInt8} {A3 A4 A2 : Option Addr} {c3 c4 : Nat} {wr : World} (hP : wr.heap[w.heap.size]? = some (mimO noM none 0)) (hM : w2.heap[Q]? = some (mimO m A3 c3)) (hA : ParsAt w2 w2.heap.size A4 n.ps) (hB : Below w.heap.size w wr) (hb2 : Below wr.heap.size wr w2) (hz : Q + 1 ≤ wr.heap.size) (hWz : w.heap.size + 1 ≤ Q)
    (hs : ∀ b, w.heap.size + 1 ≤ b → b < Q → wr.heap[b]? = W.heap[b]?) (hX : ParsAt W Q A2 x.ps) (hX2 : ∀ g2, A2 = some ⟨g2, 0, none⟩ → w.heap.size + 1 ≤ g2) (hf : (A4 = A2 ∧ n = x) ∨ ∀ g, A4 = some ⟨g, 0, none⟩ → wr.heap.size ≤ g) :
    ExtW w W Q (n, set) (((w2.setCell ⟨Q, 0, none⟩ (.string (bt n.t))).setCell ⟨Q, 1, none⟩ (.string (bt n.s))).setCell ⟨Q, 2, none⟩ (.slice A4 n.ps.length c4)) := by
  have hne : ∀ b, b ≠ Q → (((w2.setCell ⟨Q, 0, none⟩ (.string (bt n.t))).setCell ⟨Q, 1, none⟩ (.string (bt n.s))).setCell ⟨Q, 2, none⟩ (.slice A4 n.ps.length c4)).heap[b]? = w2.heap[b]? := fun b hb => by
    rw [Below.heap_setCell _ _ _ _ hb, Below.heap_setCell _ _ _ _ hb, Below.heap_setCell _ _ _ _ hb]
  have hfar : n.ps = [] ∨ ∀ g, A4 = some ⟨g, 0, none⟩ → w.heap.size + 1 ≤ g ∧ g ≠ Q := by
    rcases hf with ⟨rfl, rfl⟩ | hf
    · by_cases h : n.ps = []
      · exact .inl h
      · refine .inr fun g hg => ?_
        have h1 := hX2 g hg
        have h2 := hX.lt_of h hg
        omega
    · exact .inr fun g hg => by have := hf g hg; omega
  have hfar2 : n.ps = [] ∨ ∀ g, A4 = some ⟨g, 0, none⟩ → Q ≠ g := by
    rcases hfar with h | h
    · exact .inl h
    · exact .inr fun g hg e => (h g hg).2 e.symm
  refine ⟨A4, c4, ?_, mim_set3 hM, (((hA.set3 hfar2 _).set3 hfar2 _).set3 hfar2 _).more (by simp), hfar, ?_, ?_, ?_⟩
  · rw [hne _ (by omega)]
    exact (hb2.block _ (by omega)).trans hP
  · exact (((hB.trans (hb2.mono hB.size)).setCell (show w.heap.size ≤ Q by omega) _).setCell (show w.heap.size ≤ Q by omega) _).setCell (show w.heap.size ≤ Q by omega) _
  · have := hb2.size
    simp
    omega
  · intro b h1 h2
    rw [hne _ (by omega)]
    exact (hb2.block _ (by omega)).trans (hs b h1 h2)

set_option maxHeartbeats 4000000 in
set_option maxRecDepth 20000 in
theorem rExtract_any (l : List ByteArray) (A : Option Addr) (c : Nat) (w : World) (hA : StrsIn w A l) (hl : l.length ≤ 90) (hs : ∀ s ∈ l, s.size ≤ 1000) (hN : (joinL l).length ≤ 999) :
    Calls Tryz.prog 17 #[.slice A l.length c] w fun e w' => GivesExtR (extractL l) w e w' := by
  have HAL := Lib.hid (fun (w1 : World) (hb : Below w.heap.size w w1) => rAll_any l A c w1 (hA.below hb) hl hs hN)
  obtain ⟨hfit, hlen⟩ := all_fit l hN
  have HX0 := Lib.hid (@extractL_none l)
  have HX1 := Lib.hid (@extractL_some l)
  generalize extractL l = X at *
  generalize allL l = ms at *
  have HFIT := Lib.hid hfit
  clear hA hl hs hN hfit
  have hP : (w.alloc (.cells #[.string ⟨#[]⟩, .string ⟨#[]⟩, .slice none 0 0] 35)).heap[w.heap.size]? = some (mimO noM none 0) := heap_alloc_new w _
  have hb : Below w.heap.size w (w.alloc (.cells #[.string ⟨#[]⟩, .string ⟨#[]⟩, .slice none 0 0] 35)) := below_box _ _
  have hz0 : (w.alloc (.cells #[.string ⟨#[]⟩, .string ⟨#[]⟩, .slice none 0 0] 35)).heap.size = w.heap.size + 1 := by simp
  go_enter Tryz.func17, Tryz.ntmps17
  go_upto_region 1 with fail
  generalize w.alloc (.cells #[.string ⟨#[]⟩, .string ⟨#[]⟩, .slice none 0 0] 35) = W0 at *
  go_wp2_with fail
  refine (HAL.out _ hb).mono ?_
  rintro e W ⟨A1, c1, rfl, hA1, hbn⟩
  rw [hz0] at hA1
  have hP := (hbn.block _ (Array.getElem?_eq_some_iff.1 hP).1).trans hP
  have hb := hb.trans (hbn.mono hb.size)
  have hWz : w.heap.size + 1 ≤ W.heap.size := by have := hbn.size; omega
  have hP1 : (W.alloc (.cells #[.string ⟨#[]⟩, .string ⟨#[]⟩, .slice none 0 0] 35)).heap[w.heap.size]? = _ := (Below.heap_alloc _ _ _ (Array.getElem?_eq_some_iff.1 hP).1).trans hP
  have hM1 : (W.alloc (.cells #[.string ⟨#[]⟩, .string ⟨#[]⟩, .slice none 0 0] 35)).heap[W.heap.size]? = some (mimO noM none 0) := heap_alloc_new W _
  have HBW := Lib.hid (hb.alloc hb.size (.cells #[.string ⟨#[]⟩, .string ⟨#[]⟩, .slice none 0 0] 35))
  have HA1 := Lib.hid hA1
  have HP := Lib.hid hP1
  have HM := Lib.hid hM1
  have HSM : Hid (∀ b, w.heap.size + 1 ≤ b → b < W.heap.size → (W.alloc (.cells #[.string ⟨#[]⟩, .string ⟨#[]⟩, .slice none 0 0] 35)).heap[b]? = W.heap[b]?) := Lib.hid (fun b _ h => Below.heap_alloc W _ b h)
  have HWX : Hid (W.heap.size + 1 ≤ (W.alloc (.cells #[.string ⟨#[]⟩, .string ⟨#[]⟩, .slice none 0 0] 35)).heap.size) := Lib.hid (by simp)
  clear hA1 hbn hP hP1 hM1 hb HAL
  go_upto_region 2 with fail
  obtain ⟨Q, hQ⟩ : ∃ Q, W.heap.size = Q := ⟨_, rfl⟩
  rw [hQ] at HM HWX HSM HA1 hWz ⊢
  generalize W.alloc (.cells #[.string ⟨#[]⟩, .string ⟨#[]⟩, .slice none 0 0] 35) = W1 at *
  clear hQ hz0
  go_wp2_with fail
  go_loopw [5, 7] (fun s i wr => ∃ k : Nat, k ≤ ms.length ∧ i = .int .i64 k ∧ s = .string (bt (extractS (ms.take k)).2) ∧ ExtW w W Q (extractS (ms.take k)) wr) (fun _ i _ => ms.length - (intOf i).toNat)
  case atStart => exact ⟨0, Nat.zero_le _, rfl, rfl, none, 0, HP.out, HM.out, .inl rfl, .inl rfl, HBW.out, HWX.out, HSM.out⟩
  case round =>
    obtain ⟨k, hk, rfl, rfl, A3, c3, hP, hM, hA3, hf3, hb, hzz, hsame⟩ := hrel
    have HB := Lib.hid hb
    have HSAME := Lib.hid hsame
    have HA3 := Lib.hid hA3
    have HF3 := Lib.hid hf3
    obtain ⟨hsz, hss⟩ := extractS_fit ms HFIT.out k hk
    by_cases hlt : k < ms.length
    · have hfx := HFIT.out ms[k] (List.getElem_mem _)
      have HSN := Lib.hid (extractS_snoc ms k hlt)
      rcases HA1.out.same hsame with hnil | ⟨g, rfl, hL, hgB, hcs⟩
      · rw [hnil] at hlt; simp at hlt
      obtain ⟨A2, c2, h0, h1, h2, h3, h4⟩ := hcs k hlt
      have HX2 := Lib.hid (h3.same (w' := W) (fun b hb1 hb2 => (hsame b hb1 hb2).symm) h4)
      have HX3 := Lib.hid h3
      have HX4 := Lib.hid h4
      generalize ms[k] = x at *
      generalize (extractS (ms.take k)).1 = m at *
      generalize (extractS (ms.take k)).2 = set at *
      have HST := Lib.hid (fun (w1 : World) (hb : Below wr.heap.size wr w1) => rStep_any m x A3 A2 c3 c2 set w1 hsz hfx.sizes (Nat.le_trans hfx.n (by omega)) (Nat.le_trans hss (by omega)) (HA3.out.on hb) ((HX3.out.more (by omega)).on hb))
      obtain ⟨m0, m1, m2, mz, mlt⟩ := mim_cells hM
      have HPP := Lib.hid hP
      have HMM := Lib.hid hM
      clear hcs hA3 hf3 hsame h3 h4 hb hP hM
      unfold mimV at HST
      obtain ⟨S, hS⟩ : ∃ S, bt set = S := ⟨_, rfl⟩
      rw [hS] at HST ⊢
      go_upto_region 5 with fail
      go_region_with (go_at_call 35; (refine Calls.mono (HST.out _ ?_) ?_); (focus (first | exact Below.refl _ _ | exact (Below.refl _ _).drew)); rintro e w2 ⟨A4, c4, rfl, hA4, hb2, hf4⟩; unfold mimV; have HA4 := Lib.hid hA4; have HF4 := Lib.hid hf4; have HB2 : Hid (Below wr.heap.size wr w2) := Lib.hid (hb2_fix hb2); have hM2 := (HB2.out.block _ mlt).trans HMM.out; have HM2 := Lib.hid hM2; obtain ⟨d0, d1, d2, dz, dlt⟩ := mim_cells hM2; clear hA4 hf4 hb2 hM2)
      all_goals clear m0 m1 m2 mz mlt h0 h1 h2
      all_goals go_wp2_with fail
      all_goals go_roundw
      all_goals first
        | exact ⟨k + 1, by omega, by go_num, by rw [HSN.out], by rw [HSN.out]; exact ExtW.put HPP.out HM2.out HA4.out HB.out HB2.out hzz hWz HSAME.out HX2.out HX4.out HF4.out⟩
        | exact ⟨k + 1, by omega, by go_num, by rw [HSN.out], by rw [HSN.out]; exact (ExtW.put HPP.out HM2.out HA4.out HB.out HB2.out hzz hWz HSAME.out HX2.out HX4.out HF4.out).drew⟩
        | (simp [intOf]; omega)
    · obtain rfl : k = ms.length := by omega
      rw [List.take_length] at hM hA3 HA3 HF3
      by_cases h0 : ms.length = 0
      · have HV := Lib.hid (HX0.out h0)
        have h0i : ((ms.length : Int) == 0) = true := by rw [h0]; rfl
        obtain ⟨r0, r1, r2, rz, rlt⟩ := mim_cells hP
        clear hP hM hA3 hf3 hsame hb
        go_wp2_with fail
        refine bodyPost_ret (v := .tuple #[mimV noM none 0, .int .i64 4]) ?_ rfl ?_
        · simp [results, Tryz.results17, go_sem, r0, r1, r2, mimV, noM, bt]
        · refine ⟨none, 0, by rw [HV.out], by rw [HV.out]; exact .inl rfl, ?_, .inl (by rw [HV.out]; rfl)⟩
          exact ((HB.out.setCell (show w.heap.size ≤ w.heap.size by omega) _).setCell (show w.heap.size ≤ w.heap.size by omega) _).setCell (show w.heap.size ≤ w.heap.size by omega) _
      · have HV := Lib.hid (HX1.out h0)
        have h0i : ((ms.length : Int) == 0) = false := beq_eq_false_iff_ne.2 (by omega)
        generalize (extractS ms).1 = m at *
        obtain ⟨r0, r1, r2, rz, rlt⟩ := mim_cells hP
        obtain ⟨m0, m1, m2, mz, mlt⟩ := mim_cells hM
        clear hP hM hA3 hf3 hsame hb
        go_wp2_with fail
        refine bodyPost_ret (v := .tuple #[mimV m A3 c3, .int .i64 0]) ?_ rfl ?_
        · simp [results, Tryz.results17, go_sem, r0, r1, r2, mimV]
        · have hfar : m.ps = [] ∨ ∀ g, A3 = some ⟨g, 0, none⟩ → w.heap.size ≠ g := by
            rcases HF3.out with h | h
            · exact .inl h
            · exact .inr fun g hg => by have := (h g hg).1; omega
          refine ⟨A3, c3, by rw [HV.out], ?_, ?_, ?_⟩
          · rw [HV.out]
            exact (((HA3.out.set3 hfar _).set3 hfar _).set3 hfar _).more (by simp)
          · exact ((HB.out.setCell (show w.heap.size ≤ w.heap.size by omega) _).setCell (show w.heap.size ≤ w.heap.size by omega) _).setCell (show w.heap.size ≤ w.heap.size by omega) _
          · rw [HV.out]
            rcases HF3.out with h | h
            · exact .inl h
            · exact .inr fun g hg => by have := (h g hg).1; omega

end Go.Proofs.YtdkkbibdjagjjaaGreat

namespace Go.Proofs.YtdkkbibdjagjjaaGreat
open Go.RowKit
set_option linter.unusedSimpArgs false
set_option linter.unusedVariables false

/-- The pieces, by steps that are counted. -/
def splitF : Nat → List UInt8 → List UInt8 → List ByteArray
  | 0, T, _ => [pieceB ⟨T.toArray⟩]
  | _ + 1, T, [] => [pieceB ⟨T.toArray⟩]
  | n + 1, T, b :: r => if b = 34 then splitF n (T ++ 34 :: r.take (readL r).2) (r.drop (readL r).2) else if b = 44 then pieceB ⟨T.toArray⟩ :: splitF n [] r else splitF n (T ++ [b]) r

theorem splitF_eq : ∀ (n : Nat) (T l : List UInt8), l.length ≤ n → splitF n T l = splitL T l
  | 0, T, l, h => by
    obtain rfl : l = [] := List.eq_nil_of_length_eq_zero (by omega)
    rw [splitL_end]
    rfl
  | n + 1, T, [], _ => by rw [splitL_end]; rfl
  | n + 1, T, b :: r, h => by
    rw [List.length_cons] at h
    rw [splitF]
    by_cases h34 : b = 34
    · subst h34
      rw [if_pos rfl, splitL_quote, splitF_eq n _ _ (by rw [List.length_drop]; omega)]
    · by_cases h44 : b = 44
      · subst h44
        rw [if_neg h34, if_pos rfl, splitL_comma, splitF_eq n _ _ (by omega)]
      · rw [if_neg h34, if_neg h44, splitL_other _ _ _ h34 h44, splitF_eq n _ _ (by omega)]

def parsF : Nat → Pars → List UInt8 → Pars
  | 0, ps, _ => ps
  | _ + 1, ps, [] => ps
  | n + 1, ps, b :: r => if b = 59 then parsF n (addP ps (parmStep r)) (parmStep r).2.2.2 else ps

theorem parsF_eq : ∀ (n : Nat) (ps : Pars) (l : List UInt8), l.length ≤ n → parsF n ps l = parsL ps l
  | 0, ps, l, h => by
    obtain rfl : l = [] := List.eq_nil_of_length_eq_zero (by omega)
    rw [parsL_nil]
    rfl
  | n + 1, ps, [], _ => by rw [parsL_nil]; rfl
  | n + 1, ps, b :: r, h => by
    rw [List.length_cons] at h
    rw [parsF]
    by_cases hb : b = 59
    · subst hb
      have := parmStep_len r
      rw [if_pos rfl, parsL_semi, parsF_eq n _ _ (by omega)]
    · rw [if_neg hb, parsL_other _ _ _ hb]

/-- A text's type, by steps that are counted. -/
def parseF (l0 : List UInt8) : MimeL × Nat :=
  if (trimL isWhite l0).dropWhile nslash = [] ∨ tokL ((trimL isWhite l0).takeWhile nslash) = false ∨ tokL (trimEnd isWhite (((trimL isWhite l0).dropWhile nslash).tail.takeWhile nsemi)) = false then (noM, 2)
  else (⟨lowerL ((trimL isWhite l0).takeWhile nslash), lowerL (trimEnd isWhite (((trimL isWhite l0).dropWhile nslash).tail.takeWhile nsemi)), parsF l0.length [] (((trimL isWhite l0).dropWhile nslash).tail.dropWhile nsemi)⟩, 0)

theorem parseF_eq (l : List UInt8) : parseR l = parseF l := by
  unfold parseR parseL parseF
  simp only
  split
  · rename_i m h
    split at h
    · cases h
    · rename_i hn
      injection h with h
      rw [if_neg hn, parsF_eq]
      · rw [← h]
      · have h0 := trimL_len isWhite l
        have h2 := dropWhile_len nslash (trimL isWhite l)
        have h3 := dropWhile_len nsemi ((trimL isWhite l).dropWhile nslash).tail
        rw [List.length_tail] at h3
        omega
  · rename_i h
    split at h
    · rename_i hn
      rw [if_pos hn]
    · cases h

def addF (s : ByteArray) : List MimeL := if (parseF s.data.toList).2 = 0 ∧ everyM (parseF s.data.toList).1 = false then [(parseF s.data.toList).1] else []

def allF (l : List ByteArray) : List MimeL := if l = [] then [] else (splitF (joinL l).length [] (joinL l)).flatMap addF

theorem allF_eq (l : List ByteArray) : allL l = allF l := by
  unfold allL allF valuesL
  have hf : addM = addF := by
    funext s
    unfold addM addF
    rw [parseF_eq]
  rw [hf]
  split
  · rfl
  · rw [splitF_eq _ _ _ (Nat.le_refl _)]
    rfl

def lineC : ByteArray := ⟨#[116, 101, 120, 116, 47, 104, 116, 109, 108, 59, 99, 104, 97, 114, 115, 101, 116, 61, 97, 44, 32, 116, 101, 120, 116, 47, 104, 116, 109, 108]⟩
def livC : MimeL := ⟨[116, 101, 120, 116], [104, 116, 109, 108], [(charL, [97])]⟩

theorem all_lives : allL [lineC] = [livC, ⟨[116, 101, 120, 116], [104, 116, 109, 108], []⟩] := by
  rw [allF_eq]
  kernel_rfl

theorem ext_lives : extractL [lineC] = (livC, 0) := by
  unfold extractL
  rw [all_lives, if_neg (by simp)]
  kernel_rfl

set_option maxHeartbeats 1000000 in
theorem lives11_any (w : World) : Calls Tryz.prog 15 #[] w fun e w' => e = .returned (.bool true) ∧ Below w.heap.size w w' := by
  have hA : StrsIn (w.alloc (.cells #[.string lineC] 9)) (some ⟨w.heap.size, 0, none⟩) [lineC] := .inr ⟨w.heap.size, 0, rfl, by simp, fun i hi => by
    have : i = 0 := by simp at hi; exact hi
    subst this
    simp [go_sem]⟩
  have HEX := Lib.hid (Extract_any [lineC] (some ⟨w.heap.size, 0, none⟩) 1 _ hA (by decide) (by decide) (by intro s hs; simp at hs; subst hs; decide) (by decide +kernel))
  rw [ext_lives] at HEX
  have hb0 := below_box w (.cells #[.string lineC] 9)
  clear hA
  unfold lineC at *
  go_enter Tryz.func15, Tryz.ntmps15
  go_wp2_with fail
  refine HEX.out.mono ?_
  rintro e w1 ⟨A, c, rfl, hA1, hb1, hf⟩
  rcases hA1 with h | ⟨g, rfl, hg, hcs⟩
  · cases h
  obtain ⟨a0, a1⟩ := hcs 0 (by decide)
  have hv : (livC.ps[0]'(by decide)).2 = [97] := rfl
  rw [hv] at a1
  have a1 : w1.cell? ⟨g, 1, none⟩ = some (.string ⟨#[97]⟩) := a1
  have HB := Lib.hid (hb0.trans (hb1.mono hb0.size))
  have hX : (w1.alloc (.cells #[.string (bt livC.t), .string (bt livC.s), .slice (some ⟨g, 0, none⟩) 1 c] 35)).heap[w1.heap.size]? = some (mimO livC (some ⟨g, 0, none⟩) c) := heap_alloc_new w1 _
  have HBX := Lib.hid (HB.out.alloc HB.out.size (.cells #[.string (bt livC.t), .string (bt livC.s), .slice (some ⟨g, 0, none⟩) 1 c] 35))
  have b1 := (cell_below (below_box w1 (.cells #[.string (bt livC.t), .string (bt livC.s), .slice (some ⟨g, 0, none⟩) 1 c] 35)) hg).trans a1
  clear hcs a0 a1 hb1 hf hb0 hv HEX
  unfold mimV
  have hl : livC.ps.length = 1 := rfl
  simp only [hl]
  go_upto_region 2 with fail
  generalize w1.alloc (.cells #[.string (bt livC.t), .string (bt livC.s), .slice (some ⟨g, 0, none⟩) 1 c] 35) = W at *
  generalize w1.heap.size = q at *
  obtain ⟨x0, x1, x2, xz, xlt⟩ := mim_cells hX
  simp only [hl] at x2
  clear hX
  go_wp2_with fail
  go_ret
  exact ⟨rfl, HBX.out⟩

end Go.Proofs.YtdkkbibdjagjjaaGreat

namespace Go.Proofs.YtdkkbibdjagjjaaGreat
open Go.RowKit
set_option linter.unusedSimpArgs false
set_option linter.unusedVariables false

theorem few_room (l : List ByteArray) : (∀ s ∈ fewS 6 l, s.size ≤ 1000) ∧ (fewS 6 l).length ≤ 90 ∧ (joinL (fewS 6 l)).length ≤ 999 := by
  obtain ⟨h1, h2⟩ := fewS_sizes 6 l
  refine ⟨fun s hs => Nat.le_trans (h2 s hs) (by omega), by omega, ?_⟩
  have h3 := join_len (fewS 6 l) 120 h2
  have h4 := Nat.mul_le_mul_right (120 + 2) h1
  omega

set_option maxHeartbeats 4000000 in
set_option maxRecDepth 20000 in
theorem combineParts_walk (l : List ByteArray) (A : Option Addr) (c : Nat) (w : World) (hlm : l.length ≤ maxLen) (hps : ∀ s ∈ l, s.size ≤ maxLen) (hA : StrsIn w A l) :
    Calls Tryz.prog 3 #[.slice A l.length c] w fun e w' => e = .returned (.bool true) ∧ Below w.heap.size w w' := by
  have HFW := Lib.hid (Few11_any l 6 A c w (by decide) hlm hps hA)
  obtain ⟨hr1, hr2, hr3⟩ := few_room l
  generalize fewS 6 l = L at *
  have HC1 := Lib.hid (fun (A1 : Option Addr) (c1 : Nat) (w1 : World) (h1 : StrsIn w1 A1 L) (h2 : L.length ≤ c1) => CAll_any L A1 c1 w1 h1 h2 hr2 hr1 hr3)
  have HC2 := Lib.hid (fun (A1 : Option Addr) (c1 : Nat) (w1 : World) (h1 : StrsIn w1 A1 L) => rAll_any L A1 c1 w1 h1 hr2 hr1 hr3)
  have HC3 := Lib.hid (fun (A1 : Option Addr) (c1 : Nat) (w1 : World) (h1 : StrsIn w1 A1 L) (h2 : L.length ≤ c1) => CJoin_any L A1 c1 w1 h1 h2 (by omega) hr1)
  have HC4 := Lib.hid (fun (A1 : Option Addr) (c1 : Nat) (w1 : World) (h1 : StrsIn w1 A1 L) => rJoin11_any L A1 c1 w1 h1 (by omega) hr1)
  have HC5 := Lib.hid (fun (A1 : Option Addr) (c1 : Nat) (w1 : World) (h1 : StrsIn w1 A1 L) (h2 : L.length ≤ c1) => Values_any L A1 c1 w1 h1 h2 hr2 hr1)
  have HC6 := Lib.hid (fun (A1 : Option Addr) (c1 : Nat) (w1 : World) (h1 : StrsIn w1 A1 L) => rValues_any L A1 c1 w1 h1 hr2 hr1)
  obtain ⟨hf1, hf2⟩ := all_fit L hr3
  have hv2 := (values_sizes L 999 hr3).2
  have HSS := Lib.hid (fun (A1 A2 : Option Addr) (c1 c2 : Nat) (w1 : World) (h1 : StrsIn w1 A1 (valuesL L)) (h2 : StrsIn w1 A2 (valuesL L)) => rSame_strs (valuesL L) A1 A2 c1 c2 w1 (by unfold maxLen; omega) h1 h2)
  have HF := Lib.hid hf1
  generalize allL L = ms at *
  generalize valuesL L = vs at *
  generalize bt (joinL L) = J at *
  clear hlm hps hA hr1 hr2 hr3 hf1
  go_enter Tryz.func3, Tryz.ntmps3
  go_wp2_with fail
  refine HFW.out.mono ?_
  rintro e w1 ⟨A1, c1, rfl, hA1, hc1, hb1⟩
  go_wp2_with fail
  refine (HC1.out A1 c1 w1 hA1 hc1).mono ?_
  rintro e w2 ⟨A2, c2, rfl, hA2, hb2⟩
  have hA1 := hA1.below hb2
  have hb := hb1.trans (hb2.mono hb1.size)
  clear hb1 hb2
  go_wp2_with fail
  refine (HC2.out A1 c1 w2 hA1).mono ?_
  rintro e w3 ⟨A3, c3, rfl, hA3, hb3⟩
  have hA1 := hA1.below hb3
  have hA2 := hA2.on hb3
  have hb := hb.trans (hb3.mono hb.size)
  clear hb3
  go_wp2_with fail
  refine (HC3.out A1 c1 w3 hA1 hc1).mono ?_
  rintro e w4 ⟨rfl, hb4⟩
  have hA1 := hA1.below hb4
  have hA2 := hA2.on hb4
  have hA3 := hA3.on hb4
  have hb := hb.trans (hb4.mono hb.size)
  clear hb4
  go_wp2_with fail
  refine (HC4.out A1 c1 w4 hA1).mono ?_
  rintro e w5 ⟨rfl, rfl⟩
  go_wp2_with fail
  refine (HC5.out A1 c1 w4 hA1 hc1).mono ?_
  rintro e w5 ⟨A5, c5, rfl, hA5, hb5⟩
  have hA1 := hA1.below hb5
  have hA2 := hA2.on hb5
  have hA3 := hA3.on hb5
  have hb := hb.trans (hb5.mono hb.size)
  clear hb5
  go_wp2_with fail
  refine (HC6.out A1 c1 w5 hA1).mono ?_
  rintro e w6 ⟨A6, c6, rfl, hA6, hb6, _⟩
  have hA5 := hA5.below hb6
  have hA2 := hA2.on hb6
  have hA3 := hA3.on hb6
  have hb := hb.trans (hb6.mono hb.size)
  clear hb6
  go_wp2_with fail
  refine (HSS.out A5 A6 c5 c6 w6 hA5 hA6).mono ?_
  rintro e w7 ⟨rfl, hb7⟩
  have H2 := Lib.hid (hA2.on hb7)
  have H3 := Lib.hid (hA3.on hb7)
  have HB := Lib.hid (hb.trans (hb7.mono hb.size))
  clear hb7 hb hA1 hA2 hA3 hA5 hA6 HSS HC1 HC2 HC3 HC4 HC5 HC6 HFW
  go_wp2_with fail
  go_loopw [5] (fun i wr => ∃ k : Nat, k ≤ ms.length ∧ i = .int .i64 k ∧ Below w7.heap.size w7 wr) (fun i _ => ms.length - (intOf i).toNat)
  case atStart => exact ⟨0, Nat.zero_le _, rfl, Below.refl _ _⟩
  case round =>
    obtain ⟨k, hk, rfl, hb⟩ := hrel
    have HBR := Lib.hid hb
    by_cases hlt : k < ms.length
    · rcases H2.out.on hb with hnil | ⟨g, rfl, _, hg, hcs⟩
      · rw [hnil] at hlt; simp at hlt
      rcases H3.out.on hb with hnil | ⟨g2, rfl, _, hg2, hcs2⟩
      · rw [hnil] at hlt; simp at hlt
      obtain ⟨P1, d1, x0, x1, x2, xp, _⟩ := hcs k hlt
      obtain ⟨P2, d2, y0, y1, y2, yp, _⟩ := hcs2 k hlt
      have hsz := (HF.out ms[k] (List.getElem_mem _)).sizes
      have HSM := Lib.hid (fun (z : InB wr) => rSame_par ms[k] ms[k] P1 P2 d1 d2 z.val hsz hsz (xp.on z.property) (yp.on z.property))
      rw [sameM_self] at HSM
      unfold mimV at HSM
      have hz := hb.size
      have i0 : (0 : Int) ≤ (k : Int) := by omega
      have i1 : (k : Int) < (ms.length : Int) := by omega
      generalize ms[k] = m at *
      clear hcs hcs2 hb xp yp hsz
      go_upto_region 8 with fail
      have hx := @InB.cells wr
      refine wp_region_inb (by kernel_rfl) (by kernel_rfl) ?_; (repeat (first | go_big_quiet_skip | (go_big_quiet_want; go_big_quiet_op; first | go_big_quiet_on | (apply Exists.intro; refine ⟨fun x => ?_, ?_⟩; (· ((go_at_call 14; with_reducible exact inb_call _ (HSM.out _)))); go_big_quiet_on)))); refine wpQuiet_nil ?_; intro _ hw'; obtain ⟨⟨wq, hbq⟩, rfl⟩ := hw'
      have HBQ := Lib.hid (HBR.out.trans (hbq.mono hz))
      clear hbq hx x0 x1 x2 y0 y1 y2
      go_wp2_with fail
      go_roundw
      case rel => exact ⟨k + 1, by omega, by go_num, HBQ.out⟩
      case measure => simp [intOf]; omega
    · obtain rfl : k = ms.length := by omega
      have HBT := Lib.hid (HB.out.trans (HBR.out.mono HB.out.size))
      clear hb
      go_wp2_with fail
      refine (lives11_any _).mono ?_
      rintro e w9 ⟨rfl, hb9⟩
      have HBZ := Lib.hid (HBT.out.trans (hb9.mono HBT.out.size))
      clear hb9
      go_wp2_with fail
      go_ret
      exact ⟨rfl, HBZ.out⟩

end Go.Proofs.YtdkkbibdjagjjaaGreat

namespace Go.Proofs.YtdkkbibdjagjjaaGreat
open Go.RowKit
set_option linter.unusedSimpArgs false
set_option linter.unusedVariables false

set_option maxHeartbeats 8000000 in
set_option maxRecDepth 20000 in
theorem combineExtracts_walk (l : List ByteArray) (A : Option Addr) (c : Nat) (w : World) (hlm : l.length ≤ maxLen) (hps : ∀ s ∈ l, s.size ≤ maxLen) (hA : StrsIn w A l) :
    Calls Tryz.prog 4 #[.slice A l.length c] w fun e w' => e = .returned (.bool true) ∧ Below w.heap.size w w' := by
  have HFW := Lib.hid (Few11_any l 6 A c w (by decide) hlm hps hA)
  obtain ⟨hr1, hr2, hr3⟩ := few_room l
  generalize fewS 6 l = L at *
  have HC1 := Lib.hid (fun (A1 : Option Addr) (c1 : Nat) (w1 : World) (h1 : StrsIn w1 A1 L) (h2 : L.length ≤ c1) => Extract_any L A1 c1 w1 h1 h2 hr2 hr1 hr3)
  have HC2 := Lib.hid (fun (A1 : Option Addr) (c1 : Nat) (w1 : World) (h1 : StrsIn w1 A1 L) => rExtract_any L A1 c1 w1 h1 hr2 hr1 hr3)
  have HC3 := Lib.hid (fun (A1 : Option Addr) (c1 : Nat) (w1 : World) (h1 : StrsIn w1 A1 L) (h2 : L.length ≤ c1) => Charset_any L A1 c1 w1 h1 h2 hr2 hr1 hr3)
  have HC4 := Lib.hid (fun (A1 : Option Addr) (c1 : Nat) (w1 : World) (h1 : StrsIn w1 A1 L) => rAll_any L A1 c1 w1 h1 hr2 hr1 hr3)
  have hsz := extractL_sizes L hr3
  have hX0 := @extractL_none L
  have hX1 := @extractL_some L
  have hXg := extractS_good (allL L) (fun m hm => all_good L hm)
  have hlen := (all_fit L hr3).2
  generalize extractL L = X at *
  generalize allL L = ms at *
  have HSAME := Lib.hid (fun (A1 A2 : Option Addr) (c1 c2 : Nat) (w1 : World) (h1 : ParsAt w1 w1.heap.size A1 X.1.ps) (h2 : ParsAt w1 w1.heap.size A2 X.1.ps) => rSame_par X.1 X.1 A1 A2 c1 c2 w1 hsz hsz h1 h2)
  have HAT : Hid (∀ (A2 : Option Addr) (c2 : Nat) (w1 : World) (h2 : ParsAt w1 w1.heap.size A2 X.1.ps), Calls Tryz.prog 19 #[mimV X.1 A2 c2, .string ⟨#[99, 104, 97, 114, 115, 101, 116]⟩] w1 fun e w' => e = .returned (.int .i64 (atL X.1.ps charL)) ∧ Below w1.heap.size w1 w') := Lib.hid (fun A2 c2 w1 h2 => rAt_par X.1 A2 c2 ⟨#[99, 104, 97, 114, 115, 101, 116]⟩ w1 hsz h2)
  have hge1 := atL_ge X.1.ps charL
  have HSZ := Lib.hid hsz
  clear hlm hps hA hr1 hr2 hr3 hsz
  obtain ⟨M, code⟩ := X
  simp only [sameM_self] at HSAME HAT HC1 HC2 HC3 HSZ hX0 hX1 hge1
  by_cases hms : ms = []
  · have hX := hX0 (by rw [hms]; rfl)
    injection hX with e1 e2
    subst e1 e2
    have h0i : ((ms.length : Int) == 0) = true := by rw [hms]; rfl
    have hat : ¬ 0 ≤ atL noM.ps charL := by decide
    have hat2 : atL noM.ps charL < 0 := by omega
    have hd : decide (0 ≤ atL noM.ps charL) = false := decide_eq_false hat
    rw [hd, setOf_none hat, show bt [] = (⟨#[]⟩ : ByteArray) from rfl] at HC3
    clear hX0 hX1 hXg hd
    generalize hM0 : noM = M at *
    unfold mimV at HSAME HAT
    go_enter Tryz.func4, Tryz.ntmps4
    go_wp2_with fail
    refine HFW.out.mono ?_
    rintro e w1 ⟨A1, c1, rfl, hA1, hc1, hb⟩
    go_upto_region 2 with fail
    go_wp2_with fail
    refine (HC1.out A1 c1 w1 hA1 hc1).mono ?_
    rintro e w2 ⟨Am, cm, rfl, hAm, hbn, _⟩
    unfold mimV
    have hA1 := hA1.below hbn
    have hb := hb.trans (hbn.mono hb.size)
    clear hbn
    have hA1 := hA1.below (below_box w2 (.cells #[.string (bt M.t), .string (bt M.s), .slice Am M.ps.length cm] 35))
    have hAm := hAm.on (below_box w2 (.cells #[.string (bt M.t), .string (bt M.s), .slice Am M.ps.length cm] 35))
    have hM : (w2.alloc (.cells #[.string (bt M.t), .string (bt M.s), .slice Am M.ps.length cm] 35)).heap[w2.heap.size]? = some (mimO M Am cm) := heap_alloc_new w2 _
    have hb := hb.alloc hb.size (.cells #[.string (bt M.t), .string (bt M.s), .slice Am M.ps.length cm] 35)
    go_upto_region 3 with fail
    generalize w2.heap.size = gm at *
    generalize w2.alloc (.cells #[.string (bt M.t), .string (bt M.s), .slice Am M.ps.length cm] 35) = v2 at *
    go_wp2_with fail
    refine (HC2.out A1 c1 v2 hA1).mono ?_
    rintro e w3 ⟨Ax, cx, rfl, hAx, hbn, _⟩
    unfold mimV
    have hM := (hbn.block _ (Array.getElem?_eq_some_iff.1 hM).1).trans hM
    have hAm := hAm.on hbn
    have hA1 := hA1.below hbn
    have hb := hb.trans (hbn.mono hb.size)
    clear hbn
    have hM : (w3.alloc (.cells #[.string (bt M.t), .string (bt M.s), .slice Ax M.ps.length cx] 35)).heap[_]? = _ := (Below.heap_alloc _ _ _ (Array.getElem?_eq_some_iff.1 hM).1).trans hM
    have hA1 := hA1.below (below_box w3 (.cells #[.string (bt M.t), .string (bt M.s), .slice Ax M.ps.length cx] 35))
    have hAm := hAm.on (below_box w3 (.cells #[.string (bt M.t), .string (bt M.s), .slice Ax M.ps.length cx] 35))
    have hAx := hAx.on (below_box w3 (.cells #[.string (bt M.t), .string (bt M.s), .slice Ax M.ps.length cx] 35))
    have hX : (w3.alloc (.cells #[.string (bt M.t), .string (bt M.s), .slice Ax M.ps.length cx] 35)).heap[w3.heap.size]? = some (mimO M Ax cx) := heap_alloc_new w3 _
    have hb := hb.alloc hb.size (.cells #[.string (bt M.t), .string (bt M.s), .slice Ax M.ps.length cx] 35)
    go_upto_region 4 with fail
    generalize w3.heap.size = gx at *
    generalize w3.alloc (.cells #[.string (bt M.t), .string (bt M.s), .slice Ax M.ps.length cx] 35) = v3 at *
    go_wp2_with fail
    refine (HC3.out A1 c1 v3 hA1 hc1).mono ?_
    rintro e w4 ⟨rfl, hbn⟩
    have hM := (hbn.block _ (Array.getElem?_eq_some_iff.1 hM).1).trans hM
    have hX := (hbn.block _ (Array.getElem?_eq_some_iff.1 hX).1).trans hX
    have hAm := hAm.on hbn
    have hAx := hAx.on hbn
    have hA1 := hA1.below hbn
    have hb := hb.trans (hbn.mono hb.size)
    clear hbn
    obtain ⟨m0, m1, m2, mz, mlt⟩ := mim_cells hM
    obtain ⟨x0, x1, x2, xz, xlt⟩ := mim_cells hX
    have HS4 := Lib.hid (HSAME.out Am Ax cm cx w4 hAm hAx)
    go_wp2_with fail
    refine HS4.out.mono ?_
    rintro e w5 ⟨rfl, hbn⟩
    clear HS4
    clear m0 m1 m2 mz mlt x0 x1 x2 xz xlt
    have hM := (hbn.block _ (Array.getElem?_eq_some_iff.1 hM).1).trans hM
    have hX := (hbn.block _ (Array.getElem?_eq_some_iff.1 hX).1).trans hX
    have hAm := hAm.on hbn
    have hAx := hAx.on hbn
    have hA1 := hA1.below hbn
    have hb := hb.trans (hbn.mono hb.size)
    clear hbn
    obtain ⟨m0, m1, m2, mz, mlt⟩ := mim_cells hM
    obtain ⟨x0, x1, x2, xz, xlt⟩ := mim_cells hX
    have HS5 := Lib.hid (HAT.out Ax cx w5 hAx)
    go_upto_region 7 with fail
    go_wp2_with fail
    refine HS5.out.mono ?_
    rintro e w6 ⟨rfl, hbn⟩
    clear HS5
    clear m0 m1 m2 mz mlt x0 x1 x2 xz xlt
    have hM := (hbn.block _ (Array.getElem?_eq_some_iff.1 hM).1).trans hM
    have hX := (hbn.block _ (Array.getElem?_eq_some_iff.1 hX).1).trans hX
    have hAm := hAm.on hbn
    have hAx := hAx.on hbn
    have hA1 := hA1.below hbn
    have hb := hb.trans (hbn.mono hb.size)
    clear hbn
    obtain ⟨m0, m1, m2, mz, mlt⟩ := mim_cells hM
    obtain ⟨x0, x1, x2, xz, xlt⟩ := mim_cells hX
    go_upto_region 10 with fail
    go_wp2_with fail
    refine (HC4.out A1 c1 w6 hA1).mono ?_
    rintro e w7 ⟨Al, cl, rfl, hAll, hbn⟩
    clear m0 m1 m2 mz mlt x0 x1 x2 xz xlt
    have hM := (hbn.block _ (Array.getElem?_eq_some_iff.1 hM).1).trans hM
    have hX := (hbn.block _ (Array.getElem?_eq_some_iff.1 hX).1).trans hX
    have hAm := hAm.on hbn
    have hb := hb.trans (hbn.mono hb.size)
    clear hbn
    go_wp2_with fail
    refine (lives11_any _).mono ?_
    rintro e w9 ⟨rfl, hb9⟩
    have HBZ := Lib.hid (hb.trans (hb9.mono hb.size))
    clear hb9
    go_wp2_with fail
    go_ret
    exact ⟨rfl, HBZ.out⟩
  · have hX := hX1 (fun h => hms (List.eq_nil_of_length_eq_zero h))
    injection hX with e1 e2
    obtain ⟨hg1, hg2, hg3⟩ := hXg hms
    rw [← e1] at hg1 hg2 hg3
    have hgood := hg1
    subst e2
    have hlast : ms.length - 1 < ms.length := by have : ms.length ≠ 0 := fun h => hms (List.eq_nil_of_length_eq_zero h); omega
    obtain ⟨z, hZ⟩ : ∃ z, ms[ms.length - 1] = z := ⟨_, rfl⟩
    rw [List.getLast_eq_getElem, hZ] at hg2 hg3
    have h0i : ((ms.length : Int) == 0) = false := beq_eq_false_iff_ne.2 (by omega)
    have ht : ((bt M.t).toList == (bt z.t).toList) = true := by rw [hg2]; exact beq_self_eq_true _
    have hs : ((bt M.s).toList == (bt z.s).toList) = true := by rw [hg3]; exact beq_self_eq_true _
    clear hX0 hX1 hXg e1 hg1 hg2 hg3
    by_cases hat : 0 ≤ atL M.ps charL
    · have hd : decide (0 ≤ atL M.ps charL) = true := decide_eq_true hat
      have hk0 : (atL M.ps charL).toNat < M.ps.length := by omega
      have hset : setOf M = (M.ps[(atL M.ps charL).toNat]).2 := by unfold setOf; rw [dif_pos hat]
      rw [hd, hset] at HC3
      obtain ⟨k, hk2⟩ : ∃ k : Nat, atL M.ps charL = k := ⟨(atL M.ps charL).toNat, by omega⟩
      have hk3 : (atL M.ps charL).toNat = k := by omega
      simp only [hk3] at HC3 hk0
      have hk := hk0
      rw [hk2] at HAT
      obtain ⟨D, hD⟩ : ∃ D, bt M.ps[k].2 = D := ⟨_, rfl⟩
      rw [hD] at HC3
      clear hset hd hat hge1 hk2
      have hki : (0 : Int) ≤ (k : Int) := by omega
      have hki2 : (k : Int) < (M.ps.length : Int) := by omega
      unfold mimV at HSAME HAT
      go_enter Tryz.func4, Tryz.ntmps4
      go_wp2_with fail
      refine HFW.out.mono ?_
      rintro e w1 ⟨A1, c1, rfl, hA1, hc1, hb⟩
      go_upto_region 2 with fail
      go_wp2_with fail
      refine (HC1.out A1 c1 w1 hA1 hc1).mono ?_
      rintro e w2 ⟨Am, cm, rfl, hAm, hbn, _⟩
      unfold mimV
      have hA1 := hA1.below hbn
      have hb := hb.trans (hbn.mono hb.size)
      clear hbn
      have hA1 := hA1.below (below_box w2 (.cells #[.string (bt M.t), .string (bt M.s), .slice Am M.ps.length cm] 35))
      have hAm := hAm.on (below_box w2 (.cells #[.string (bt M.t), .string (bt M.s), .slice Am M.ps.length cm] 35))
      have hM : (w2.alloc (.cells #[.string (bt M.t), .string (bt M.s), .slice Am M.ps.length cm] 35)).heap[w2.heap.size]? = some (mimO M Am cm) := heap_alloc_new w2 _
      have hb := hb.alloc hb.size (.cells #[.string (bt M.t), .string (bt M.s), .slice Am M.ps.length cm] 35)
      go_upto_region 3 with fail
      generalize w2.heap.size = gm at *
      generalize w2.alloc (.cells #[.string (bt M.t), .string (bt M.s), .slice Am M.ps.length cm] 35) = v2 at *
      go_wp2_with fail
      refine (HC2.out A1 c1 v2 hA1).mono ?_
      rintro e w3 ⟨Ax, cx, rfl, hAx, hbn, _⟩
      unfold mimV
      have hM := (hbn.block _ (Array.getElem?_eq_some_iff.1 hM).1).trans hM
      have hAm := hAm.on hbn
      have hA1 := hA1.below hbn
      have hb := hb.trans (hbn.mono hb.size)
      clear hbn
      have hM : (w3.alloc (.cells #[.string (bt M.t), .string (bt M.s), .slice Ax M.ps.length cx] 35)).heap[_]? = _ := (Below.heap_alloc _ _ _ (Array.getElem?_eq_some_iff.1 hM).1).trans hM
      have hA1 := hA1.below (below_box w3 (.cells #[.string (bt M.t), .string (bt M.s), .slice Ax M.ps.length cx] 35))
      have hAm := hAm.on (below_box w3 (.cells #[.string (bt M.t), .string (bt M.s), .slice Ax M.ps.length cx] 35))
      have hAx := hAx.on (below_box w3 (.cells #[.string (bt M.t), .string (bt M.s), .slice Ax M.ps.length cx] 35))
      have hX : (w3.alloc (.cells #[.string (bt M.t), .string (bt M.s), .slice Ax M.ps.length cx] 35)).heap[w3.heap.size]? = some (mimO M Ax cx) := heap_alloc_new w3 _
      have hb := hb.alloc hb.size (.cells #[.string (bt M.t), .string (bt M.s), .slice Ax M.ps.length cx] 35)
      go_upto_region 4 with fail
      generalize w3.heap.size = gx at *
      generalize w3.alloc (.cells #[.string (bt M.t), .string (bt M.s), .slice Ax M.ps.length cx] 35) = v3 at *
      go_wp2_with fail
      refine (HC3.out A1 c1 v3 hA1 hc1).mono ?_
      rintro e w4 ⟨rfl, hbn⟩
      have hM := (hbn.block _ (Array.getElem?_eq_some_iff.1 hM).1).trans hM
      have hX := (hbn.block _ (Array.getElem?_eq_some_iff.1 hX).1).trans hX
      have hAm := hAm.on hbn
      have hAx := hAx.on hbn
      have hA1 := hA1.below hbn
      have hb := hb.trans (hbn.mono hb.size)
      clear hbn
      obtain ⟨m0, m1, m2, mz, mlt⟩ := mim_cells hM
      obtain ⟨x0, x1, x2, xz, xlt⟩ := mim_cells hX
      have HS4 := Lib.hid (HSAME.out Am Ax cm cx w4 hAm hAx)
      go_wp2_with fail
      refine HS4.out.mono ?_
      rintro e w5 ⟨rfl, hbn⟩
      clear HS4
      clear m0 m1 m2 mz mlt x0 x1 x2 xz xlt
      have hM := (hbn.block _ (Array.getElem?_eq_some_iff.1 hM).1).trans hM
      have hX := (hbn.block _ (Array.getElem?_eq_some_iff.1 hX).1).trans hX
      have hAm := hAm.on hbn
      have hAx := hAx.on hbn
      have hA1 := hA1.below hbn
      have hb := hb.trans (hbn.mono hb.size)
      clear hbn
      obtain ⟨m0, m1, m2, mz, mlt⟩ := mim_cells hM
      obtain ⟨x0, x1, x2, xz, xlt⟩ := mim_cells hX
      have HS5 := Lib.hid (HAT.out Ax cx w5 hAx)
      go_upto_region 7 with fail
      go_wp2_with fail
      refine HS5.out.mono ?_
      rintro e w6 ⟨rfl, hbn⟩
      clear HS5
      clear m0 m1 m2 mz mlt x0 x1 x2 xz xlt
      have hM := (hbn.block _ (Array.getElem?_eq_some_iff.1 hM).1).trans hM
      have hX := (hbn.block _ (Array.getElem?_eq_some_iff.1 hX).1).trans hX
      have hAm := hAm.on hbn
      have hAx := hAx.on hbn
      have hA1 := hA1.below hbn
      have hb := hb.trans (hbn.mono hb.size)
      clear hbn
      obtain ⟨m0, m1, m2, mz, mlt⟩ := mim_cells hM
      obtain ⟨x0, x1, x2, xz, xlt⟩ := mim_cells hX
      rcases hAx with hnil | ⟨ga, rfl, hga, hcs⟩
      · rw [hnil] at hk; simp at hk
      obtain ⟨d0, d1⟩ := hcs k hk
      rw [hD] at d1
      clear hcs d0
      go_upto_region 10 with fail
      clear d1
      go_wp2_with fail
      refine (HC4.out A1 c1 w6 hA1).mono ?_
      rintro e w7 ⟨Al, cl, rfl, hAll, hbn⟩
      clear m0 m1 m2 mz mlt x0 x1 x2 xz xlt
      have hM := (hbn.block _ (Array.getElem?_eq_some_iff.1 hM).1).trans hM
      have hX := (hbn.block _ (Array.getElem?_eq_some_iff.1 hX).1).trans hX
      have hAm := hAm.on hbn
      have hb := hb.trans (hbn.mono hb.size)
      clear hbn
      rcases hAll with hnil | ⟨g, rfl, _, hg, hcs⟩
      · exact absurd hnil hms
      obtain ⟨Az, cz, y0, y1, y2, _, _⟩ := hcs (ms.length - 1) hlast
      rw [hZ] at y0 y1 y2
      have hsub : (((ms.length - 1 : Nat)) : Int) = (ms.length : Int) - 1 := by omega
      have hi0 : (0 : Int) ≤ (ms.length : Int) - 1 := by omega
      have hi1 : ((ms.length : Int) - 1).toNat = ms.length - 1 := by omega
      clear hcs
      go_upto_region 13 with fail
      have hM1 := hM
      have hM : (w7.alloc (.cells #[.string (bt z.t), .string (bt z.s), .slice Az z.ps.length cz] 35)).heap[_]? = _ := (Below.heap_alloc _ _ _ (Array.getElem?_eq_some_iff.1 hM).1).trans hM
      have hAm := hAm.on (below_box w7 (.cells #[.string (bt z.t), .string (bt z.s), .slice Az z.ps.length cz] 35))
      have hL : (w7.alloc (.cells #[.string (bt z.t), .string (bt z.s), .slice Az z.ps.length cz] 35)).heap[w7.heap.size]? = some (mimO z Az cz) := heap_alloc_new w7 _
      have hb := hb.alloc hb.size (.cells #[.string (bt z.t), .string (bt z.s), .slice Az z.ps.length cz] 35)
      go_upto_region 14 with fail
      generalize w7.heap.size = gl at *
      generalize w7.alloc (.cells #[.string (bt z.t), .string (bt z.s), .slice Az z.ps.length cz] 35) = v7 at *
      obtain ⟨m0, m1, m2, mz, mlt⟩ := mim_cells hM
      obtain ⟨l0, l1, l2, lz, llt⟩ := mim_cells hL
      have HGD := Lib.hid (rGood_par M Am cm v7 HSZ.out hAm)
      rw [hgood] at HGD
      unfold mimV at HGD
      clear y0 y1 y2
      go_wp2_with fail
      refine HGD.out.mono ?_
      rintro e w8 ⟨rfl, hbn⟩
      clear m0 m1 m2 mz mlt l0 l1 l2 lz llt
      have hM := (hbn.block _ (Array.getElem?_eq_some_iff.1 hM).1).trans hM
      have hL := (hbn.block _ (Array.getElem?_eq_some_iff.1 hL).1).trans hL
      have hb := hb.trans (hbn.mono hb.size)
      clear hbn
      obtain ⟨m0, m1, m2, mz, mlt⟩ := mim_cells hM
      obtain ⟨l0, l1, l2, lz, llt⟩ := mim_cells hL
      go_wp2_with fail
      refine (lives11_any _).mono ?_
      rintro e w9 ⟨rfl, hb9⟩
      have HBZ := Lib.hid (hb.trans (hb9.mono hb.size))
      clear hb9
      go_wp2_with fail
      go_ret
      exact ⟨rfl, HBZ.out⟩
    · have hat2 : atL M.ps charL < 0 := by omega
      have hd : decide (0 ≤ atL M.ps charL) = false := decide_eq_false hat
      rw [hd, setOf_none hat, show bt [] = (⟨#[]⟩ : ByteArray) from rfl] at HC3
      clear hd
      unfold mimV at HSAME HAT
      go_enter Tryz.func4, Tryz.ntmps4
      go_wp2_with fail
      refine HFW.out.mono ?_
      rintro e w1 ⟨A1, c1, rfl, hA1, hc1, hb⟩
      go_upto_region 2 with fail
      go_wp2_with fail
      refine (HC1.out A1 c1 w1 hA1 hc1).mono ?_
      rintro e w2 ⟨Am, cm, rfl, hAm, hbn, _⟩
      unfold mimV
      have hA1 := hA1.below hbn
      have hb := hb.trans (hbn.mono hb.size)
      clear hbn
      have hA1 := hA1.below (below_box w2 (.cells #[.string (bt M.t), .string (bt M.s), .slice Am M.ps.length cm] 35))
      have hAm := hAm.on (below_box w2 (.cells #[.string (bt M.t), .string (bt M.s), .slice Am M.ps.length cm] 35))
      have hM : (w2.alloc (.cells #[.string (bt M.t), .string (bt M.s), .slice Am M.ps.length cm] 35)).heap[w2.heap.size]? = some (mimO M Am cm) := heap_alloc_new w2 _
      have hb := hb.alloc hb.size (.cells #[.string (bt M.t), .string (bt M.s), .slice Am M.ps.length cm] 35)
      go_upto_region 3 with fail
      generalize w2.heap.size = gm at *
      generalize w2.alloc (.cells #[.string (bt M.t), .string (bt M.s), .slice Am M.ps.length cm] 35) = v2 at *
      go_wp2_with fail
      refine (HC2.out A1 c1 v2 hA1).mono ?_
      rintro e w3 ⟨Ax, cx, rfl, hAx, hbn, _⟩
      unfold mimV
      have hM := (hbn.block _ (Array.getElem?_eq_some_iff.1 hM).1).trans hM
      have hAm := hAm.on hbn
      have hA1 := hA1.below hbn
      have hb := hb.trans (hbn.mono hb.size)
      clear hbn
      have hM : (w3.alloc (.cells #[.string (bt M.t), .string (bt M.s), .slice Ax M.ps.length cx] 35)).heap[_]? = _ := (Below.heap_alloc _ _ _ (Array.getElem?_eq_some_iff.1 hM).1).trans hM
      have hA1 := hA1.below (below_box w3 (.cells #[.string (bt M.t), .string (bt M.s), .slice Ax M.ps.length cx] 35))
      have hAm := hAm.on (below_box w3 (.cells #[.string (bt M.t), .string (bt M.s), .slice Ax M.ps.length cx] 35))
      have hAx := hAx.on (below_box w3 (.cells #[.string (bt M.t), .string (bt M.s), .slice Ax M.ps.length cx] 35))
      have hX : (w3.alloc (.cells #[.string (bt M.t), .string (bt M.s), .slice Ax M.ps.length cx] 35)).heap[w3.heap.size]? = some (mimO M Ax cx) := heap_alloc_new w3 _
      have hb := hb.alloc hb.size (.cells #[.string (bt M.t), .string (bt M.s), .slice Ax M.ps.length cx] 35)
      go_upto_region 4 with fail
      generalize w3.heap.size = gx at *
      generalize w3.alloc (.cells #[.string (bt M.t), .string (bt M.s), .slice Ax M.ps.length cx] 35) = v3 at *
      go_wp2_with fail
      refine (HC3.out A1 c1 v3 hA1 hc1).mono ?_
      rintro e w4 ⟨rfl, hbn⟩
      have hM := (hbn.block _ (Array.getElem?_eq_some_iff.1 hM).1).trans hM
      have hX := (hbn.block _ (Array.getElem?_eq_some_iff.1 hX).1).trans hX
      have hAm := hAm.on hbn
      have hAx := hAx.on hbn
      have hA1 := hA1.below hbn
      have hb := hb.trans (hbn.mono hb.size)
      clear hbn
      obtain ⟨m0, m1, m2, mz, mlt⟩ := mim_cells hM
      obtain ⟨x0, x1, x2, xz, xlt⟩ := mim_cells hX
      have HS4 := Lib.hid (HSAME.out Am Ax cm cx w4 hAm hAx)
      go_wp2_with fail
      refine HS4.out.mono ?_
      rintro e w5 ⟨rfl, hbn⟩
      clear HS4
      clear m0 m1 m2 mz mlt x0 x1 x2 xz xlt
      have hM := (hbn.block _ (Array.getElem?_eq_some_iff.1 hM).1).trans hM
      have hX := (hbn.block _ (Array.getElem?_eq_some_iff.1 hX).1).trans hX
      have hAm := hAm.on hbn
      have hAx := hAx.on hbn
      have hA1 := hA1.below hbn
      have hb := hb.trans (hbn.mono hb.size)
      clear hbn
      obtain ⟨m0, m1, m2, mz, mlt⟩ := mim_cells hM
      obtain ⟨x0, x1, x2, xz, xlt⟩ := mim_cells hX
      have HS5 := Lib.hid (HAT.out Ax cx w5 hAx)
      go_upto_region 7 with fail
      go_wp2_with fail
      refine HS5.out.mono ?_
      rintro e w6 ⟨rfl, hbn⟩
      clear HS5
      clear m0 m1 m2 mz mlt x0 x1 x2 xz xlt
      have hM := (hbn.block _ (Array.getElem?_eq_some_iff.1 hM).1).trans hM
      have hX := (hbn.block _ (Array.getElem?_eq_some_iff.1 hX).1).trans hX
      have hAm := hAm.on hbn
      have hAx := hAx.on hbn
      have hA1 := hA1.below hbn
      have hb := hb.trans (hbn.mono hb.size)
      clear hbn
      obtain ⟨m0, m1, m2, mz, mlt⟩ := mim_cells hM
      obtain ⟨x0, x1, x2, xz, xlt⟩ := mim_cells hX
      go_upto_region 10 with fail
      go_wp2_with fail
      refine (HC4.out A1 c1 w6 hA1).mono ?_
      rintro e w7 ⟨Al, cl, rfl, hAll, hbn⟩
      clear m0 m1 m2 mz mlt x0 x1 x2 xz xlt
      have hM := (hbn.block _ (Array.getElem?_eq_some_iff.1 hM).1).trans hM
      have hX := (hbn.block _ (Array.getElem?_eq_some_iff.1 hX).1).trans hX
      have hAm := hAm.on hbn
      have hb := hb.trans (hbn.mono hb.size)
      clear hbn
      rcases hAll with hnil | ⟨g, rfl, _, hg, hcs⟩
      · exact absurd hnil hms
      obtain ⟨Az, cz, y0, y1, y2, _, _⟩ := hcs (ms.length - 1) hlast
      rw [hZ] at y0 y1 y2
      have hsub : (((ms.length - 1 : Nat)) : Int) = (ms.length : Int) - 1 := by omega
      have hi0 : (0 : Int) ≤ (ms.length : Int) - 1 := by omega
      have hi1 : ((ms.length : Int) - 1).toNat = ms.length - 1 := by omega
      clear hcs
      go_upto_region 13 with fail
      have hM1 := hM
      have hM : (w7.alloc (.cells #[.string (bt z.t), .string (bt z.s), .slice Az z.ps.length cz] 35)).heap[_]? = _ := (Below.heap_alloc _ _ _ (Array.getElem?_eq_some_iff.1 hM).1).trans hM
      have hAm := hAm.on (below_box w7 (.cells #[.string (bt z.t), .string (bt z.s), .slice Az z.ps.length cz] 35))
      have hL : (w7.alloc (.cells #[.string (bt z.t), .string (bt z.s), .slice Az z.ps.length cz] 35)).heap[w7.heap.size]? = some (mimO z Az cz) := heap_alloc_new w7 _
      have hb := hb.alloc hb.size (.cells #[.string (bt z.t), .string (bt z.s), .slice Az z.ps.length cz] 35)
      go_upto_region 14 with fail
      generalize w7.heap.size = gl at *
      generalize w7.alloc (.cells #[.string (bt z.t), .string (bt z.s), .slice Az z.ps.length cz] 35) = v7 at *
      obtain ⟨m0, m1, m2, mz, mlt⟩ := mim_cells hM
      obtain ⟨l0, l1, l2, lz, llt⟩ := mim_cells hL
      have HGD := Lib.hid (rGood_par M Am cm v7 HSZ.out hAm)
      rw [hgood] at HGD
      unfold mimV at HGD
      clear y0 y1 y2
      go_wp2_with fail
      refine HGD.out.mono ?_
      rintro e w8 ⟨rfl, hbn⟩
      clear m0 m1 m2 mz mlt l0 l1 l2 lz llt
      have hM := (hbn.block _ (Array.getElem?_eq_some_iff.1 hM).1).trans hM
      have hL := (hbn.block _ (Array.getElem?_eq_some_iff.1 hL).1).trans hL
      have hb := hb.trans (hbn.mono hb.size)
      clear hbn
      obtain ⟨m0, m1, m2, mz, mlt⟩ := mim_cells hM
      obtain ⟨l0, l1, l2, lz, llt⟩ := mim_cells hL
      go_wp2_with fail
      refine (lives11_any _).mono ?_
      rintro e w9 ⟨rfl, hb9⟩
      have HBZ := Lib.hid (hb.trans (hb9.mono hb.size))
      clear hb9
      go_wp2_with fail
      go_ret
      exact ⟨rfl, HBZ.out⟩
end Go.Proofs.YtdkkbibdjagjjaaGreat

namespace Go.Proofs.YtdkkbibdjagjjaaGreat
open Go.RowKit
set_option linter.unusedSimpArgs false
set_option linter.unusedVariables false

theorem choose_ltP {α : Type} [Inhabited α] {n : Nat} {p : Nat → α → Prop} (h : ∀ i, i < n → ∃ x, p i x) : ∃ f : Nat → α, ∀ i, i < n → p i (f i) := by
  classical
  exact ⟨fun i => if hi : i < n then (h i hi).choose else default, fun i hi => by simp only [hi, dif_pos]; exact (h i hi).choose_spec⟩

open Go.ChangeShapes Go.WideShapes Go.Deep in
/-- A slice of structs of two texts, opened. -/
theorem open_parsV {H : Type} {enc : TypeId × Value → H} {P : Program} {w : World} {base : Nat} {spare : Nat → Bool} {held : Bool} {t e ts : TypeId} {f0 f1 : Field} {v : Value} {n : Nat} {y : DataW H × List MemPlace}
    (ht : P.underlying t = some (.slice e)) (he : P.underlying e = some (.struct #[f0, f1])) (ce : P.cellsOf e = 2) (o0 : f0.offset = 0) (o1 : f1.offset = 1)
    (t0 : f0.type = ts) (t1 : f1.type = ts) (cs : P.cellsOf ts = 1) (hs : P.underlying ts = some .string)
    (h : DataW.trod enc P w base spare held n t [v] = some y) :
    ∃ A c ps, v = .slice A ps.length c ∧ ParsIn w w.heap.size A ps ∧ (∀ p ∈ ps, (bt p.1).size ≤ maxLen ∧ (bt p.2).size ≤ maxLen) ∧ ps.length ≤ maxLen := by
  rcases open_slice ht h with ⟨h0, _⟩ | ⟨a, len, cap, m, n', D, Pl, hc, hb, hl, hm, hmm, _, hx⟩
  · simp at h0
    subst h0
    exact ⟨none, 0, [], rfl, .inl rfl, fun p hp => by simp at hp, Nat.zero_le _⟩
  simp at hc
  subst hc
  have hlm : len ≤ m := by rw [hmm]; split <;> omega
  have each : ∀ i, i < len → ∃ p : List UInt8 × List UInt8, w.cell? (a.add (i * 2)) = some (.string (bt p.1)) ∧ w.cell? (a.add (i * 2 + 1)) = some (.string (bt p.2)) ∧ (bt p.1).size ≤ maxLen ∧ (bt p.2).size ≤ maxLen := by
    intro i hi
    obtain ⟨cs', h1, h2⟩ := hx i (by omega)
    rw [ce] at h1
    obtain ⟨_, hlen, hcell⟩ := World.cells?_some h1
    obtain ⟨xs, k, hk, hxy, _, hxl, hf⟩ := DataW.trod_struct he h2
    match xs, hxl, cs', hlen with
    | [y0, y1], _, [v0, v1], _ =>
      have g0 := hf 0 f0 rfl
      have g1 := hf 1 f1 rfl
      simp [o0, o1, t0, t1, cs] at g0 g1
      have e0 := hcell 0 (by omega)
      have e1 := hcell 1 (by omega)
      rw [add_add] at e0 e1
      obtain ⟨b0, q0, _, s0⟩ := DataW.trod_string hs g0
      obtain ⟨b1, q1, _, s1⟩ := DataW.trod_string hs g1
      simp at q0 q1
      subst q0 q1
      exact ⟨(b0.data.toList, b1.data.toList), by rw [list_bt]; simpa using e0, by rw [list_bt]; simpa using e1, s0, s1⟩
  obtain ⟨f, hfs⟩ := choose_ltP each
  refine ⟨some a, cap, (List.range len).map f, by simp, ?_, ?_, by simp; omega⟩
  · by_cases hz : len = 0
    · subst hz; exact .inl rfl
    right
    have h0 := (hfs 0 (by omega)).1
    rw [Nat.zero_mul, show a.add 0 = a from rfl] at h0
    obtain ⟨b, off, sp⟩ := a
    have hsp : sp = none := by
      cases sp with
      | none => rfl
      | some k =>
        simp only [World.cell?] at h0
        split at h0 <;> simp at h0
    subst hsp
    refine ⟨b, off, rfl, lt_of_cell h0, fun i hi => ?_⟩
    have hi' : i < len := by simpa using hi
    obtain ⟨h1, h2, _⟩ := hfs i hi'
    simp only [List.getElem_map, List.getElem_range]
    have hadd : ∀ k, (⟨b, off, none⟩ : Addr).add k = ⟨b, off + k, none⟩ := fun k => by
      unfold Addr.add
      split
      · rename_i hk; subst hk; rfl
      · rfl
    rw [hadd] at h1 h2
    exact ⟨h1, h2⟩
  · intro p hp
    simp only [List.mem_map, List.mem_range] at hp
    obtain ⟨i, hi, rfl⟩ := hp
    exact (hfs i hi).2.2

end Go.Proofs.YtdkkbibdjagjjaaGreat

namespace Go.Proofs.YtdkkbibdjagjjaaGreat
open Go.RowKit
set_option linter.unusedSimpArgs false
set_option linter.unusedVariables false

open Go.ChangeShapes Go.WideShapes Go.Deep in
theorem open_strsV {H : Type} {enc : TypeId × Value → H} {P : Program} {w : World} {base : Nat} {spare : Nat → Bool} {held : Bool} {t e : TypeId} {v : Value} {n : Nat} {y : DataW H × List MemPlace}
    (ht : P.underlying t = some (.slice e)) (ce : P.cellsOf e = 1) (hs : P.underlying e = some .string)
    (h : DataW.trod enc P w base spare held n t [v] = some y) :
    ∃ A c ps, v = .slice A ps.length c ∧ StrsIn w A ps ∧ (∀ p ∈ ps, p.size ≤ maxLen) ∧ ps.length ≤ maxLen := by
  rcases open_slice ht h with ⟨h0, _⟩ | ⟨a, len, cap, m, n', D, Pl, hc, hb, hl, hm, hmm, _, hx⟩
  · simp at h0
    subst h0
    exact ⟨none, 0, [], rfl, .inl rfl, fun p hp => by simp at hp, Nat.zero_le _⟩
  simp at hc
  subst hc
  have hlm : len ≤ m := by rw [hmm]; split <;> omega
  have each : ∀ i, i < len → ∃ p : ByteArray, w.cell? (a.add (i * 1)) = some (.string p) ∧ p.size ≤ maxLen := by
    intro i hi
    obtain ⟨cs', h1, h2⟩ := hx i (by omega)
    rw [ce] at h1
    obtain ⟨_, hlen, hcell⟩ := World.cells?_some h1
    match cs', hlen with
    | [v0], _ =>
      have e0 := hcell 0 (by omega)
      rw [add_add] at e0
      obtain ⟨b0, q0, _, s0⟩ := DataW.trod_string hs h2
      simp at q0
      subst q0
      exact ⟨b0, by simpa using e0, s0⟩
  obtain ⟨f, hfs⟩ := choose_ltP each
  refine ⟨some a, cap, (List.range len).map f, by simp, ?_, ?_, by simp; omega⟩
  · by_cases hz : len = 0
    · subst hz; exact .inl rfl
    right
    have h0 := (hfs 0 (by omega)).1
    rw [Nat.zero_mul, show a.add 0 = a from rfl] at h0
    obtain ⟨b, off, sp⟩ := a
    have hsp : sp = none := by
      cases sp with
      | none => rfl
      | some k =>
        simp only [World.cell?] at h0
        split at h0 <;> simp at h0
    subst hsp
    refine ⟨b, off, rfl, lt_of_cell h0, fun i hi => ?_⟩
    have hi' : i < len := by simpa using hi
    obtain ⟨h1, _⟩ := hfs i hi'
    simp only [List.getElem_map, List.getElem_range]
    have hadd : ∀ k, (⟨b, off, none⟩ : Addr).add k = ⟨b, off + k, none⟩ := fun k => by
      unfold Addr.add
      split
      · rename_i hk; subst hk; rfl
      · rfl
    rw [hadd, Nat.mul_one] at h1
    exact h1
  · intro p hp
    simp only [List.mem_map, List.mem_range] at hp
    obtain ⟨i, hi, rfl⟩ := hp
    exact (hfs i hi).2

end Go.Proofs.YtdkkbibdjagjjaaGreat
