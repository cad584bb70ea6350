/-
  Lemmas of this claim, part 13: the texts CombL, SniB, LawNosniffTells, one behind the other.
-/
import Derived.Test.YtdkkbibdjagjjaaM12

namespace Go.Proofs.Ytdkkbibdjagjjaa
open Go.RowKit
set_option linter.unusedSimpArgs false
set_option linter.unusedVariables false

/-- The pieces, by steps that are counted. -/
def splitF : Nat → List UInt8 → List UInt8 → List ByteArray
  | 0, T, _ => [pieceB ⟨T.toArray⟩]
  | _ + 1, T, [] => [pieceB ⟨T.toArray⟩]
  | n + 1, T, b :: r => if b = 34 then splitF n (T ++ 34 :: r.take (readL r).2) (r.drop (readL r).2) else if b = 44 then pieceB ⟨T.toArray⟩ :: splitF n [] r else splitF n (T ++ [b]) r

theorem splitF_eq : ∀ (n : Nat) (T l : List UInt8), l.length ≤ n → splitF n T l = splitL T l
  | 0, T, l, h => by
    obtain rfl : l = [] := List.eq_nil_of_length_eq_zero (by omega)
    rw [splitL_end]
    rfl
  | n + 1, T, [], _ => by rw [splitL_end]; rfl
  | n + 1, T, b :: r, h => by
    rw [List.length_cons] at h
    rw [splitF]
    by_cases h34 : b = 34
    · subst h34
      rw [if_pos rfl, splitL_quote, splitF_eq n _ _ (by rw [List.length_drop]; omega)]
    · by_cases h44 : b = 44
      · subst h44
        rw [if_neg h34, if_pos rfl, splitL_comma, splitF_eq n _ _ (by omega)]
      · rw [if_neg h34, if_neg h44, splitL_other _ _ _ h34 h44, splitF_eq n _ _ (by omega)]

def parsF : Nat → Pars → List UInt8 → Pars
  | 0, ps, _ => ps
  | _ + 1, ps, [] => ps
  | n + 1, ps, b :: r => if b = 59 then parsF n (addP ps (parmStep r)) (parmStep r).2.2.2 else ps

theorem parsF_eq : ∀ (n : Nat) (ps : Pars) (l : List UInt8), l.length ≤ n → parsF n ps l = parsL ps l
  | 0, ps, l, h => by
    obtain rfl : l = [] := List.eq_nil_of_length_eq_zero (by omega)
    rw [parsL_nil]
    rfl
  | n + 1, ps, [], _ => by rw [parsL_nil]; rfl
  | n + 1, ps, b :: r, h => by
    rw [List.length_cons] at h
    rw [parsF]
    by_cases hb : b = 59
    · subst hb
      have := parmStep_len r
      rw [if_pos rfl, parsL_semi, parsF_eq n _ _ (by omega)]
    · rw [if_neg hb, parsL_other _ _ _ hb]

/-- A text's type, by steps that are counted. -/
def parseF (l0 : List UInt8) : MimeL × Nat :=
  if (trimL isWhite l0).dropWhile nslash = [] ∨ tokL ((trimL isWhite l0).takeWhile nslash) = false ∨ tokL (trimEnd isWhite (((trimL isWhite l0).dropWhile nslash).tail.takeWhile nsemi)) = false then (noM, 2)
  else (⟨lowerL ((trimL isWhite l0).takeWhile nslash), lowerL (trimEnd isWhite (((trimL isWhite l0).dropWhile nslash).tail.takeWhile nsemi)), parsF l0.length [] (((trimL isWhite l0).dropWhile nslash).tail.dropWhile nsemi)⟩, 0)

theorem parseF_eq (l : List UInt8) : parseR l = parseF l := by
  unfold parseR parseL parseF
  simp only
  split
  · rename_i m h
    split at h
    · cases h
    · rename_i hn
      injection h with h
      rw [if_neg hn, parsF_eq]
      · rw [← h]
      · have h0 := trimL_len isWhite l
        have h2 := dropWhile_len nslash (trimL isWhite l)
        have h3 := dropWhile_len nsemi ((trimL isWhite l).dropWhile nslash).tail
        rw [List.length_tail] at h3
        omega
  · rename_i h
    split at h
    · rename_i hn
      rw [if_pos hn]
    · cases h

def addF (s : ByteArray) : List MimeL := if (parseF s.data.toList).2 = 0 ∧ everyM (parseF s.data.toList).1 = false then [(parseF s.data.toList).1] else []

def allF (l : List ByteArray) : List MimeL := if l = [] then [] else (splitF (joinL l).length [] (joinL l)).flatMap addF

theorem allF_eq (l : List ByteArray) : allL l = allF l := by
  unfold allL allF valuesL
  have hf : addM = addF := by
    funext s
    unfold addM addF
    rw [parseF_eq]
  rw [hf]
  split
  · rfl
  · rw [splitF_eq _ _ _ (Nat.le_refl _)]
    rfl

def lineC : ByteArray := ⟨#[116, 101, 120, 116, 47, 104, 116, 109, 108, 59, 99, 104, 97, 114, 115, 101, 116, 61, 97, 44, 32, 116, 101, 120, 116, 47, 104, 116, 109, 108]⟩
def livC : MimeL := ⟨[116, 101, 120, 116], [104, 116, 109, 108], [(charL, [97])]⟩

theorem all_lives : allL [lineC] = [livC, ⟨[116, 101, 120, 116], [104, 116, 109, 108], []⟩] := by
  rw [allF_eq]
  kernel_rfl

theorem ext_lives : extractL [lineC] = (livC, 0) := by
  unfold extractL
  rw [all_lives, if_neg (by simp)]
  kernel_rfl

set_option maxHeartbeats 1000000 in
theorem lives11_any (w : World) : Calls Try.prog 18 #[] w fun e w' => e = .returned (.bool true) ∧ Below w.heap.size w w' := by
  have hA : StrsIn (w.alloc (.cells #[.string lineC] 9)) (some ⟨w.heap.size, 0, none⟩) [lineC] := .inr ⟨w.heap.size, 0, rfl, by simp, fun i hi => by
    have : i = 0 := by simp at hi; exact hi
    subst this
    simp [go_sem]⟩
  have HEX := Lib.hid (Extract_any [lineC] (some ⟨w.heap.size, 0, none⟩) 1 _ hA (by decide) (by decide) (by intro s hs; simp at hs; subst hs; decide) (by decide +kernel))
  rw [ext_lives] at HEX
  have hb0 := below_box w (.cells #[.string lineC] 9)
  clear hA
  unfold lineC at *
  go_enter Try.func18, Try.ntmps18
  go_wp2_with fail
  refine HEX.out.mono ?_
  rintro e w1 ⟨A, c, rfl, hA1, hb1, hf⟩
  rcases hA1 with h | ⟨g, rfl, hg, hcs⟩
  · cases h
  obtain ⟨a0, a1⟩ := hcs 0 (by decide)
  have hv : (livC.ps[0]'(by decide)).2 = [97] := rfl
  rw [hv] at a1
  have a1 : w1.cell? ⟨g, 1, none⟩ = some (.string ⟨#[97]⟩) := a1
  have HB := Lib.hid (hb0.trans (hb1.mono hb0.size))
  have hX : (w1.alloc (.cells #[.string (bt livC.t), .string (bt livC.s), .slice (some ⟨g, 0, none⟩) 1 c] 33)).heap[w1.heap.size]? = some (mimO livC (some ⟨g, 0, none⟩) c) := heap_alloc_new w1 _
  have HBX := Lib.hid (HB.out.alloc HB.out.size (.cells #[.string (bt livC.t), .string (bt livC.s), .slice (some ⟨g, 0, none⟩) 1 c] 33))
  have b1 := (cell_below (below_box w1 (.cells #[.string (bt livC.t), .string (bt livC.s), .slice (some ⟨g, 0, none⟩) 1 c] 33)) hg).trans a1
  clear hcs a0 a1 hb1 hf hb0 hv HEX
  unfold mimV
  have hl : livC.ps.length = 1 := rfl
  simp only [hl]
  go_upto_region 2 with fail
  generalize w1.alloc (.cells #[.string (bt livC.t), .string (bt livC.s), .slice (some ⟨g, 0, none⟩) 1 c] 33) = W at *
  generalize w1.heap.size = q at *
  obtain ⟨x0, x1, x2, xz, xlt⟩ := mim_cells hX
  simp only [hl] at x2
  clear hX
  go_wp2_with fail
  go_ret
  exact ⟨rfl, HBX.out⟩

end Go.Proofs.Ytdkkbibdjagjjaa

namespace Go.Proofs.Ytdkkbibdjagjjaa
open Go.RowKit
set_option linter.unusedSimpArgs false
set_option linter.unusedVariables false

theorem noSniff_nil {l : Pars} (h : sniL l = []) : noSniff l = false := by unfold noSniff; rw [h]

theorem noSniff_cons {l : Pars} {v : ByteArray} {r : List ByteArray} (h : sniL l = v :: r) : noSniff l = isSniff v := by unfold noSniff; rw [h]

theorem sni_sizes {l : Pars} (hl : FewP l) : ∀ s ∈ sniL l, s.size ≤ 100000 := by
  have := sni_room hl
  rw [bt_size] at this
  exact (values_sizes (getL optName l) 100000 this).1

theorem sniff_spelled (v : ByteArray) : ((lowerB v).toList == [110, 111, 115, 110, 105, 102, 102]) = isSniff v := by
  rw [Lib.toList_data, lowerB_data]
  rfl

theorem sis_any (l : Pars) (A : Option Addr) (c : Nat) (w : World) (hl : FewP l) (hA : ParsIn w w.heap.size A l) :
    Calls Try.prog 26 #[.slice A l.length c] w fun e w' => e = .returned (.bool (noSniff l)) ∧ Below w.heap.size w w' := by
  have HV := Lib.hid (svalues_any l A c w hl hA)
  have hs := sni_sizes hl
  have h1 := @noSniff_nil l
  have h2 := fun v r => @noSniff_cons l v r
  generalize noSniff l = q at *
  generalize sniL l = vs at *
  clear hA hl
  match vs, HV, hs, h1, h2 with
  | [], HV, hs, h1, h2 =>
    rw [h1 rfl]
    clear h1 h2
    go_enter Try.func26, Try.ntmps26
    go_wp2_with fail
    refine HV.out.mono ?_
    rintro e w2 ⟨A2, c2, rfl, _, hb⟩
    have HB := Lib.hid hb
    clear hb
    go_wp2_with fail
    go_ret
    exact ⟨rfl, HB.out⟩
  | v :: r, HV, hs, h1, h2 =>
    rw [h2 v r rfl]
    have hv := hs v (List.mem_cons_self ..)
    have HSM := Lib.hid (fun w => Same_any v sniffT w (by unfold maxLen; omega) (by decide))
    have hq : (lowerL v.data.toList == lowerL sniffT.data.toList) = isSniff v := rfl
    rw [hq] at HSM
    unfold sniffT at HSM
    generalize isSniff v = q2 at *
    have hpos : (0 : Int) < ((v :: r).length : Int) := by simp
    clear h1 h2 hs hq
    go_enter Try.func26, Try.ntmps26
    go_wp2_with fail
    refine HV.out.mono ?_
    rintro e w2 ⟨A2, c2, rfl, hA2, hb⟩
    rcases hA2 with hnil | ⟨b, off, rfl, hlt, hcs⟩
    · cases hnil
    have c0 : w2.cell? ⟨b, off, none⟩ = some (.string v) := hcs 0 (by simp)
    have HB := Lib.hid hb
    clear hb hcs
    go_wp2_with (go_at_call 39; refine Calls.mono (HSM.out _) ?_; rintro e w3 ⟨rfl, hd⟩; have HD := Lib.hid hd; clear hd)
    go_ret
    exact ⟨rfl, HB.out.trans (HD.out.below _)⟩

theorem sIs_any (l : Pars) (A : Option Addr) (c : Nat) (w : World) (hl : FewP l) (hA : ParsIn w w.heap.size A l) :
    Calls Try.prog 10 #[.slice A l.length c] w fun e w' => e = .returned (.bool (noSniff l)) ∧ Below w.heap.size w w' := by
  have HV := Lib.hid (sis_any l A c w hl hA)
  clear hl hA
  go_enter Try.func10, Try.ntmps10
  go_wp2_with fail
  refine HV.out.mono ?_
  rintro e w2 ⟨rfl, hb2⟩
  go_wp2_with fail
  go_ret
  exact ⟨rfl, hb2⟩

theorem rsIs_any (l : Pars) (A : Option Addr) (c : Nat) (w : World) (hl : FewP l) (hA : ParsIn w w.heap.size A l) :
    Calls Try.prog 11 #[.slice A l.length c] w fun e w' => e = .returned (.bool (noSniff l)) ∧ Below w.heap.size w w' := by
  have HV := Lib.hid (rsValues_any l A c w hl hA)
  have hs := sni_sizes hl
  have h1 := @noSniff_nil l
  have h2 := fun v r => @noSniff_cons l v r
  generalize noSniff l = q at *
  generalize sniL l = vs at *
  clear hA hl
  match vs, HV, hs, h1, h2 with
  | [], HV, hs, h1, h2 =>
    rw [h1 rfl]
    clear h1 h2
    go_enter Try.func11, Try.ntmps11
    go_wp2_with fail
    refine HV.out.mono ?_
    rintro e w2 ⟨A2, c2, rfl, _, hb⟩
    have HB := Lib.hid hb
    clear hb
    go_wp2_with fail
    go_ret
    exact ⟨rfl, HB.out⟩
  | v :: r, HV, hs, h1, h2 =>
    rw [h2 v r rfl]
    have hv := hs v (List.mem_cons_self ..)
    have HLO := Lib.hid (fun w => rLower_any v w (by unfold maxLen; omega) (by omega))
    have hq := sniff_spelled v
    generalize lowerB v = y at *
    generalize isSniff v = q2 at *
    have hpos : (0 : Int) < ((v :: r).length : Int) := by simp
    clear h1 h2 hs
    go_enter Try.func11, Try.ntmps11
    go_wp2_with fail
    refine HV.out.mono ?_
    rintro e w2 ⟨A2, c2, rfl, hA2, hb⟩
    rcases hA2 with hnil | ⟨b, off, rfl, hlt, hcs⟩
    · cases hnil
    have c0 : w2.cell? ⟨b, off, none⟩ = some (.string v) := hcs 0 (by simp)
    have HB := Lib.hid hb
    clear hb hcs
    go_wp2_with (go_at_call 27; refine Calls.mono (HLO.out _) ?_; rintro e w3 ⟨rfl, hd⟩; have HD := Lib.hid (HB.out.trans (hd.mono HB.out.size)); clear hd)
    go_ret
    exact ⟨rfl, HD.out⟩

def livH : Pars := [([120, 45, 99, 111, 110, 116, 101, 110, 116, 45, 116, 121, 112, 101, 45, 111, 112, 116, 105, 111, 110, 115], [78, 111, 83, 110, 105, 102, 102, 44, 32, 120])]

theorem sni_lives : noSniff livH = true := by
  unfold noSniff sniL valuesL
  rw [show getL optName livH = [⟨#[78, 111, 83, 110, 105, 102, 102, 44, 32, 120]⟩] from by kernel_rfl]
  rw [if_neg (by simp)]
  unfold splitB
  rw [← splitF_eq 10 _ _ (by decide +kernel)]
  kernel_rfl

theorem sni_lives0 : noSniff [] = false := by
  unfold noSniff sniL valuesL getL
  rfl

theorem lives23_any (w : World) : Calls Try.prog 12 #[] w fun e w' => e = .returned (.bool true) ∧ Below w.heap.size w w' := by
  have hb0 := below_box w (.cells #[.string ⟨#[120, 45, 99, 111, 110, 116, 101, 110, 116, 45, 116, 121, 112, 101, 45, 111, 112, 116, 105, 111, 110, 115]⟩, .string ⟨#[78, 111, 83, 110, 105, 102, 102, 44, 32, 120]⟩] 42)
  have hA : ParsIn (w.alloc (.cells #[.string ⟨#[120, 45, 99, 111, 110, 116, 101, 110, 116, 45, 116, 121, 112, 101, 45, 111, 112, 116, 105, 111, 110, 115]⟩, .string ⟨#[78, 111, 83, 110, 105, 102, 102, 44, 32, 120]⟩] 42)) (w.alloc (.cells #[.string ⟨#[120, 45, 99, 111, 110, 116, 101, 110, 116, 45, 116, 121, 112, 101, 45, 111, 112, 116, 105, 111, 110, 115]⟩, .string ⟨#[78, 111, 83, 110, 105, 102, 102, 44, 32, 120]⟩] 42)).heap.size (some ⟨w.heap.size, 0, none⟩) livH := .inr ⟨w.heap.size, 0, rfl, by simp, fun i hi => by
    have : i = 0 := by simp [livH] at hi; exact hi
    subst this
    constructor
    · simp [go_sem]; rfl
    · simp [go_sem]; rfl⟩
  have HI := Lib.hid (sIs_any livH (some ⟨w.heap.size, 0, none⟩) 1 _ ⟨by decide, by intro p hp; simp [livH] at hp; subst hp; exact ⟨by decide, by decide⟩⟩ hA)
  rw [sni_lives] at HI
  have HN := Lib.hid (fun w => sIs_any [] none 0 w ⟨by decide, by intro p hp; cases hp⟩ (.inl rfl))
  rw [sni_lives0] at HN
  clear hA
  go_enter Try.func12, Try.ntmps12
  go_wp2_with fail
  refine HI.out.mono ?_
  rintro e w2 ⟨rfl, hb⟩
  have HB := Lib.hid (hb0.trans (hb.mono hb0.size))
  clear hb hb0
  go_wp2_with fail
  refine (HN.out _).mono ?_
  rintro e w3 ⟨rfl, hb3⟩
  have HB3 := Lib.hid (HB.out.trans (hb3.mono HB.out.size))
  clear hb3
  go_wp2_with fail
  go_ret
  exact ⟨rfl, HB3.out⟩

end Go.Proofs.Ytdkkbibdjagjjaa

namespace Go.Proofs.Ytdkkbibdjagjjaa
open Go.RowKit
set_option linter.unusedSimpArgs false
set_option linter.unusedVariables false

theorem fewHs_big {l : Pars} (h : FewP l) : ∀ p ∈ l, (bt p.1).size ≤ maxLen ∧ (bt p.2).size ≤ maxLen := fun p hp => by
  have := h.p p hp
  rw [bt_size, bt_size]
  unfold maxLen
  omega

set_option maxHeartbeats 1000000 in
theorem nosniffTells_walk (l : Pars) (A : Option Addr) (c : Nat) (w : World) (hlm : l.length ≤ maxLen) (hps : ∀ p ∈ l, (bt p.1).size ≤ maxLen ∧ (bt p.2).size ≤ maxLen) (hA : ParsIn w w.heap.size A l) :
    Calls Try.prog 3 #[.slice A l.length c] w fun e w' => e = .returned (.bool true) ∧ Below w.heap.size w w' := by
  have HFW := Lib.hid (Few22_any l 10 A c w (by decide) hlm hps hA)
  have hf := fewHs_few l
  have hid := fewHs_idem 10 l
  generalize fewHs 10 l = L at *
  have hfn := hf.n
  have HF2 : Hid (∀ (A1 : Option Addr) (c1 : Nat) (w1 : World) (h1 : ParsIn w1 w1.heap.size A1 L), Calls Try.prog 6 #[.slice A1 L.length c1, .int .i64 10] w1 fun e w' => ∃ A2 c2, e = .returned (.slice A2 L.length c2) ∧ ParsAt w' w'.heap.size A2 L ∧ Below w1.heap.size w1 w') := Lib.hid (fun A1 c1 w1 h1 => by
    have := Few22_any L 10 A1 c1 w1 (by decide) (by unfold maxLen; omega) (fewHs_big hf) h1
    rwa [hid] at this)
  have HV := Lib.hid (fun (A1 : Option Addr) (c1 : Nat) (w1 : World) (h1 : ParsIn w1 w1.heap.size A1 L) => sValues_any L A1 c1 w1 hf h1)
  have HR := Lib.hid (fun (A1 : Option Addr) (c1 : Nat) (w1 : World) (h1 : ParsIn w1 w1.heap.size A1 L) => rsValues_any L A1 c1 w1 hf h1)
  have HI := Lib.hid (fun (A1 : Option Addr) (c1 : Nat) (w1 : World) (h1 : ParsIn w1 w1.heap.size A1 L) => sIs_any L A1 c1 w1 hf h1)
  have HJ := Lib.hid (fun (A1 : Option Addr) (c1 : Nat) (w1 : World) (h1 : ParsIn w1 w1.heap.size A1 L) => rsIs_any L A1 c1 w1 hf h1)
  have hvl : (sniL L).length ≤ maxLen := by
    have h1 := sni_room hf
    rw [bt_size] at h1
    have := (values_sizes (getL optName L) 100000 h1).2
    unfold maxLen
    exact Nat.le_trans this (by omega)
  have HS := Lib.hid (fun (A1 A2 : Option Addr) (c1 c2 : Nat) (w1 : World) (h1 : StrsIn w1 A1 (sniL L)) (h2 : StrsIn w1 A2 (sniL L)) => rSame_strs (sniL L) A1 A2 c1 c2 w1 hvl h1 h2)
  generalize sniL L = vs at *
  generalize noSniff L = q at *
  clear hlm hps hA hf hid hfn hvl
  go_enter Try.func3, Try.ntmps3
  go_wp2_with fail
  refine HFW.out.mono ?_
  rintro e w1 ⟨A1, c1, rfl, hA1, hb⟩
  have hA1 := hA1.isIn
  go_wp2_with fail
  refine (HF2.out A1 c1 w1 hA1).mono ?_
  rintro e w2 ⟨A2, c2, rfl, hA2, hbn⟩
  have hA2 := hA2.isIn
  have hA1 := hA1.on hbn
  have hb := hb.trans (hbn.mono hb.size)
  clear hbn
  go_wp2_with fail
  refine (HV.out A2 c2 w2 hA2).mono ?_
  rintro e w3 ⟨A3, c3, rfl, hA3, hbn⟩
  have hA1 := hA1.on hbn
  have hb := hb.trans (hbn.mono hb.size)
  clear hbn hA2
  go_wp2_with fail
  refine (HR.out A1 c1 w3 hA1).mono ?_
  rintro e w4 ⟨A4, c4, rfl, hA4, hbn⟩
  have hA1 := hA1.on hbn
  have hA3 := hA3.below hbn
  have hb := hb.trans (hbn.mono hb.size)
  clear hbn
  go_wp2_with fail
  refine (HS.out A3 A4 c3 c4 w4 hA3 hA4).mono ?_
  rintro e w5 ⟨rfl, hbn⟩
  have hA1 := hA1.on hbn
  have hb := hb.trans (hbn.mono hb.size)
  clear hbn hA3 hA4
  go_wp2_with fail
  refine (HF2.out A1 c1 w5 hA1).mono ?_
  rintro e w6 ⟨A6, c6, rfl, hA6, hbn⟩
  have hA6 := hA6.isIn
  have hA1 := hA1.on hbn
  have hb := hb.trans (hbn.mono hb.size)
  clear hbn
  go_wp2_with fail
  refine (HI.out A6 c6 w6 hA6).mono ?_
  rintro e w7 ⟨rfl, hbn⟩
  have hA1 := hA1.on hbn
  have hb := hb.trans (hbn.mono hb.size)
  clear hbn hA6
  go_wp2_with fail
  refine (HJ.out A1 c1 w7 hA1).mono ?_
  rintro e w8 ⟨rfl, hbn⟩
  have HB := Lib.hid (hb.trans (hbn.mono hb.size))
  clear hbn hA1 hb
  go_wp2_with fail
  refine (lives23_any _).mono ?_
  rintro e w9 ⟨rfl, hbn⟩
  have HBZ := Lib.hid (HB.out.trans (hbn.mono HB.out.size))
  clear hbn
  go_wp2_with fail
  go_ret
  exact ⟨rfl, HBZ.out⟩

end Go.Proofs.Ytdkkbibdjagjjaa
