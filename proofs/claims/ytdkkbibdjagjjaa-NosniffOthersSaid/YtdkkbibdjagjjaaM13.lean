/-
  Lemmas of this claim, part 13: the texts CombL, SniB, SniC, SniD, SniE, LawNosniffOthers, one behind the other.
-/
import Derived.Test.YtdkkbibdjagjjaaM12

namespace Go.Proofs.Ytdkkbibdjagjjaa
open Go.RowKit
set_option linter.unusedSimpArgs false
set_option linter.unusedVariables false

/-- The pieces, by steps that are counted. -/
def splitF : Nat → List UInt8 → List UInt8 → List ByteArray
  | 0, T, _ => [pieceB ⟨T.toArray⟩]
  | _ + 1, T, [] => [pieceB ⟨T.toArray⟩]
  | n + 1, T, b :: r => if b = 34 then splitF n (T ++ 34 :: r.take (readL r).2) (r.drop (readL r).2) else if b = 44 then pieceB ⟨T.toArray⟩ :: splitF n [] r else splitF n (T ++ [b]) r

theorem splitF_eq : ∀ (n : Nat) (T l : List UInt8), l.length ≤ n → splitF n T l = splitL T l
  | 0, T, l, h => by
    obtain rfl : l = [] := List.eq_nil_of_length_eq_zero (by omega)
    rw [splitL_end]
    rfl
  | n + 1, T, [], _ => by rw [splitL_end]; rfl
  | n + 1, T, b :: r, h => by
    rw [List.length_cons] at h
    rw [splitF]
    by_cases h34 : b = 34
    · subst h34
      rw [if_pos rfl, splitL_quote, splitF_eq n _ _ (by rw [List.length_drop]; omega)]
    · by_cases h44 : b = 44
      · subst h44
        rw [if_neg h34, if_pos rfl, splitL_comma, splitF_eq n _ _ (by omega)]
      · rw [if_neg h34, if_neg h44, splitL_other _ _ _ h34 h44, splitF_eq n _ _ (by omega)]

def parsF : Nat → Pars → List UInt8 → Pars
  | 0, ps, _ => ps
  | _ + 1, ps, [] => ps
  | n + 1, ps, b :: r => if b = 59 then parsF n (addP ps (parmStep r)) (parmStep r).2.2.2 else ps

theorem parsF_eq : ∀ (n : Nat) (ps : Pars) (l : List UInt8), l.length ≤ n → parsF n ps l = parsL ps l
  | 0, ps, l, h => by
    obtain rfl : l = [] := List.eq_nil_of_length_eq_zero (by omega)
    rw [parsL_nil]
    rfl
  | n + 1, ps, [], _ => by rw [parsL_nil]; rfl
  | n + 1, ps, b :: r, h => by
    rw [List.length_cons] at h
    rw [parsF]
    by_cases hb : b = 59
    · subst hb
      have := parmStep_len r
      rw [if_pos rfl, parsL_semi, parsF_eq n _ _ (by omega)]
    · rw [if_neg hb, parsL_other _ _ _ hb]

/-- A text's type, by steps that are counted. -/
def parseF (l0 : List UInt8) : MimeL × Nat :=
  if (trimL isWhite l0).dropWhile nslash = [] ∨ tokL ((trimL isWhite l0).takeWhile nslash) = false ∨ tokL (trimEnd isWhite (((trimL isWhite l0).dropWhile nslash).tail.takeWhile nsemi)) = false then (noM, 2)
  else (⟨lowerL ((trimL isWhite l0).takeWhile nslash), lowerL (trimEnd isWhite (((trimL isWhite l0).dropWhile nslash).tail.takeWhile nsemi)), parsF l0.length [] (((trimL isWhite l0).dropWhile nslash).tail.dropWhile nsemi)⟩, 0)

theorem parseF_eq (l : List UInt8) : parseR l = parseF l := by
  unfold parseR parseL parseF
  simp only
  split
  · rename_i m h
    split at h
    · cases h
    · rename_i hn
      injection h with h
      rw [if_neg hn, parsF_eq]
      · rw [← h]
      · have h0 := trimL_len isWhite l
        have h2 := dropWhile_len nslash (trimL isWhite l)
        have h3 := dropWhile_len nsemi ((trimL isWhite l).dropWhile nslash).tail
        rw [List.length_tail] at h3
        omega
  · rename_i h
    split at h
    · rename_i hn
      rw [if_pos hn]
    · cases h

def addF (s : ByteArray) : List MimeL := if (parseF s.data.toList).2 = 0 ∧ everyM (parseF s.data.toList).1 = false then [(parseF s.data.toList).1] else []

def allF (l : List ByteArray) : List MimeL := if l = [] then [] else (splitF (joinL l).length [] (joinL l)).flatMap addF

theorem allF_eq (l : List ByteArray) : allL l = allF l := by
  unfold allL allF valuesL
  have hf : addM = addF := by
    funext s
    unfold addM addF
    rw [parseF_eq]
  rw [hf]
  split
  · rfl
  · rw [splitF_eq _ _ _ (Nat.le_refl _)]
    rfl

def lineC : ByteArray := ⟨#[116, 101, 120, 116, 47, 104, 116, 109, 108, 59, 99, 104, 97, 114, 115, 101, 116, 61, 97, 44, 32, 116, 101, 120, 116, 47, 104, 116, 109, 108]⟩
def livC : MimeL := ⟨[116, 101, 120, 116], [104, 116, 109, 108], [(charL, [97])]⟩

theorem all_lives : allL [lineC] = [livC, ⟨[116, 101, 120, 116], [104, 116, 109, 108], []⟩] := by
  rw [allF_eq]
  kernel_rfl

theorem ext_lives : extractL [lineC] = (livC, 0) := by
  unfold extractL
  rw [all_lives, if_neg (by simp)]
  kernel_rfl

set_option maxHeartbeats 1000000 in
theorem lives11_any (w : World) : Calls Try.prog 18 #[] w fun e w' => e = .returned (.bool true) ∧ Below w.heap.size w w' := by
  have hA : StrsIn (w.alloc (.cells #[.string lineC] 9)) (some ⟨w.heap.size, 0, none⟩) [lineC] := .inr ⟨w.heap.size, 0, rfl, by simp, fun i hi => by
    have : i = 0 := by simp at hi; exact hi
    subst this
    simp [go_sem]⟩
  have HEX := Lib.hid (Extract_any [lineC] (some ⟨w.heap.size, 0, none⟩) 1 _ hA (by decide) (by decide) (by intro s hs; simp at hs; subst hs; decide) (by decide +kernel))
  rw [ext_lives] at HEX
  have hb0 := below_box w (.cells #[.string lineC] 9)
  clear hA
  unfold lineC at *
  go_enter Try.func18, Try.ntmps18
  go_wp2_with fail
  refine HEX.out.mono ?_
  rintro e w1 ⟨A, c, rfl, hA1, hb1, hf⟩
  rcases hA1 with h | ⟨g, rfl, hg, hcs⟩
  · cases h
  obtain ⟨a0, a1⟩ := hcs 0 (by decide)
  have hv : (livC.ps[0]'(by decide)).2 = [97] := rfl
  rw [hv] at a1
  have a1 : w1.cell? ⟨g, 1, none⟩ = some (.string ⟨#[97]⟩) := a1
  have HB := Lib.hid (hb0.trans (hb1.mono hb0.size))
  have hX : (w1.alloc (.cells #[.string (bt livC.t), .string (bt livC.s), .slice (some ⟨g, 0, none⟩) 1 c] 33)).heap[w1.heap.size]? = some (mimO livC (some ⟨g, 0, none⟩) c) := heap_alloc_new w1 _
  have HBX := Lib.hid (HB.out.alloc HB.out.size (.cells #[.string (bt livC.t), .string (bt livC.s), .slice (some ⟨g, 0, none⟩) 1 c] 33))
  have b1 := (cell_below (below_box w1 (.cells #[.string (bt livC.t), .string (bt livC.s), .slice (some ⟨g, 0, none⟩) 1 c] 33)) hg).trans a1
  clear hcs a0 a1 hb1 hf hb0 hv HEX
  unfold mimV
  have hl : livC.ps.length = 1 := rfl
  simp only [hl]
  go_upto_region 2 with fail
  generalize w1.alloc (.cells #[.string (bt livC.t), .string (bt livC.s), .slice (some ⟨g, 0, none⟩) 1 c] 33) = W at *
  generalize w1.heap.size = q at *
  obtain ⟨x0, x1, x2, xz, xlt⟩ := mim_cells hX
  simp only [hl] at x2
  clear hX
  go_wp2_with fail
  go_ret
  exact ⟨rfl, HBX.out⟩

end Go.Proofs.Ytdkkbibdjagjjaa

namespace Go.Proofs.Ytdkkbibdjagjjaa
open Go.RowKit
set_option linter.unusedSimpArgs false
set_option linter.unusedVariables false

theorem noSniff_nil {l : Pars} (h : sniL l = []) : noSniff l = false := by unfold noSniff; rw [h]

theorem noSniff_cons {l : Pars} {v : ByteArray} {r : List ByteArray} (h : sniL l = v :: r) : noSniff l = isSniff v := by unfold noSniff; rw [h]

theorem sni_sizes {l : Pars} (hl : FewP l) : ∀ s ∈ sniL l, s.size ≤ 100000 := by
  have := sni_room hl
  rw [bt_size] at this
  exact (values_sizes (getL optName l) 100000 this).1

theorem sniff_spelled (v : ByteArray) : ((lowerB v).toList == [110, 111, 115, 110, 105, 102, 102]) = isSniff v := by
  rw [Lib.toList_data, lowerB_data]
  rfl

theorem sis_any (l : Pars) (A : Option Addr) (c : Nat) (w : World) (hl : FewP l) (hA : ParsIn w w.heap.size A l) :
    Calls Try.prog 26 #[.slice A l.length c] w fun e w' => e = .returned (.bool (noSniff l)) ∧ Below w.heap.size w w' := by
  have HV := Lib.hid (svalues_any l A c w hl hA)
  have hs := sni_sizes hl
  have h1 := @noSniff_nil l
  have h2 := fun v r => @noSniff_cons l v r
  generalize noSniff l = q at *
  generalize sniL l = vs at *
  clear hA hl
  match vs, HV, hs, h1, h2 with
  | [], HV, hs, h1, h2 =>
    rw [h1 rfl]
    clear h1 h2
    go_enter Try.func26, Try.ntmps26
    go_wp2_with fail
    refine HV.out.mono ?_
    rintro e w2 ⟨A2, c2, rfl, _, hb⟩
    have HB := Lib.hid hb
    clear hb
    go_wp2_with fail
    go_ret
    exact ⟨rfl, HB.out⟩
  | v :: r, HV, hs, h1, h2 =>
    rw [h2 v r rfl]
    have hv := hs v (List.mem_cons_self ..)
    have HSM := Lib.hid (fun w => Same_any v sniffT w (by unfold maxLen; omega) (by decide))
    have hq : (lowerL v.data.toList == lowerL sniffT.data.toList) = isSniff v := rfl
    rw [hq] at HSM
    unfold sniffT at HSM
    generalize isSniff v = q2 at *
    have hpos : (0 : Int) < ((v :: r).length : Int) := by simp
    clear h1 h2 hs hq
    go_enter Try.func26, Try.ntmps26
    go_wp2_with fail
    refine HV.out.mono ?_
    rintro e w2 ⟨A2, c2, rfl, hA2, hb⟩
    rcases hA2 with hnil | ⟨b, off, rfl, hlt, hcs⟩
    · cases hnil
    have c0 : w2.cell? ⟨b, off, none⟩ = some (.string v) := hcs 0 (by simp)
    have HB := Lib.hid hb
    clear hb hcs
    go_wp2_with (go_at_call 39; refine Calls.mono (HSM.out _) ?_; rintro e w3 ⟨rfl, hd⟩; have HD := Lib.hid hd; clear hd)
    go_ret
    exact ⟨rfl, HB.out.trans (HD.out.below _)⟩

theorem sIs_any (l : Pars) (A : Option Addr) (c : Nat) (w : World) (hl : FewP l) (hA : ParsIn w w.heap.size A l) :
    Calls Try.prog 10 #[.slice A l.length c] w fun e w' => e = .returned (.bool (noSniff l)) ∧ Below w.heap.size w w' := by
  have HV := Lib.hid (sis_any l A c w hl hA)
  clear hl hA
  go_enter Try.func10, Try.ntmps10
  go_wp2_with fail
  refine HV.out.mono ?_
  rintro e w2 ⟨rfl, hb2⟩
  go_wp2_with fail
  go_ret
  exact ⟨rfl, hb2⟩

theorem rsIs_any (l : Pars) (A : Option Addr) (c : Nat) (w : World) (hl : FewP l) (hA : ParsIn w w.heap.size A l) :
    Calls Try.prog 11 #[.slice A l.length c] w fun e w' => e = .returned (.bool (noSniff l)) ∧ Below w.heap.size w w' := by
  have HV := Lib.hid (rsValues_any l A c w hl hA)
  have hs := sni_sizes hl
  have h1 := @noSniff_nil l
  have h2 := fun v r => @noSniff_cons l v r
  generalize noSniff l = q at *
  generalize sniL l = vs at *
  clear hA hl
  match vs, HV, hs, h1, h2 with
  | [], HV, hs, h1, h2 =>
    rw [h1 rfl]
    clear h1 h2
    go_enter Try.func11, Try.ntmps11
    go_wp2_with fail
    refine HV.out.mono ?_
    rintro e w2 ⟨A2, c2, rfl, _, hb⟩
    have HB := Lib.hid hb
    clear hb
    go_wp2_with fail
    go_ret
    exact ⟨rfl, HB.out⟩
  | v :: r, HV, hs, h1, h2 =>
    rw [h2 v r rfl]
    have hv := hs v (List.mem_cons_self ..)
    have HLO := Lib.hid (fun w => rLower_any v w (by unfold maxLen; omega) (by omega))
    have hq := sniff_spelled v
    generalize lowerB v = y at *
    generalize isSniff v = q2 at *
    have hpos : (0 : Int) < ((v :: r).length : Int) := by simp
    clear h1 h2 hs
    go_enter Try.func11, Try.ntmps11
    go_wp2_with fail
    refine HV.out.mono ?_
    rintro e w2 ⟨A2, c2, rfl, hA2, hb⟩
    rcases hA2 with hnil | ⟨b, off, rfl, hlt, hcs⟩
    · cases hnil
    have c0 : w2.cell? ⟨b, off, none⟩ = some (.string v) := hcs 0 (by simp)
    have HB := Lib.hid hb
    clear hb hcs
    go_wp2_with (go_at_call 27; refine Calls.mono (HLO.out _) ?_; rintro e w3 ⟨rfl, hd⟩; have HD := Lib.hid (HB.out.trans (hd.mono HB.out.size)); clear hd)
    go_ret
    exact ⟨rfl, HD.out⟩

def livH : Pars := [([120, 45, 99, 111, 110, 116, 101, 110, 116, 45, 116, 121, 112, 101, 45, 111, 112, 116, 105, 111, 110, 115], [78, 111, 83, 110, 105, 102, 102, 44, 32, 120])]

theorem sni_lives : noSniff livH = true := by
  unfold noSniff sniL valuesL
  rw [show getL optName livH = [⟨#[78, 111, 83, 110, 105, 102, 102, 44, 32, 120]⟩] from by kernel_rfl]
  rw [if_neg (by simp)]
  unfold splitB
  rw [← splitF_eq 10 _ _ (by decide +kernel)]
  kernel_rfl

theorem sni_lives0 : noSniff [] = false := by
  unfold noSniff sniL valuesL getL
  rfl

theorem lives23_any (w : World) : Calls Try.prog 12 #[] w fun e w' => e = .returned (.bool true) ∧ Below w.heap.size w w' := by
  have hb0 := below_box w (.cells #[.string ⟨#[120, 45, 99, 111, 110, 116, 101, 110, 116, 45, 116, 121, 112, 101, 45, 111, 112, 116, 105, 111, 110, 115]⟩, .string ⟨#[78, 111, 83, 110, 105, 102, 102, 44, 32, 120]⟩] 42)
  have hA : ParsIn (w.alloc (.cells #[.string ⟨#[120, 45, 99, 111, 110, 116, 101, 110, 116, 45, 116, 121, 112, 101, 45, 111, 112, 116, 105, 111, 110, 115]⟩, .string ⟨#[78, 111, 83, 110, 105, 102, 102, 44, 32, 120]⟩] 42)) (w.alloc (.cells #[.string ⟨#[120, 45, 99, 111, 110, 116, 101, 110, 116, 45, 116, 121, 112, 101, 45, 111, 112, 116, 105, 111, 110, 115]⟩, .string ⟨#[78, 111, 83, 110, 105, 102, 102, 44, 32, 120]⟩] 42)).heap.size (some ⟨w.heap.size, 0, none⟩) livH := .inr ⟨w.heap.size, 0, rfl, by simp, fun i hi => by
    have : i = 0 := by simp [livH] at hi; exact hi
    subst this
    constructor
    · simp [go_sem]; rfl
    · simp [go_sem]; rfl⟩
  have HI := Lib.hid (sIs_any livH (some ⟨w.heap.size, 0, none⟩) 1 _ ⟨by decide, by intro p hp; simp [livH] at hp; subst hp; exact ⟨by decide, by decide⟩⟩ hA)
  rw [sni_lives] at HI
  have HN := Lib.hid (fun w => sIs_any [] none 0 w ⟨by decide, by intro p hp; cases hp⟩ (.inl rfl))
  rw [sni_lives0] at HN
  clear hA
  go_enter Try.func12, Try.ntmps12
  go_wp2_with fail
  refine HI.out.mono ?_
  rintro e w2 ⟨rfl, hb⟩
  have HB := Lib.hid (hb0.trans (hb.mono hb0.size))
  clear hb hb0
  go_wp2_with fail
  refine (HN.out _).mono ?_
  rintro e w3 ⟨rfl, hb3⟩
  have HB3 := Lib.hid (HB.out.trans (hb3.mono HB.out.size))
  clear hb3
  go_wp2_with fail
  go_ret
  exact ⟨rfl, HB3.out⟩

end Go.Proofs.Ytdkkbibdjagjjaa

namespace Go.Proofs.Ytdkkbibdjagjjaa
open Go.RowKit
set_option linter.unusedSimpArgs false
set_option linter.unusedVariables false

def kindName : ByteArray := ⟨#[67, 111, 110, 116, 101, 110, 116, 45, 84, 121, 112, 101]⟩
def kindSmall : ByteArray := ⟨#[99, 111, 110, 116, 101, 110, 116, 45, 116, 121, 112, 101]⟩

theorem getL_kind (l : Pars) : getL kindName l = getL kindSmall l := by
  unfold getL isName
  rw [show lowerL kindName.data.toList = lowerL kindSmall.data.toList from by decide +kernel]

/-- The values of the type's header. -/
def kindL (l : Pars) : List ByteArray := getL kindName l

theorem kind_room {l : Pars} (h : FewP l) : (kindL l).length ≤ 10 ∧ (∀ s ∈ kindL l, s.size ≤ 100) ∧ (joinL (kindL l)).length ≤ 1099 := by
  obtain ⟨g1, g2⟩ := h.get kindName
  refine ⟨g1, g2, ?_⟩
  have h1 := join_len (kindL l) 100 g2
  have h3 := Nat.mul_le_mul_right (100 + 2) g1
  show (joinL (getL kindName l)).length ≤ 1099
  unfold kindL at h1
  omega

/-- The type. -/
def kindM (l : Pars) : MimeL × Bool := ((extractL (kindL l)).1, (extractL (kindL l)).2 == 0)

theorem kindM_sizes {l : Pars} (h : FewP l) : SizesM (kindM l).1 := extractL_sizes _ (kind_room h).2.2

def GivesKind (r : MimeL × Bool) (w : World) (e : Ending) (w' : World) : Prop :=
  ∃ A c, e = .returned (.tuple #[mimV r.1 A c, .bool r.2]) ∧ ParsAt w' w'.heap.size A r.1.ps ∧ Below w.heap.size w w' ∧ ∀ g, A = some ⟨g, 0, none⟩ → w.heap.size < g

set_option maxHeartbeats 1000000 in
set_option maxRecDepth 20000 in
theorem sextract_any (l : Pars) (A : Option Addr) (c : Nat) (w : World) (hl : FewP l) (hA : ParsIn w w.heap.size A l) :
    Calls Try.prog 32 #[.slice A l.length c] w fun e w' => GivesKind (kindM l) w e w' := by
  have HG := Lib.hid (fun (w1 : World) (hb : Below w.heap.size w w1) => Get_any kindName l A c w1 (Nat.le_trans hl.n (by omega)) (fun p hp => (hl.p p hp).1) (by decide) ((hA.on hb)))
  obtain ⟨k1, k2, k3⟩ := kind_room hl
  unfold kindM
  unfold kindL at *
  generalize getL kindName l = L at *
  unfold kindName at HG
  have HE := Lib.hid (fun (A1 : Option Addr) (c1 : Nat) (w1 : World) (h1 : StrsIn w1 A1 L) (h2 : L.length ≤ c1) => Extract_any L A1 c1 w1 h1 h2 (Nat.le_trans k1 (by omega)) (fun s hs => Nat.le_trans (k2 s hs) (by omega)) k3)
  generalize extractL L = X at *
  obtain ⟨M, code⟩ := X
  dsimp only at HE ⊢
  clear hA hl k1 k2 k3
  have hP : (w.alloc (.cells #[.string ⟨#[]⟩, .string ⟨#[]⟩, .slice none 0 0] 33)).heap[w.heap.size]? = some (mimO noM none 0) := heap_alloc_new w _
  have hb : Below w.heap.size w (w.alloc (.cells #[.string ⟨#[]⟩, .string ⟨#[]⟩, .slice none 0 0] 33)) := below_box w _
  go_enter Try.func32, Try.ntmps32
  go_upto_region 1 with fail
  generalize w.alloc (.cells #[.string ⟨#[]⟩, .string ⟨#[]⟩, .slice none 0 0] 33) = W at *
  go_wp2_with fail
  refine (HG.out W hb).mono ?_
  rintro e w1 ⟨A1, c1, rfl, h1, hbn, hc⟩
  have hP := (hbn.block _ (Array.getElem?_eq_some_iff.1 hP).1).trans hP
  have hb := hb.trans (hbn.mono hb.size)
  have HE1 := Lib.hid (HE.out A1 c1 w1 h1 hc)
  clear hbn h1 hc HE HG
  go_wp2_with fail
  refine HE1.out.mono ?_
  rintro e w2 ⟨A2, c2, rfl, hA2, hbn, hf⟩
  unfold mimV
  have hf : ∀ g, A2 = some ⟨g, 0, none⟩ → w.heap.size < g := fun g hg => by have h1 := hf g hg; have h2 := (Array.getElem?_eq_some_iff.1 hP).1; omega
  have hP := (hbn.block _ (Array.getElem?_eq_some_iff.1 hP).1).trans hP
  have hb := hb.trans (hbn.mono hb.size)
  have hb0 := below_box w2 (.cells #[.string (bt M.t), .string (bt M.s), .slice A2 M.ps.length c2] 33)
  have hP := (hb0.block _ (Array.getElem?_eq_some_iff.1 hP).1).trans hP
  have hb := hb.trans (hb0.mono hb.size)
  have hA2 := hA2.on hb0
  have hM : (w2.alloc (.cells #[.string (bt M.t), .string (bt M.s), .slice A2 M.ps.length c2] 33)).heap[w2.heap.size]? = some (mimO M A2 c2) := heap_alloc_new w2 _
  have HF := Lib.hid hf
  clear hbn hb0 hf HE1
  go_upto_region 2 with fail
  generalize w2.heap.size = gm at *
  generalize w2.alloc (.cells #[.string (bt M.t), .string (bt M.s), .slice A2 M.ps.length c2] 33) = W2 at *
  have HA2 := Lib.hid hA2
  have HB := Lib.hid hb
  obtain ⟨p0, p1, p2, pz, plt⟩ := mim_cells hP
  obtain ⟨m0, m1, m2, mz, mlt⟩ := mim_cells hM
  clear hP hM hA2 hb
  go_wp2_with fail
  refine bodyPost_ret (v := .tuple #[mimV M A2 c2, .bool (code == 0)]) ?_ rfl ?_
  · simp [results, Try.results32, go_sem, p0, p1, p2, mimV]
  · have hf : ∀ g, A2 = some ⟨g, 0, none⟩ → w.heap.size ≠ g := fun g hg => by have := HF.out g hg; omega
    refine ⟨A2, c2, rfl, ?_, ?_, HF.out⟩
    · exact (((HA2.out.set hf _).set hf _).set hf _).more (by simp)
    · exact ((HB.out.setCell (Nat.le_refl _) _).setCell (Nat.le_refl _) _).setCell (Nat.le_refl _) _

/-- The last value of the type's header. -/
def lastB (L : List ByteArray) : ByteArray := (L.getLast?).getD ⟨#[]⟩
def anyB (L : List ByteArray) : Bool := decide (L ≠ [])

theorem lastB_at {L : List ByteArray} (h : L ≠ []) (hk : L.length - 1 < L.length) : L[L.length - 1] = lastB L := by
  unfold lastB
  rw [List.getLast?_eq_getElem?, List.getElem?_eq_getElem hk]
  rfl

def GivesRaw (L : List ByteArray) (w : World) (e : Ending) (w' : World) : Prop :=
  e = .returned (.tuple #[.string (lastB L), .bool (anyB L)]) ∧ Below w.heap.size w w'

set_option maxHeartbeats 1000000 in
theorem sraw_any (l : Pars) (A : Option Addr) (c : Nat) (w : World) (hl : FewP l) (hA : ParsIn w w.heap.size A l) :
    Calls Try.prog 33 #[.slice A l.length c] w fun e w' => GivesRaw (kindL l) w e w' := by
  have hL10 := (hl.get kindName).1
  have HG : Hid (Calls Try.prog 47 #[.string kindName, .slice A l.length c] w fun e w' => ∃ A2 c2, e = .returned (.slice A2 (getL kindName l).length c2) ∧ StrsIn w' A2 (getL kindName l) ∧ Below w.heap.size w w') := Lib.hid ((Get_any kindName l A c w (Nat.le_trans hl.n (by omega)) (fun p hp => (hl.p p hp).1) (by decide) hA).mono (by rintro e w' ⟨A2, c2, h1, h2, h3, _⟩; exact ⟨A2, c2, h1, h2, h3⟩))
  unfold kindL
  generalize getL kindName l = L at *
  unfold kindName at HG
  clear hA hl
  by_cases h0 : L = []
  · rw [h0] at HG ⊢
    clear h0
    go_enter Try.func33, Try.ntmps33
    go_wp2_with fail
    refine HG.out.mono ?_
    rintro e w1 ⟨A1, c1, rfl, h1, hbn⟩
    have HB := Lib.hid hbn
    clear h1 hbn
    go_wp2_with fail
    go_ret2
    exact ⟨rfl, HB.out⟩
  · have hn : 0 < L.length := List.length_pos_iff.2 h0
    have h0b : (((L.length : Int)) == 0) = false := beq_eq_false_iff_ne.2 (by omega)
    have hk : L.length - 1 < L.length := by omega
    have hz := lastB_at h0 hk
    have hq : anyB L = true := decide_eq_true h0
    have hsub : (((L.length - 1 : Nat)) : Int) = (L.length : Int) - 1 := by omega
    have hi0 : (0 : Int) ≤ (L.length : Int) - 1 := by omega
    have hi1 : ((L.length : Int) - 1).toNat = L.length - 1 := by omega
    have hi2 : (L.length : Int) - 1 < (L.length : Int) := by omega
    go_enter Try.func33, Try.ntmps33
    go_wp2_with fail
    refine HG.out.mono ?_
    rintro e w1 ⟨A1, c1, rfl, h1, hbn⟩
    have HB := Lib.hid hbn
    rcases h1 with hnil | ⟨b, off, rfl, hlt, hcs⟩
    · exact absurd hnil h0
    have c0 := hcs (L.length - 1) hk
    rw [hz] at c0
    have HQ := Lib.hid hq
    clear hbn hcs hz hk hq h0
    go_wp2_with fail
    go_ret2
    exact ⟨by rw [HQ.out]; rfl, HB.out⟩

/-- Whether a server may err of a type's text. -/
def bugB (s : ByteArray) : Bool := (s.toList == [116, 101, 120, 116, 47, 112, 108, 97, 105, 110]) || (s.toList == [116, 101, 120, 116, 47, 112, 108, 97, 105, 110, 59, 32, 99, 104, 97, 114, 115, 101, 116, 61, 73, 83, 79, 45, 56, 56, 53, 57, 45, 49]) || (s.toList == [116, 101, 120, 116, 47, 112, 108, 97, 105, 110, 59, 32, 99, 104, 97, 114, 115, 101, 116, 61, 105, 115, 111, 45, 56, 56, 53, 57, 45, 49]) || (s.toList == [116, 101, 120, 116, 47, 112, 108, 97, 105, 110, 59, 32, 99, 104, 97, 114, 115, 101, 116, 61, 85, 84, 70, 45, 56])

end Go.Proofs.Ytdkkbibdjagjjaa

namespace Go.Proofs.Ytdkkbibdjagjjaa
open Go.RowKit
set_option linter.unusedSimpArgs false
set_option linter.unusedVariables false

def setB (k : Nat) : ByteArray := if k = 0 then ⟨#[73, 83, 79, 45, 56, 56, 53, 57, 45, 49]⟩ else if k = 1 then ⟨#[105, 115, 111, 45, 56, 56, 53, 57, 45, 49]⟩ else ⟨#[85, 84, 70, 45, 56]⟩

theorem setB_size (k : Nat) : (setB k).size ≤ 10 := by
  unfold setB
  split
  · decide
  · split <;> decide

def hitB (s : ByteArray) (k : Nat) : Bool := s.toList == ((⟨#[116, 101, 120, 116, 47, 112, 108, 97, 105, 110, 59, 32, 99, 104, 97, 114, 115, 101, 116, 61]⟩ : ByteArray) ++ setB k).toList

theorem bug_hit {s : ByteArray} (k : Nat) (hk : k < 3) (h : hitB s k = true) : bugB s = true := by
  unfold hitB at h
  have h2 := beq_iff_eq.1 h
  unfold bugB
  rw [h2]
  match k, hk with
  | 0, _ => decide +kernel
  | 1, _ => decide +kernel
  | 2, _ => decide +kernel

theorem bug_miss {s : ByteArray} (h0 : (s.toList == [116, 101, 120, 116, 47, 112, 108, 97, 105, 110]) = false) (h : ∀ k, k < 3 → hitB s k = false) : bugB s = false := by
  unfold bugB
  have a0 := h 0 (by omega)
  have a1 := h 1 (by omega)
  have a2 := h 2 (by omega)
  unfold hitB at a0 a1 a2
  rw [show ((⟨#[116, 101, 120, 116, 47, 112, 108, 97, 105, 110, 59, 32, 99, 104, 97, 114, 115, 101, 116, 61]⟩ : ByteArray) ++ setB 0).toList = [116, 101, 120, 116, 47, 112, 108, 97, 105, 110, 59, 32, 99, 104, 97, 114, 115, 101, 116, 61, 73, 83, 79, 45, 56, 56, 53, 57, 45, 49] from by decide +kernel] at a0
  rw [show ((⟨#[116, 101, 120, 116, 47, 112, 108, 97, 105, 110, 59, 32, 99, 104, 97, 114, 115, 101, 116, 61]⟩ : ByteArray) ++ setB 1).toList = [116, 101, 120, 116, 47, 112, 108, 97, 105, 110, 59, 32, 99, 104, 97, 114, 115, 101, 116, 61, 105, 115, 111, 45, 56, 56, 53, 57, 45, 49] from by decide +kernel] at a1
  rw [show ((⟨#[116, 101, 120, 116, 47, 112, 108, 97, 105, 110, 59, 32, 99, 104, 97, 114, 115, 101, 116, 61]⟩ : ByteArray) ++ setB 2).toList = [116, 101, 120, 116, 47, 112, 108, 97, 105, 110, 59, 32, 99, 104, 97, 114, 115, 101, 116, 61, 85, 84, 70, 45, 56] from by decide +kernel] at a2
  rw [h0, a0, a1, a2]
  rfl

def MissTo (s : ByteArray) (k : Nat) : Prop := ∀ j, j < k → hitB s j = false

theorem MissTo.next {s : ByteArray} {k : Nat} (h : MissTo s k) (hk : hitB s k = false) : MissTo s (k + 1) := fun j hj => by
  rcases Nat.lt_or_ge j k with h2 | h2
  · exact h j h2
  · have : j = k := by omega
    subst this
    exact hk

set_option maxHeartbeats 1000000 in
set_option maxRecDepth 20000 in
theorem Bug_any (s : ByteArray) (w : World) : Calls Try.prog 34 #[.string s] w fun e w' => e = .returned (.bool (bugB s)) ∧ Below w.heap.size w w' := by
  cases h0 : (s.toList == [116, 101, 120, 116, 47, 112, 108, 97, 105, 110])
  · have hm := @bug_miss s h0
    have hh := @bug_hit s
    have hW : Below w.heap.size w (w.alloc (.cells #[.string ⟨#[73, 83, 79, 45, 56, 56, 53, 57, 45, 49]⟩, .string ⟨#[105, 115, 111, 45, 56, 56, 53, 57, 45, 49]⟩, .string ⟨#[85, 84, 70, 45, 56]⟩] 9)) := below_box w _
    have hcs : ∀ k, k < 3 → (w.alloc (.cells #[.string ⟨#[73, 83, 79, 45, 56, 56, 53, 57, 45, 49]⟩, .string ⟨#[105, 115, 111, 45, 56, 56, 53, 57, 45, 49]⟩, .string ⟨#[85, 84, 70, 45, 56]⟩] 9)).cell? ⟨w.heap.size, k, none⟩ = some (.string (setB k)) := fun k hk => by
      match k, hk with
      | 0, _ => simp [go_sem]; rfl
      | 1, _ => simp [go_sem]; rfl
      | 2, _ => simp [go_sem]; rfl
    have HB := Lib.hid hW
    have HM := Lib.hid hm
    have HH := Lib.hid hh
    have HCS := Lib.hid hcs
    clear hm hh hW hcs
    go_enter Try.func34, Try.ntmps34
    go_upto_region 4 with fail
    generalize w.alloc (.cells #[.string ⟨#[73, 83, 79, 45, 56, 56, 53, 57, 45, 49]⟩, .string ⟨#[105, 115, 111, 45, 56, 56, 53, 57, 45, 49]⟩, .string ⟨#[85, 84, 70, 45, 56]⟩] 9) = W at *
    go_loopw [4, 9] (fun v i wr => ∃ k : Nat, k ≤ 3 ∧ i = .int .i64 k ∧ wr = W ∧ MissTo s k) (fun _ i _ => 3 - (intOf i).toNat)
    case atStart => exact ⟨0, by omega, rfl, rfl, fun j hj => absurd hj (by omega)⟩
    case round =>
      obtain ⟨k, hk, rfl, rfl, hms⟩ := hrel
      by_cases hlt : k < 3
      · have c0 := HCS.out k hlt
        have hltI : (k : Int) < 3 := by omega
        have hge : (0 : Int) ≤ (k : Int) := by omega
        have hsz := setB_size k
        have hc : (9223372036854775807 < 20 + (setB k).size) = False := eq_false (by omega)
        have hq : (s.toList == ((⟨#[116, 101, 120, 116, 47, 112, 108, 97, 105, 110, 59, 32, 99, 104, 97, 114, 115, 101, 116, 61]⟩ : ByteArray) ++ setB k).toList) = hitB s k := rfl
        have HK := Lib.hid (HH.out k hlt)
        have HMS := Lib.hid hms
        have HQ : Hid (∀ q, hitB s k = q → hitB s k = q) := Lib.hid (fun _ h => h)
        clear hms hsz
        cases hh : hitB s k
        · rw [hh] at hq
          have HN := Lib.hid (HMS.out.next hh)
          clear hh HK HQ HMS
          go_wp2_with fail
          go_roundw
          all_goals first
            | exact ⟨k + 1, by omega, by go_num, rfl, HN.out⟩
            | (simp [intOf]; omega)
            | (simp; exact ⟨k + 1, by omega, by omega, HN.out⟩)
        · rw [hh] at hq
          have HV := Lib.hid (HK.out hh)
          clear hh HK HQ HMS
          go_wp2_with fail
          go_ret
          exact ⟨by rw [HV.out]; rfl, HB.out⟩
      · obtain rfl : k = 3 := by omega
        have HV := Lib.hid (HM.out hms)
        clear hms
        go_wp2_with fail
        go_ret
        exact ⟨by rw [HV.out]; rfl, HB.out⟩
  · have HV : Hid (bugB s = true) := Lib.hid (by unfold bugB; rw [h0]; rfl)
    go_enter Try.func34, Try.ntmps34
    go_wp2_with fail
    go_ret
    exact ⟨by rw [HV.out]; rfl, Below.refl _ _⟩

/-- What is said of a body. -/
def saidV (M : MimeL) (A : Option Addr) (c : Nat) (h n b : Bool) : Value := .agg #[.string (bt M.t), .string (bt M.s), .slice A M.ps.length c, .bool h, .bool n, .bool b]

def saidO (M : MimeL) (A : Option Addr) (c : Nat) (h n b : Bool) : Obj := .cells #[.string (bt M.t), .string (bt M.s), .slice A M.ps.length c, .bool h, .bool n, .bool b] 44 (0, 0)

theorem said_cells {w : World} {g : Nat} {m : MimeL} {A : Option Addr} {c : Nat} {h n b : Bool} (hh : w.heap[g]? = some (saidO m A c h n b)) :
    w.cell? ⟨g, 0, none⟩ = some (.string (bt m.t)) ∧ w.cell? ⟨g, 1, none⟩ = some (.string (bt m.s)) ∧ w.cell? ⟨g, 2, none⟩ = some (.slice A m.ps.length c) ∧ w.cell? ⟨g, 3, none⟩ = some (.bool h) ∧ w.cell? ⟨g, 4, none⟩ = some (.bool n) ∧ w.cell? ⟨g, 5, none⟩ = some (.bool b) ∧ (∀ i, w.frozen? ⟨g, i, none⟩ = false) ∧ g < w.heap.size := by
  refine ⟨?_, ?_, ?_, ?_, ?_, ?_, ?_, (Array.getElem?_eq_some_iff.1 hh).1⟩
  · rw [Lib.cell_of_heap hh]; rfl
  · rw [Lib.cell_of_heap hh]; rfl
  · rw [Lib.cell_of_heap hh]; rfl
  · rw [Lib.cell_of_heap hh]; rfl
  · rw [Lib.cell_of_heap hh]; rfl
  · rw [Lib.cell_of_heap hh]; rfl
  · exact fun i => Lib.frozen_of_heap hh i

/-- What all headers say. -/
def saidN (l : Pars) : Bool := bugB (lastB (kindL l))

def GivesSaid (l : Pars) (w : World) (e : Ending) (w' : World) : Prop :=
  ∃ A c, e = .returned (saidV (kindM l).1 A c (kindM l).2 (noSniff l) (saidN l)) ∧ ParsAt w' w'.heap.size A (kindM l).1.ps ∧ Below w.heap.size w w'

set_option maxHeartbeats 2000000 in
set_option maxRecDepth 20000 in
theorem Said_any (l : Pars) (A : Option Addr) (c : Nat) (w : World) (hl : FewP l) (hA : ParsIn w w.heap.size A l) :
    Calls Try.prog 20 #[.slice A l.length c] w fun e w' => GivesSaid l w e w' := by
  have HE := Lib.hid (fun (w1 : World) (hb : Below w.heap.size w w1) => sextract_any l A c w1 hl (hA.on hb))
  have HR := Lib.hid (fun (w1 : World) (hb : Below w.heap.size w w1) => sraw_any l A c w1 hl (hA.on hb))
  have HI := Lib.hid (fun (w1 : World) (hb : Below w.heap.size w w1) => sis_any l A c w1 hl (hA.on hb))
  have HBU := Lib.hid (fun (w1 : World) => Bug_any (lastB (kindL l)) w1)
  unfold GivesSaid saidN
  generalize bugB (lastB (kindL l)) = bu at *
  generalize noSniff l = ns at *
  generalize kindM l = X at *
  unfold GivesRaw at HR
  generalize lastB (kindL l) = S at *
  generalize anyB (kindL l) = an at *
  obtain ⟨M, code⟩ := X
  dsimp only at HE ⊢
  clear hA hl
  have hP : (w.alloc (.cells #[.string ⟨#[]⟩, .string ⟨#[]⟩, .slice none 0 0, .bool false, .bool false, .bool false] 44)).heap[w.heap.size]? = some (saidO noM none 0 false false false) := heap_alloc_new w _
  have hb : Below w.heap.size w (w.alloc (.cells #[.string ⟨#[]⟩, .string ⟨#[]⟩, .slice none 0 0, .bool false, .bool false, .bool false] 44)) := below_box w _
  go_enter Try.func20, Try.ntmps20
  go_upto_region 1 with fail
  generalize w.alloc (.cells #[.string ⟨#[]⟩, .string ⟨#[]⟩, .slice none 0 0, .bool false, .bool false, .bool false] 44) = W at *
  go_wp2_with fail
  refine (HE.out W hb).mono ?_
  rintro e w2 ⟨A2, c2, rfl, hA2, hbn, hf⟩
  have hf : M.ps = [] ∨ ∀ g, A2 = some ⟨g, 0, none⟩ → w.heap.size < g := .inr (fun g hg => by have h1 := hf g hg; have h2 := (Array.getElem?_eq_some_iff.1 hP).1; omega)
  unfold mimV
  have hP := (hbn.block _ (Array.getElem?_eq_some_iff.1 hP).1).trans hP
  have hb := hb.trans (hbn.mono hb.size)
  have hb0 := below_box w2 (.cells #[.string (bt M.t), .string (bt M.s), .slice A2 M.ps.length c2] 33)
  have hP := (hb0.block _ (Array.getElem?_eq_some_iff.1 hP).1).trans hP
  have hb := hb.trans (hb0.mono hb.size)
  have hA2 := hA2.on hb0
  have hM : (w2.alloc (.cells #[.string (bt M.t), .string (bt M.s), .slice A2 M.ps.length c2] 33)).heap[w2.heap.size]? = some (mimO M A2 c2) := heap_alloc_new w2 _
  have HF := Lib.hid hf
  clear hbn hb0 hf
  go_upto_region 2 with fail
  generalize w2.heap.size = gm at *
  generalize w2.alloc (.cells #[.string (bt M.t), .string (bt M.s), .slice A2 M.ps.length c2] 33) = W2 at *
  go_wp2_with fail
  refine (HR.out W2 hb).mono ?_
  rintro e w3 ⟨rfl, hbn⟩
  have hP := (hbn.block _ (Array.getElem?_eq_some_iff.1 hP).1).trans hP
  have hM := (hbn.block _ (Array.getElem?_eq_some_iff.1 hM).1).trans hM
  have hA2 := hA2.on hbn
  have hb := hb.trans (hbn.mono hb.size)
  have HP := Lib.hid hP; have HM := Lib.hid hM; have HA2 := Lib.hid hA2; have HB := Lib.hid hb
  obtain ⟨p0, p1, p2, p3, p4, p5, -, pz⟩ := said_cells hP
  obtain ⟨m0, m1, m2, -, mz⟩ := mim_cells hM
  clear hbn hP hM hA2 hb
  go_upto_region 3 with fail
  refine wp_region_N 7 (fun w' => w'.cell? ⟨gm, 0, none⟩ = some (.string (bt M.t)) ∧ w'.cell? ⟨gm, 1, none⟩ = some (.string (bt M.s)) ∧ w'.cell? ⟨gm, 2, none⟩ = some (.slice A2 M.ps.length c2)) (by kernel_rfl) (by kernel_rfl) ⟨m0, m1, m2⟩ ?_
  (refine NJ.take (i := 0) (v := ?_) rfl rfl (by kernel_rfl) (by kernel_rfl) (by kernel_rfl) (by kernel_rfl) (fun _ _ _ h => h) (Or.inl ⟨by rfl, ?_⟩) ?_; rotate_left; (focus (intro wS hSw; (try dsimp only at hSw); go_simp; first | done | with_reducible rfl)); (try simp only [Act.put, List.getElem_toArray, List.getElem_cons_zero, List.getElem_cons_succ, List.setIfInBounds_toArray, List.set_cons_zero, List.set_cons_succ]))
  (refine NJ.take (i := 1) (v := ?_) rfl rfl (by kernel_rfl) (by kernel_rfl) (by kernel_rfl) (by kernel_rfl) (fun _ _ _ h => h) (Or.inl ⟨by rfl, ?_⟩) ?_; rotate_left; (focus (intro wS hSw; (try dsimp only at hSw); go_simp; first | done | with_reducible rfl)); (try simp only [Act.put, List.getElem_toArray, List.getElem_cons_zero, List.getElem_cons_succ, List.setIfInBounds_toArray, List.set_cons_zero, List.set_cons_succ]))
  (refine NJ.take (i := 2) (v := ?_) rfl rfl (by kernel_rfl) (by kernel_rfl) (by kernel_rfl) (by kernel_rfl) (fun _ _ _ h => h) (Or.inl ⟨by rfl, ?_⟩) ?_; rotate_left; (focus (intro wS hSw; (try dsimp only at hSw); go_simp; first | done | with_reducible rfl)); (try simp only [Act.put, List.getElem_toArray, List.getElem_cons_zero, List.getElem_cons_succ, List.setIfInBounds_toArray, List.set_cons_zero, List.set_cons_succ]))
  (refine NJ.take (i := 4) (v := ?_) rfl rfl (by kernel_rfl) (by kernel_rfl) (by kernel_rfl) (by kernel_rfl) (fun _ _ _ h => h) (Or.inl ⟨by rfl, ?_⟩) ?_; rotate_left; (focus (intro wS hSw; (try dsimp only at hSw); go_simp; first | done | with_reducible rfl)); (try simp only [Act.put, List.getElem_toArray, List.getElem_cons_zero, List.getElem_cons_succ, List.setIfInBounds_toArray, List.set_cons_zero, List.set_cons_succ]))
  refine NJ.step (i := 3) rfl rfl (by kernel_rfl) (fun hSat K hK => ?_)
  go_simp
  refine Calls.mono (HI.out _ HB.out.drew) ?_
  rintro e w4 ⟨rfl, hb4⟩
  have hbn := hb2_fix hb4
  have HB4 := Lib.hid hbn
  clear hb4
  go_wp2_with fail
  refine hK.out _ _ ?_ ?_
  · exact ⟨(cell_below hbn mz).trans m0, (cell_below hbn mz).trans m1, (cell_below hbn mz).trans m2⟩
  clear hK hSat K
  (try simp only [Act.put, List.getElem_toArray, List.getElem_cons_zero, List.getElem_cons_succ, List.setIfInBounds_toArray, List.set_cons_zero, List.set_cons_succ])
  clear hbn
  refine NJ.step (i := 5) rfl rfl (by kernel_rfl) (fun hSat K hK => ?_)
  go_simp
  refine Calls.mono (HBU.out _) ?_
  rintro e w5 ⟨rfl, hb5⟩
  have hbn := HB4.out.trans (hb5.mono HB4.out.size)
  clear hb5
  have hP5 := (hbn.block _ pz).trans HP.out
  have HA5 := Lib.hid (HA2.out.on hbn)
  have HB5 := Lib.hid (HB.out.trans (hbn.mono HB.out.size))
  obtain ⟨q0, q1, q2, q3, q4, q5, fq, qz⟩ := said_cells hP5
  clear hP5
  go_wp2_with fail
  refine hK.out _ _ ?_ ?_
  · exact ⟨(cell_below hbn mz).trans m0, (cell_below hbn mz).trans m1, (cell_below hbn mz).trans m2⟩
  clear hK hSat K
  (try simp only [Act.put, List.getElem_toArray, List.getElem_cons_zero, List.getElem_cons_succ, List.setIfInBounds_toArray, List.set_cons_zero, List.set_cons_succ])
  (refine NJ.take (i := 6) (v := ?_) rfl rfl (by kernel_rfl) (by kernel_rfl) (by kernel_rfl) (by kernel_rfl) (fun _ _ _ h => h) (Or.inl ⟨by rfl, ?_⟩) ?_; rotate_left; (focus (intro wS hSw; (try dsimp only at hSw); go_simp; first | done | with_reducible rfl)); (try simp only [Act.put, List.getElem_toArray, List.getElem_cons_zero, List.getElem_cons_succ, List.setIfInBounds_toArray, List.set_cons_zero, List.set_cons_succ]))
  clear hbn m0 m1 m2 p0 p1 p2 p3 p4 p5
  (refine NJ.last rfl (by kernel_rfl) (by kernel_rfl) (fun hSat K hK => ?_); go_simp; refine hK.out _ _ ?_; clear hK hSat K; (try simp only [Act.put, List.getElem_toArray, List.getElem_cons_zero, List.getElem_cons_succ, List.setIfInBounds_toArray, List.set_cons_zero, List.set_cons_succ]))
  go_wp2_with fail
  refine bodyPost_ret (v := saidV M A2 c2 code ns bu) ?_ rfl ?_
  · simp [results, Try.results20, go_sem, q0, q1, q2, q3, q4, q5, mimV, saidV]
  · have hf : M.ps = [] ∨ ∀ g, A2 = some ⟨g, 0, none⟩ → w.heap.size ≠ g := HF.out.imp id (fun h g hg => by have := h g hg; omega)
    refine ⟨A2, c2, rfl, ?_, ?_⟩
    · exact ((((((HA5.out.set3 hf _).set3 hf _).set3 hf _).set3 hf _).set3 hf _).set3 hf _).more (by simp)
    · exact (((((HB5.out.setCell (Nat.le_refl _) _).setCell (Nat.le_refl _) _).setCell (Nat.le_refl _) _).setCell (Nat.le_refl _) _).setCell (Nat.le_refl _) _).setCell (Nat.le_refl _) _

end Go.Proofs.Ytdkkbibdjagjjaa

namespace Go.Proofs.Ytdkkbibdjagjjaa
open Go.RowKit
set_option linter.unusedSimpArgs false
set_option linter.unusedVariables false

/-- Headers without those of a name. -/
def cutL (name : ByteArray) (l : Pars) : Pars := l.filter (fun p => !isName name p)

theorem cutL_snoc (name : ByteArray) (l : Pars) (k : Nat) (h : k < l.length) : cutL name (l.take (k + 1)) = cutL name (l.take k) ++ (if isName name l[k] = true then [] else [l[k]]) := by
  unfold cutL
  rw [← List.take_append_getElem h, List.filter_append]
  congr 1
  cases hq : isName name l[k] <;> simp [hq]

theorem cutL_len (name : ByteArray) (l : Pars) : (cutL name l).length ≤ l.length := List.length_filter_le _ _

theorem cutL_few {l : Pars} (h : FewP l) (name : ByteArray) : FewP (cutL name l) :=
  ⟨Nat.le_trans (cutL_len name l) h.n, fun p hp => h.p p (List.mem_filter.1 hp).1⟩

theorem getL_cut {nm : List UInt8} {o : ByteArray} (h : (lowerL nm == lowerL o.data.toList) = false) (l : Pars) : getL o (cutL (bt nm) l) = getL o l := by
  unfold getL cutL
  rw [List.filter_filter]
  congr 1
  apply List.filter_congr
  intro p hp
  cases ho : isName o p
  · rfl
  · have h1 : lowerL p.1 = lowerL o.data.toList := beq_iff_eq.1 ho
    have h2 : isName (bt nm) p = false := by
      show (lowerL p.1 == lowerL (bt nm).data.toList) = false
      rw [h1, show (bt nm).data.toList = nm from bt_list nm]
      refine beq_eq_false_iff_ne.2 (fun h3 => ?_)
      rw [h3] at h
      simp at h
    rw [h2]
    rfl

theorem kindL_cut {nm : List UInt8} (h : (lowerL nm == lowerL kindSmall.data.toList) = false) (l : Pars) : kindL (cutL (bt nm) l) = kindL l := by
  unfold kindL
  rw [getL_kind, getL_kind, getL_cut h]

theorem sniL_cut {nm : List UInt8} (h : (lowerL nm == lowerL optSmall.data.toList) = false) (l : Pars) : sniL (cutL (bt nm) l) = sniL l := by
  unfold sniL
  rw [getL_opt, getL_opt, getL_cut h]

set_option maxHeartbeats 2000000 in
set_option maxRecDepth 20000 in
theorem rCut22_any (name : ByteArray) (l : Pars) (A : Option Addr) (c : Nat) (w : World) (hl : l.length ≤ 1000) (hps : ∀ p ∈ l, p.1.length ≤ 1000) (hn : name.size ≤ 1000) (hA : ParsIn w w.heap.size A l) :
    Calls Try.prog 21 #[.string name, .slice A l.length c] w fun e w' => ∃ A2 c2, e = .returned (.slice A2 (cutL name l).length c2) ∧ ParsAt w' w'.heap.size A2 (cutL name l) ∧ Below w.heap.size w w' := by
  obtain ⟨i0, hi, hz0, hz1, hz2⟩ := info_parts infoHead
  have HI := Lib.hid hi; have HZ0 := Lib.hid hz0; have HZ1 := Lib.hid hz1; have HZ2 := Lib.hid hz2
  clear hi hz0 hz1 hz2
  have HPS := Lib.hid hps
  have HA := Lib.hid hA
  clear hA hps
  go_enter Try.func21, Try.ntmps21
  go_wp2
  go_loopw [5, 6] (fun v i wr => ∃ k : Nat, k ≤ l.length ∧ i = .int .i64 k ∧ wr.ownsRow w.heap.size 42 2 v (cutL name (l.take k)).length (rowQ (cutL name (l.take k))) ∧ Below w.heap.size w wr) (fun _ i _ => l.length - (intOf i).toNat)
  case atStart => exact ⟨0, Nat.zero_le _, rfl, by simpa [cutL, rowQ] using World.ownsRow_lit (base := w.heap.size) (e := 42) (size := 2) w #[] 0 (Nat.le_refl _) (Nat.zero_le _) rfl, (Below.refl _ _).alloc (Nat.le_refl _) _⟩
  case round =>
    obtain ⟨k, hk, rfl, hrow, hb⟩ := hrel
    by_cases hlt : k < l.length
    · rcases HA.out.below hb with hnil | ⟨g, off, rfl, hg, hcs⟩
      · rw [hnil] at hlt; simp at hlt
      obtain ⟨c0, c1⟩ := hcs k hlt
      have hz := hb.size
      have HB := Lib.hid hb
      have HROW := Lib.hid hrow
      have hsn := Lib.hid (cutL_snoc name l k hlt)
      have hlen := cutL_len name (l.take k)
      rw [List.length_take] at hlen
      have HN1 := Lib.hid (rIs22_any l[k] name wr (HPS.out l[k] (List.getElem_mem _)) hn)
      clear hcs hb hrow
      go_wp2_with fail
      refine HN1.out.mono ?_
      rintro e w2 ⟨rfl, hb2⟩
      have HB2 := Lib.hid (HB.out.trans (hb2.mono hz))
      have HROW2 := Lib.hid (row_stands HROW.out (fun j _ hj => hb2.block j hj))
      have d0 := (cell_below hb2 (Nat.lt_of_lt_of_le hg hz)).trans c0
      have d1 := (cell_below hb2 (Nat.lt_of_lt_of_le hg hz)).trans c1
      have hz2 := HB2.out.size
      clear hb2 c0 c1 HN1
      cases hin : isName name l[k]
      · have HSN : Hid (cutL name (l.take (k + 1)) = cutL name (l.take k) ++ [l[k]]) := Lib.hid (by rw [hsn.out, if_neg (by rw [hin]; simp)])
        have k0 := Lib.hid (HROW2.out.alloc (.cells #[.string (bt l[k].1), .string (bt l[k].2)] 42))
        have k1 : Hid (∀ (j : Nat) (u : Value), (parCells l[k])[j]? = some u → (w2.alloc (.cells #[.string (bt l[k].1), .string (bt l[k].2)] 42)).cell? ((⟨w2.heap.size, 0, none⟩ : Addr).add j) = some u) := Lib.hid (par_cells_new w2 l[k] 42)
        have k2 := Lib.hid (show ∀ u ∈ parCells l[k], u.oneCell' = true from by intro u hu; simp [parCells] at hu; rcases hu with rfl | rfl <;> rfl)
        have k3 := Lib.hid (show (cutL name (l.take k)).length + 1 ≤ maxLen from by unfold maxLen; omega)
        have k4 := Lib.hid (show ((cutL name (l.take k)).length + 1) * 32 ≤ 140737488355328 from by omega)
        have k5 : Hid (w.heap.size ≤ (w2.alloc (.cells #[.string (bt l[k].1), .string (bt l[k].2)] 42)).heap.size) := Lib.hid (by simp; omega)
        clear hsn hin
        go_wp2_with (at_builtin; refine wpList_append_lies _ rfl (.tmp 21) (.tmp 26) 22 rfl w.heap.size 42 i0 (.agg #[.string ByteArray.empty, .string ByteArray.empty]) 2 32 Try.underlying22 HI.out HZ0.out HZ1.out HZ2.out rfl (by decide) _ _ _ rfl k0.out ⟨w2.heap.size, 0, none⟩ 1 1 _ rfl rfl k1.out k2.out (by decide) k3.out k4.out k5.out _ rfl ?_; intro g3 c3 w3 hown hgrow hat hlt3; have HO := Lib.hid hown; have HB3 := Lib.hid ((HB2.out.alloc hz2 (.cells #[.string (bt l[k].1), .string (bt l[k].2)] 42)).grown hgrow (by simp; omega) (fun j hj => (HROW2.out.lt j hj).1)); clear hown hgrow hat hlt3)
        go_roundw
        case rel => exact ⟨k + 1, by omega, by go_num, by rw [HSN.out, rowQ_snoc, List.length_append]; exact HO.out, HB3.out⟩
        case measure => simp [intOf]; omega
      · have HSN : Hid (cutL name (l.take (k + 1)) = cutL name (l.take k)) := Lib.hid (by rw [hsn.out, if_pos hin, List.append_nil])
        clear hsn hin
        go_wp2_with fail
        go_roundw
        case rel => exact ⟨k + 1, by omega, by go_num, by rw [HSN.out]; exact HROW2.out, HB2.out⟩
        case measure => simp [intOf]; omega
    · obtain rfl : k = l.length := by omega
      rw [List.take_of_length_le (Nat.le_refl _)] at hrow
      obtain ⟨A2, c2, hv, hA2⟩ := pars_of_own hrow rfl
      have HP := Lib.hid hA2
      have HB := Lib.hid hb
      clear hrow hA2 hb
      subst hv
      go_wp2_with fail
      go_ret
      exact ⟨A2, c2, rfl, HP.out, HB.out⟩

end Go.Proofs.Ytdkkbibdjagjjaa

namespace Go.Proofs.Ytdkkbibdjagjjaa
open Go.RowKit
set_option linter.unusedSimpArgs false
set_option linter.unusedVariables false

theorem fewQ_big {l : Pars} (h : FewP l) : ∀ p ∈ l, (bt p.1).size ≤ maxLen ∧ (bt p.2).size ≤ maxLen := fun p hp => by
  have := h.p p hp
  rw [bt_size, bt_size]
  unfold maxLen
  omega

theorem kindM_cut {nm : List UInt8} (h : (lowerL nm == lowerL kindSmall.data.toList) = false) (l : Pars) : kindM (cutL (bt nm) l) = kindM l := by
  unfold kindM
  rw [kindL_cut h]

theorem saidN_cut {nm : List UInt8} (h : (lowerL nm == lowerL kindSmall.data.toList) = false) (l : Pars) : saidN (cutL (bt nm) l) = saidN l := by
  unfold saidN
  rw [kindL_cut h]

theorem noSniff_cut {nm : List UInt8} (h : (lowerL nm == lowerL optSmall.data.toList) = false) (l : Pars) : noSniff (cutL (bt nm) l) = noSniff l := by
  unfold noSniff
  rw [sniL_cut h]

set_option maxHeartbeats 4000000 in
set_option maxRecDepth 20000 in
theorem nosniffOthers_walk (l : Pars) (A : Option Addr) (c : Nat) (nm : List UInt8) (w : World) (hlm : l.length ≤ maxLen) (hps : ∀ p ∈ l, (bt p.1).size ≤ maxLen ∧ (bt p.2).size ≤ maxLen) (hA : ParsIn w w.heap.size A l) :
    Calls Try.prog 5 #[.slice A l.length c, .string (bt nm)] w fun e w' => e = .returned (.bool true) ∧ Below w.heap.size w w' := by
  have HFW := Lib.hid (Few22_any l 10 A c w (by decide) hlm hps hA)
  have hf := fewHs_few l
  have hid := fewHs_idem 10 l
  generalize fewHs 10 l = L at *
  have hfn := hf.n
  clear hlm hps hA
  by_cases h20 : 20 < (bt nm).size
  · have h20i : (20 : Int) < ((bt nm).size : Int) := by omega
    clear hf hid hfn
    go_enter Try.func5, Try.ntmps5
    go_wp2_with fail
    refine HFW.out.mono ?_
    rintro e w1 ⟨A1, c1, rfl, hA1, hb⟩
    have HB := Lib.hid hb
    clear hA1 hb HFW
    go_wp2_with fail
    refine (lives23_any _).mono ?_
    rintro e w2 ⟨rfl, hbn⟩
    have HBZ := Lib.hid (HB.out.trans (hbn.mono HB.out.size))
    clear hbn
    go_wp2_with fail
    go_ret
    exact ⟨rfl, HBZ.out⟩
  have h20b : ¬ (20 : Int) < ((bt nm).size : Int) := by omega
  have hnl : nm.length ≤ 20 := by rw [bt_size] at h20; omega
  have HI1 : Hid (∀ w, Calls Try.prog 19 #[.agg #[.string (bt nm), .string ⟨#[]⟩], .string kindSmall] w fun e w' => e = .returned (.bool (lowerL nm == lowerL kindSmall.data.toList)) ∧ Below w.heap.size w w') := Lib.hid (fun w => rIs22_any (nm, []) kindSmall w (Nat.le_trans hnl (by omega)) (by decide))
  have HI2 : Hid (∀ w, Calls Try.prog 19 #[.agg #[.string (bt nm), .string ⟨#[]⟩], .string optSmall] w fun e w' => e = .returned (.bool (lowerL nm == lowerL optSmall.data.toList)) ∧ Below w.heap.size w w') := Lib.hid (fun w => rIs22_any (nm, []) optSmall w (Nat.le_trans hnl (by omega)) (by decide))
  cases q1 : (lowerL nm == lowerL kindSmall.data.toList)
  case true =>
    rw [q1] at HI1
    unfold kindSmall at HI1
    clear hf hid hfn HI2 q1
    go_enter Try.func5, Try.ntmps5
    go_wp2_with fail
    refine HFW.out.mono ?_
    rintro e w1 ⟨A1, c1, rfl, hA1, hb⟩
    have HB := Lib.hid hb
    clear hA1 hb HFW
    go_wp2_with fail
    refine (HI1.out _).mono ?_
    rintro e w2 ⟨rfl, hbn⟩
    have HB2 := Lib.hid (HB.out.trans (hbn.mono HB.out.size))
    clear hbn
    go_wp2_with fail
    refine (lives23_any _).mono ?_
    rintro e w3 ⟨rfl, hbn⟩
    have HBZ := Lib.hid (HB2.out.trans (hbn.mono HB2.out.size))
    clear hbn
    go_wp2_with fail
    go_ret
    exact ⟨rfl, HBZ.out⟩
  cases q2 : (lowerL nm == lowerL optSmall.data.toList)
  case true =>
    rw [q1] at HI1
    rw [q2] at HI2
    unfold kindSmall at HI1
    unfold optSmall at HI2
    clear hf hid hfn q1 q2
    go_enter Try.func5, Try.ntmps5
    go_wp2_with fail
    refine HFW.out.mono ?_
    rintro e w1 ⟨A1, c1, rfl, hA1, hb⟩
    have HB := Lib.hid hb
    clear hA1 hb HFW
    go_wp2_with fail
    refine (HI1.out _).mono ?_
    rintro e w2 ⟨rfl, hbn⟩
    have HB2 := Lib.hid (HB.out.trans (hbn.mono HB.out.size))
    clear hbn
    go_wp2_with fail
    refine (HI2.out _).mono ?_
    rintro e w3 ⟨rfl, hbn⟩
    have HB3 := Lib.hid (HB2.out.trans (hbn.mono HB2.out.size))
    clear hbn
    go_wp2_with fail
    refine (lives23_any _).mono ?_
    rintro e w4 ⟨rfl, hbn⟩
    have HBZ := Lib.hid (HB3.out.trans (hbn.mono HB3.out.size))
    clear hbn
    go_wp2_with fail
    go_ret
    exact ⟨rfl, HBZ.out⟩
  have HF2 : Hid (∀ (A1 : Option Addr) (c1 : Nat) (w1 : World) (h1 : ParsIn w1 w1.heap.size A1 L), Calls Try.prog 6 #[.slice A1 L.length c1, .int .i64 10] w1 fun e w' => ∃ A2 c2, e = .returned (.slice A2 L.length c2) ∧ ParsAt w' w'.heap.size A2 L ∧ Below w1.heap.size w1 w') := Lib.hid (fun A1 c1 w1 h1 => by
    have := Few22_any L 10 A1 c1 w1 (by decide) (by unfold maxLen; omega) (fewQ_big hf) h1
    rwa [hid] at this)
  have HS1 := Lib.hid (fun (A1 : Option Addr) (c1 : Nat) (w1 : World) (h1 : ParsIn w1 w1.heap.size A1 L) => Said_any L A1 c1 w1 hf h1)
  have HCU := Lib.hid (fun (A1 : Option Addr) (c1 : Nat) (w1 : World) (h1 : ParsIn w1 w1.heap.size A1 L) => rCut22_any (bt nm) L A1 c1 w1 (Nat.le_trans hfn (by omega)) (fun p hp => (hf.p p hp).1) (by rw [bt_size]; omega) h1)
  have HS2 := Lib.hid (fun (A1 : Option Addr) (c1 : Nat) (w1 : World) (h1 : ParsIn w1 w1.heap.size A1 (cutL (bt nm) L)) => Said_any (cutL (bt nm) L) A1 c1 w1 (cutL_few hf _) h1)
  have hsz := kindM_sizes hf
  unfold GivesSaid at HS1 HS2
  rw [kindM_cut q1, noSniff_cut q2, saidN_cut q1] at HS2
  rw [q1] at HI1
  rw [q2] at HI2
  unfold kindSmall at HI1
  unfold optSmall at HI2
  generalize saidN L = bu at *
  generalize noSniff L = ns at *
  generalize kindM L = X at *
  generalize cutL (bt nm) L = C at *
  obtain ⟨M, hs⟩ := X
  dsimp only at HS1 HS2 hsz
  have HSAME := Lib.hid (fun (A1 A2 : Option Addr) (c1 c2 : Nat) (w1 : World) (h1 : ParsAt w1 w1.heap.size A1 M.ps) (h2 : ParsAt w1 w1.heap.size A2 M.ps) => rSame_par M M A1 A2 c1 c2 w1 hsz hsz h1 h2)
  simp only [sameM_self] at HSAME
  unfold mimV at HSAME
  clear hf hid hfn hsz q1 q2
  go_enter Try.func5, Try.ntmps5
  go_wp2_with fail
  refine HFW.out.mono ?_
  rintro e w1 ⟨A1, c1, rfl, hA1, hb⟩
  have hA1 := hA1.isIn
  go_wp2_with fail
  refine (HI1.out _).mono ?_
  rintro e w2 ⟨rfl, hbn⟩
  replace hA1 := hA1.on hbn
  replace hb := hb.trans (hbn.mono hb.size)
  clear hbn
  go_wp2_with fail
  refine (HI2.out _).mono ?_
  rintro e w3 ⟨rfl, hbn⟩
  replace hA1 := hA1.on hbn
  replace hb := hb.trans (hbn.mono hb.size)
  clear hbn
  go_wp2_with fail
  refine (HF2.out A1 c1 w3 hA1).mono ?_
  rintro e w4 ⟨A2, c2, rfl, hA2, hbn⟩
  have hA2 := hA2.isIn
  replace hA1 := hA1.on hbn
  replace hb := hb.trans (hbn.mono hb.size)
  clear hbn
  go_wp2_with fail
  refine (HS1.out A2 c2 w4 hA2).mono ?_
  rintro e w5 ⟨A3, c3, rfl, hA3, hbn⟩
  unfold saidV
  replace hA1 := hA1.on hbn
  replace hb := hb.trans (hbn.mono hb.size)
  clear hbn hA2
  go_wp2_with fail
  refine (HCU.out A1 c1 w5 hA1).mono ?_
  rintro e w6 ⟨A5, c5, rfl, hA5, hbn⟩
  have hA5 := hA5.isIn
  replace hA3 := hA3.on hbn
  replace hb := hb.trans (hbn.mono hb.size)
  clear hbn hA1
  go_wp2_with fail
  refine (HS2.out A5 c5 w6 hA5).mono ?_
  rintro e w7 ⟨A4, c4, rfl, hA4, hbn⟩
  unfold saidV
  replace hA3 := hA3.on hbn
  replace hb := hb.trans (hbn.mono hb.size)
  clear hbn hA5
  have hbn : Below w7.heap.size w7 ((w7.alloc (.cells #[.string (bt M.t), .string (bt M.s), .slice A3 M.ps.length c3, .bool hs, .bool ns, .bool bu] 44)).alloc (.cells #[.string (bt M.t), .string (bt M.s), .slice A4 M.ps.length c4, .bool hs, .bool ns, .bool bu] 44)) := (below_box _ _).alloc (by simp) _
  have hX : ((w7.alloc (.cells #[.string (bt M.t), .string (bt M.s), .slice A3 M.ps.length c3, .bool hs, .bool ns, .bool bu] 44)).alloc (.cells #[.string (bt M.t), .string (bt M.s), .slice A4 M.ps.length c4, .bool hs, .bool ns, .bool bu] 44)).heap[w7.heap.size]? = some (saidO M A3 c3 hs ns bu) := (Below.heap_alloc _ _ _ (by simp)).trans (heap_alloc_new w7 _)
  have hY : ((w7.alloc (.cells #[.string (bt M.t), .string (bt M.s), .slice A3 M.ps.length c3, .bool hs, .bool ns, .bool bu] 44)).alloc (.cells #[.string (bt M.t), .string (bt M.s), .slice A4 M.ps.length c4, .bool hs, .bool ns, .bool bu] 44)).heap[w7.heap.size + 1]? = some (saidO M A4 c4 hs ns bu) := by
    rw [show w7.heap.size + 1 = (w7.alloc (.cells #[.string (bt M.t), .string (bt M.s), .slice A3 M.ps.length c3, .bool hs, .bool ns, .bool bu] 44)).heap.size by simp]
    exact heap_alloc_new _ _
  replace hA3 := hA3.on hbn
  replace hA4 := hA4.on hbn
  replace hb := hb.trans (hbn.mono hb.size)
  clear hbn HS1 HS2 HF2 HCU
  go_upto_region 5 with fail
  generalize (w7.alloc (.cells #[.string (bt M.t), .string (bt M.s), .slice A3 M.ps.length c3, .bool hs, .bool ns, .bool bu] 44)).alloc (.cells #[.string (bt M.t), .string (bt M.s), .slice A4 M.ps.length c4, .bool hs, .bool ns, .bool bu] 44) = W at *
  generalize w7.heap.size + 1 = gy at *
  generalize w7.heap.size = gx at *
  have HX := Lib.hid hX; have HY := Lib.hid hY; have HB := Lib.hid hb
  have HS6 := Lib.hid (HSAME.out A3 A4 c3 c4 W hA3 hA4)
  obtain ⟨x0, x1, x2, x3, x4, x5, -, xz⟩ := said_cells hX
  obtain ⟨y0, y1, y2, y3, y4, y5, -, yz⟩ := said_cells hY
  clear hX hY hb hA3 hA4
  go_wp2_with fail
  refine HS6.out.mono ?_
  rintro e w11 ⟨rfl, hbn⟩
  have HB3 := Lib.hid (HB.out.trans (hbn.mono HB.out.size))
  have hX := (hbn.block _ xz).trans HX.out
  have hY := (hbn.block _ yz).trans HY.out
  clear hbn x0 x1 x2 x3 x4 x5 xz y0 y1 y2 y3 y4 y5 yz
  obtain ⟨x0, x1, x2, x3, x4, x5, -, xz⟩ := said_cells hX
  obtain ⟨y0, y1, y2, y3, y4, y5, -, yz⟩ := said_cells hY
  clear hX hY
  go_wp2_with fail
  refine (lives23_any _).mono ?_
  rintro e w12 ⟨rfl, hbn⟩
  have HBZ := Lib.hid (HB3.out.trans (hbn.mono HB3.out.size))
  clear hbn
  go_wp2_with fail
  go_ret
  exact ⟨rfl, HBZ.out⟩

end Go.Proofs.Ytdkkbibdjagjjaa
