/-
  Lemmas of this claim, part 12: the texts CombL, LastIn2, LawCombineSteps, MimeOpen, one behind the other.
-/
import Derived.Test.YtdkkbibdjagjjaaM11
import Derived.Deep.Slices
import Derived.Lib.SmallJoins

namespace Go.Proofs.Ytdkkbibdjagjjaa
open Go.RowKit
set_option linter.unusedSimpArgs false
set_option linter.unusedVariables false

/-- The pieces, by steps that are counted. -/
def splitF : Nat → List UInt8 → List UInt8 → List ByteArray
  | 0, T, _ => [pieceB ⟨T.toArray⟩]
  | _ + 1, T, [] => [pieceB ⟨T.toArray⟩]
  | n + 1, T, b :: r => if b = 34 then splitF n (T ++ 34 :: r.take (readL r).2) (r.drop (readL r).2) else if b = 44 then pieceB ⟨T.toArray⟩ :: splitF n [] r else splitF n (T ++ [b]) r

theorem splitF_eq : ∀ (n : Nat) (T l : List UInt8), l.length ≤ n → splitF n T l = splitL T l
  | 0, T, l, h => by
    obtain rfl : l = [] := List.eq_nil_of_length_eq_zero (by omega)
    rw [splitL_end]
    rfl
  | n + 1, T, [], _ => by rw [splitL_end]; rfl
  | n + 1, T, b :: r, h => by
    rw [List.length_cons] at h
    rw [splitF]
    by_cases h34 : b = 34
    · subst h34
      rw [if_pos rfl, splitL_quote, splitF_eq n _ _ (by rw [List.length_drop]; omega)]
    · by_cases h44 : b = 44
      · subst h44
        rw [if_neg h34, if_pos rfl, splitL_comma, splitF_eq n _ _ (by omega)]
      · rw [if_neg h34, if_neg h44, splitL_other _ _ _ h34 h44, splitF_eq n _ _ (by omega)]

def parsF : Nat → Pars → List UInt8 → Pars
  | 0, ps, _ => ps
  | _ + 1, ps, [] => ps
  | n + 1, ps, b :: r => if b = 59 then parsF n (addP ps (parmStep r)) (parmStep r).2.2.2 else ps

theorem parsF_eq : ∀ (n : Nat) (ps : Pars) (l : List UInt8), l.length ≤ n → parsF n ps l = parsL ps l
  | 0, ps, l, h => by
    obtain rfl : l = [] := List.eq_nil_of_length_eq_zero (by omega)
    rw [parsL_nil]
    rfl
  | n + 1, ps, [], _ => by rw [parsL_nil]; rfl
  | n + 1, ps, b :: r, h => by
    rw [List.length_cons] at h
    rw [parsF]
    by_cases hb : b = 59
    · subst hb
      have := parmStep_len r
      rw [if_pos rfl, parsL_semi, parsF_eq n _ _ (by omega)]
    · rw [if_neg hb, parsL_other _ _ _ hb]

/-- A text's type, by steps that are counted. -/
def parseF (l0 : List UInt8) : MimeL × Nat :=
  if (trimL isWhite l0).dropWhile nslash = [] ∨ tokL ((trimL isWhite l0).takeWhile nslash) = false ∨ tokL (trimEnd isWhite (((trimL isWhite l0).dropWhile nslash).tail.takeWhile nsemi)) = false then (noM, 2)
  else (⟨lowerL ((trimL isWhite l0).takeWhile nslash), lowerL (trimEnd isWhite (((trimL isWhite l0).dropWhile nslash).tail.takeWhile nsemi)), parsF l0.length [] (((trimL isWhite l0).dropWhile nslash).tail.dropWhile nsemi)⟩, 0)

theorem parseF_eq (l : List UInt8) : parseR l = parseF l := by
  unfold parseR parseL parseF
  simp only
  split
  · rename_i m h
    split at h
    · cases h
    · rename_i hn
      injection h with h
      rw [if_neg hn, parsF_eq]
      · rw [← h]
      · have h0 := trimL_len isWhite l
        have h2 := dropWhile_len nslash (trimL isWhite l)
        have h3 := dropWhile_len nsemi ((trimL isWhite l).dropWhile nslash).tail
        rw [List.length_tail] at h3
        omega
  · rename_i h
    split at h
    · rename_i hn
      rw [if_pos hn]
    · cases h

def addF (s : ByteArray) : List MimeL := if (parseF s.data.toList).2 = 0 ∧ everyM (parseF s.data.toList).1 = false then [(parseF s.data.toList).1] else []

def allF (l : List ByteArray) : List MimeL := if l = [] then [] else (splitF (joinL l).length [] (joinL l)).flatMap addF

theorem allF_eq (l : List ByteArray) : allL l = allF l := by
  unfold allL allF valuesL
  have hf : addM = addF := by
    funext s
    unfold addM addF
    rw [parseF_eq]
  rw [hf]
  split
  · rfl
  · rw [splitF_eq _ _ _ (Nat.le_refl _)]
    rfl

def lineC : ByteArray := ⟨#[116, 101, 120, 116, 47, 104, 116, 109, 108, 59, 99, 104, 97, 114, 115, 101, 116, 61, 97, 44, 32, 116, 101, 120, 116, 47, 104, 116, 109, 108]⟩
def livC : MimeL := ⟨[116, 101, 120, 116], [104, 116, 109, 108], [(charL, [97])]⟩

theorem all_lives : allL [lineC] = [livC, ⟨[116, 101, 120, 116], [104, 116, 109, 108], []⟩] := by
  rw [allF_eq]
  kernel_rfl

theorem ext_lives : extractL [lineC] = (livC, 0) := by
  unfold extractL
  rw [all_lives, if_neg (by simp)]
  kernel_rfl

set_option maxHeartbeats 1000000 in
theorem lives11_any (w : World) : Calls Try.prog 18 #[] w fun e w' => e = .returned (.bool true) ∧ Below w.heap.size w w' := by
  have hA : StrsIn (w.alloc (.cells #[.string lineC] 9)) (some ⟨w.heap.size, 0, none⟩) [lineC] := .inr ⟨w.heap.size, 0, rfl, by simp, fun i hi => by
    have : i = 0 := by simp at hi; exact hi
    subst this
    simp [go_sem]⟩
  have HEX := Lib.hid (Extract_any [lineC] (some ⟨w.heap.size, 0, none⟩) 1 _ hA (by decide) (by decide) (by intro s hs; simp at hs; subst hs; decide) (by decide +kernel))
  rw [ext_lives] at HEX
  have hb0 := below_box w (.cells #[.string lineC] 9)
  clear hA
  unfold lineC at *
  go_enter Try.func18, Try.ntmps18
  go_wp2_with fail
  refine HEX.out.mono ?_
  rintro e w1 ⟨A, c, rfl, hA1, hb1, hf⟩
  rcases hA1 with h | ⟨g, rfl, hg, hcs⟩
  · cases h
  obtain ⟨a0, a1⟩ := hcs 0 (by decide)
  have hv : (livC.ps[0]'(by decide)).2 = [97] := rfl
  rw [hv] at a1
  have a1 : w1.cell? ⟨g, 1, none⟩ = some (.string ⟨#[97]⟩) := a1
  have HB := Lib.hid (hb0.trans (hb1.mono hb0.size))
  have hX : (w1.alloc (.cells #[.string (bt livC.t), .string (bt livC.s), .slice (some ⟨g, 0, none⟩) 1 c] 33)).heap[w1.heap.size]? = some (mimO livC (some ⟨g, 0, none⟩) c) := heap_alloc_new w1 _
  have HBX := Lib.hid (HB.out.alloc HB.out.size (.cells #[.string (bt livC.t), .string (bt livC.s), .slice (some ⟨g, 0, none⟩) 1 c] 33))
  have b1 := (cell_below (below_box w1 (.cells #[.string (bt livC.t), .string (bt livC.s), .slice (some ⟨g, 0, none⟩) 1 c] 33)) hg).trans a1
  clear hcs a0 a1 hb1 hf hb0 hv HEX
  unfold mimV
  have hl : livC.ps.length = 1 := rfl
  simp only [hl]
  go_upto_region 2 with fail
  generalize w1.alloc (.cells #[.string (bt livC.t), .string (bt livC.s), .slice (some ⟨g, 0, none⟩) 1 c] 33) = W at *
  generalize w1.heap.size = q at *
  obtain ⟨x0, x1, x2, xz, xlt⟩ := mim_cells hX
  simp only [hl] at x2
  clear hX
  go_wp2_with fail
  go_ret
  exact ⟨rfl, HBX.out⟩

end Go.Proofs.Ytdkkbibdjagjjaa

namespace Go.Proofs.Ytdkkbibdjagjjaa
open Go.RowKit
set_option linter.unusedSimpArgs false
set_option linter.unusedVariables false

section
variable {P : Program} {ops : Array Oper} {Q : Exit → Act → World → Prop} {md : Region.Mode} {S : World → Prop} {n : Nat}

/-- The first of the last ones. -/
theorem NJ.over {o : Oper} {fuel : Nat} {listed : Array Bool} {a : Act} {w : World} (ho : ops[n]? = some o) (hr : Region.ready md ops listed = [n])
    (h : S w → ∀ K' : Act → World → Prop, Shut (∀ a w, wpAnyN P md ops Q S n fuel (listed.setIfInBounds n true) a w → K' a w) → if Region.wanted o (yielded ops a.tmps) = true then Oper.wp P o a w K' Q else K' (a.put o.dst undef) w) :
    NJ P md ops Q S n (fuel + 1) listed a w := by
  intro inv hS
  refine ⟨fun h0 => (by rw [hr] at h0; cases h0), fun j hj => ?_⟩
  have hj2 : j = n := by rw [hr] at hj; simpa using hj
  subst hj2
  exact wpOp_step ho (fun K' hK => h hS K' (fun a w hq => hK a w ⟨fun hlt => absurd hlt (Nat.lt_irrefl _), hq⟩))

theorem wpAnyN_tail {i : Nat} {o : Oper} {fuel : Nat} {listed : Array Bool} {a : Act} {w : World} (ho : ops[i]? = some o) (hge : decide (n ≤ i) = true) (hr : Region.ready md ops listed = [i])
    (h : ∀ K' : Act → World → Prop, Shut (∀ a w, wpAnyN P md ops Q S n fuel (listed.setIfInBounds i true) a w → K' a w) → if Region.wanted o (yielded ops a.tmps) = true then Oper.wp P o a w K' Q else K' (a.put o.dst undef) w) :
    wpAnyN P md ops Q S n (fuel + 1) listed a w := by
  have hge2 : n ≤ i := of_decide_eq_true hge
  refine ⟨fun h0 => (by rw [hr] at h0; cases h0), fun j hj => ?_⟩
  have hj2 : j = i := by rw [hr] at hj; simpa using hj
  subst hj2
  exact wpOp_step ho (fun K' hK => h K' (fun a w hq => hK a w ⟨fun hlt => absurd hlt (Nat.not_lt.2 hge2), hq⟩))

theorem wpAnyN_fin {fuel : Nat} {listed : Array Bool} {a : Act} {w : World} (hr : Region.ready md ops listed = []) (h : Q .normal a w) : wpAnyN P md ops Q S n fuel listed a w := by
  cases fuel with
  | zero => exact ⟨hr, h⟩
  | succ f => exact ⟨fun _ => h, fun i hi => (by rw [hr] at hi; cases hi)⟩

end

end Go.Proofs.Ytdkkbibdjagjjaa

namespace Go.Proofs.Ytdkkbibdjagjjaa
open Go.RowKit
set_option linter.unusedSimpArgs false
set_option linter.unusedVariables false

theorem ParsAt.put3 {w : World} {B : Nat} {A : Option Addr} {l : Pars} (h : ParsAt w B A l) {b : Nat} (hp : ∀ g, A = some ⟨g, 0, none⟩ → b ≠ g) (u v z : Value) : ParsAt (((w.setCell ⟨b, 0, none⟩ u).setCell ⟨b, 1, none⟩ v).setCell ⟨b, 2, none⟩ z) B A l :=
  ((h.set hp u).set hp v).set hp z

theorem heap_put3 {w : World} {b : Nat} {x y z u v r : Value} {t : TypeId} (h : w.heap[b]? = some (.cells #[x, y, z] t (0, 0))) : (((w.setCell ⟨b, 0, none⟩ u).setCell ⟨b, 1, none⟩ v).setCell ⟨b, 2, none⟩ r).heap[b]? = some (.cells #[u, v, r] t (0, 0)) := by
  simp [World.setCell, Array.getElem?_modify, h]

theorem heap_off3 {w : World} {b k : Nat} {o : Obj} {u v r : Value} (hn : b ≠ k) (h : w.heap[k]? = some o) : (((w.setCell ⟨b, 0, none⟩ u).setCell ⟨b, 1, none⟩ v).setCell ⟨b, 2, none⟩ r).heap[k]? = some o := by
  simp [World.setCell, Array.getElem?_modify, hn, h]

/-- The two types in their blocks. -/
def TwoS (w : World) (m o : MimeL) (wx : World) : Prop :=
  ∃ A c A2 c2, wx.heap[w.heap.size]? = some (mimO m A c) ∧ wx.heap[w.heap.size + 1]? = some (mimO o A2 c2) ∧
    ParsAt wx wx.heap.size A m.ps ∧ ParsAt wx wx.heap.size A2 o.ps ∧ Below w.heap.size w wx

/-- What a step gives, laid in a block. -/
def StepAt (V : World) (X : MimeL × List UInt8) (g b : Value) (wx : World) : Prop :=
  ∃ k A c, g = .pointer (some ⟨k, 0, none⟩) ∧ b = .string (bt X.2) ∧ V.heap.size ≤ k ∧ wx.heap[k]? = some (mimO X.1 A c) ∧ ParsAt wx wx.heap.size A X.1.ps ∧ Below V.heap.size V wx

theorem StepAt.put {V u : World} {X : MimeL × List UInt8} {m0 : MimeL} {k c c0 : Nat} {A A0 : Option Addr} (hk : V.heap.size ≤ k) (hh : u.heap[k]? = some (mimO m0 A0 c0)) (hA : ParsAt u u.heap.size A X.1.ps) (hf : ∀ g, A = some ⟨g, 0, none⟩ → k < g) (hb : Below V.heap.size V u) :
    StepAt V X (.pointer (some ⟨k, 0, none⟩)) (.string (bt X.2)) (((u.setCell ⟨k, 0, none⟩ (.string (bt X.1.t))).setCell ⟨k, 1, none⟩ (.string (bt X.1.s))).setCell ⟨k, 2, none⟩ (.slice A X.1.ps.length c)) :=
  ⟨k, A, c, rfl, rfl, hk, heap_put3 hh, (hA.put3 (fun g hg => by have := hf g hg; omega) _ _ _).more (by simp), ((hb.setCell hk _).setCell hk _).setCell hk _⟩

theorem StepAt.new {V u : World} {X : MimeL × List UInt8} {c : Nat} {A : Option Addr} (hA : ParsAt u u.heap.size A X.1.ps) (hb : Below V.heap.size V u) :
    StepAt V X (.pointer (some ⟨u.heap.size, 0, none⟩)) (.string (bt X.2)) (u.alloc (.cells #[.string (bt X.1.t), .string (bt X.1.s), .slice A X.1.ps.length c] 33)) :=
  ⟨u.heap.size, A, c, rfl, rfl, hb.size, heap_alloc_new u _, hA.on (below_box u _), hb.alloc hb.size _⟩

theorem fewM_fit (m : MimeL) : FitM 999 (fewM m) := by
  refine ⟨?_, ?_, ?_, fun p hp => ?_⟩
  · show (m.t.take 30).length ≤ 999
    rw [List.length_take]; omega
  · show (m.s.take 30).length ≤ 999
    rw [List.length_take]; omega
  · show ((m.ps.take 6).map fewQ).length ≤ 999
    rw [List.length_map, List.length_take]; omega
  · obtain ⟨q, _, rfl⟩ := List.mem_map.1 hp
    show (q.1.take 20).length ≤ 999 ∧ (q.2.take 30).length ≤ 999
    rw [List.length_take, List.length_take]; omega

set_option maxHeartbeats 1000000 in
set_option maxRecDepth 20000 in
theorem Step_any (m n : MimeL) (A A2 : Option Addr) (c c2 : Nat) (set : List UInt8) (w : World) (hm : SizesM m) (hn : SizesM n) (hl : n.ps.length ≤ 999) (hs : set.length ≤ 1000) (hA : ParsAt w w.heap.size A m.ps) (hA2 : ParsAt w w.heap.size A2 n.ps) :
    Calls Try.prog 15 #[mimV m A c, .string (bt set), mimV n A2 c2] w fun e w' => GivesStep (stepL m set n) w e w' := by
  have HS := Lib.hid (fun (w1 : World) (hb : Below w.heap.size w w1) => step_any m n A A2 c c2 set w1 hm hn hl hs (hA.on hb) (hA2.on hb))
  clear hm hn hl hs hA hA2
  generalize stepL m set n = X at *
  unfold mimV at HS ⊢
  generalize bt set = S at *
  go_enter Try.func15, Try.ntmps15
  go_upto_region 1 with fail
  have hP : (((w.alloc (.cells #[.string (bt m.t), .string (bt m.s), .slice A m.ps.length c] 33)).alloc (.cells #[.string (bt n.t), .string (bt n.s), .slice A2 n.ps.length c2] 33)).alloc (.cells #[.string ⟨#[]⟩, .string ⟨#[]⟩, .slice none 0 0] 33)).heap[w.heap.size]? = some (mimO m A c) := (Below.heap_alloc _ _ _ (by simp; omega)).trans ((Below.heap_alloc _ _ _ (by simp)).trans (heap_alloc_new w _))
  have hN : (((w.alloc (.cells #[.string (bt m.t), .string (bt m.s), .slice A m.ps.length c] 33)).alloc (.cells #[.string (bt n.t), .string (bt n.s), .slice A2 n.ps.length c2] 33)).alloc (.cells #[.string ⟨#[]⟩, .string ⟨#[]⟩, .slice none 0 0] 33)).heap[w.heap.size + 1]? = some (mimO n A2 c2) := (Below.heap_alloc _ _ _ (by simp)).trans (by
    rw [show w.heap.size + 1 = (w.alloc (.cells #[.string (bt m.t), .string (bt m.s), .slice A m.ps.length c] 33)).heap.size by simp]
    exact heap_alloc_new _ _)
  have hR : (((w.alloc (.cells #[.string (bt m.t), .string (bt m.s), .slice A m.ps.length c] 33)).alloc (.cells #[.string (bt n.t), .string (bt n.s), .slice A2 n.ps.length c2] 33)).alloc (.cells #[.string ⟨#[]⟩, .string ⟨#[]⟩, .slice none 0 0] 33)).heap[w.heap.size + 1 + 1]? = some (mimO noM none 0) := by
    rw [show w.heap.size + 1 + 1 = ((w.alloc (.cells #[.string (bt m.t), .string (bt m.s), .slice A m.ps.length c] 33)).alloc (.cells #[.string (bt n.t), .string (bt n.s), .slice A2 n.ps.length c2] 33)).heap.size by simp]
    exact heap_alloc_new _ _
  have hb : Below w.heap.size w (((w.alloc (.cells #[.string (bt m.t), .string (bt m.s), .slice A m.ps.length c] 33)).alloc (.cells #[.string (bt n.t), .string (bt n.s), .slice A2 n.ps.length c2] 33)).alloc (.cells #[.string ⟨#[]⟩, .string ⟨#[]⟩, .slice none 0 0] 33)) := ((below_box _ _).alloc (by simp) _).alloc (by simp; omega) _
  generalize (((w.alloc (.cells #[.string (bt m.t), .string (bt m.s), .slice A m.ps.length c] 33)).alloc (.cells #[.string (bt n.t), .string (bt n.s), .slice A2 n.ps.length c2] 33)).alloc (.cells #[.string ⟨#[]⟩, .string ⟨#[]⟩, .slice none 0 0] 33)) = W at *
  obtain ⟨p0, p1, p2, pz, plt⟩ := mim_cells hP
  obtain ⟨n0, n1, n2, nz, nlt⟩ := mim_cells hN
  obtain ⟨r0, r1, r2, rz, rlt⟩ := mim_cells hR
  have HO := Lib.hid (HS.out W hb)
  go_wp2_with fail
  refine HO.out.mono ?_
  rintro e w5 ⟨A3, c3, rfl, hA3, hbn, hf⟩
  unfold mimV
  have HF : Hid (∀ g, A3 = some ⟨g, 0, none⟩ → w.heap.size + 1 + 1 < g) := Lib.hid (fun g hg => by have := hf g hg; omega)
  have HA3 := Lib.hid hA3
  have hR := (hbn.block _ rlt).trans hR
  have HB := Lib.hid (hb.trans (hbn.mono hb.size))
  clear hA3 hf hbn p0 p1 p2 pz plt n0 n1 n2 nz nlt r0 r1 r2 rz rlt hP hN
  obtain ⟨r0, r1, r2, rz, rlt⟩ := mim_cells hR
  go_wp2_with fail
  refine bodyPost_ret (v := .tuple #[mimV X.1 A3 c3, .string (bt X.2)]) ?_ rfl ?_
  · simp [results, Try.results15, go_sem, r0, r1, r2, mimV]
  · have hf : ∀ g, A3 = some ⟨g, 0, none⟩ → w.heap.size + 1 + 1 ≠ g := fun g hg => by have := HF.out g hg; omega
    refine ⟨A3, c3, rfl, ?_, ?_, fun g hg => by have := HF.out g hg; omega⟩
    · exact (((HA3.out.set hf _).set hf _).set hf _).more (by simp)
    · exact ((HB.out.setCell (show w.heap.size ≤ w.heap.size + 1 + 1 by omega) _).setCell (show w.heap.size ≤ w.heap.size + 1 + 1 by omega) _).setCell (show w.heap.size ≤ w.heap.size + 1 + 1 by omega) _

set_option maxHeartbeats 8000000 in
set_option maxRecDepth 20000 in
theorem combineSteps_walk (m o : MimeL) (A A2 : Option Addr) (c c2 : Nat) (set : List UInt8) (w : World) (hm : BigM m) (ho : BigM o) (hs : (bt set).size ≤ maxLen) (hA : ParsIn w w.heap.size A m.ps) (hA2 : ParsIn w w.heap.size A2 o.ps) :
    Calls Try.prog 4 #[mimV m A c, mimV o A2 c2, .string (bt set)] w fun e w' => e = .returned (.bool true) ∧ Below w.heap.size w w' := by
  have HFM := Lib.hid (fun (w1 : World) (hb : Below w.heap.size w w1) => Few10_any m A c w1 hm (hA.on hb))
  have HFO := Lib.hid (fun (w1 : World) (hb : Below w.heap.size w w1) => Few10_any o A2 c2 w1 ho (hA2.on hb))
  have HCT : Hid (∀ w, Calls Try.prog 14 #[.string (bt set), .int .i64 20] w fun e w' => e = .returned (.string (bt (set.take 20))) ∧ w = w') := Lib.hid (fun w => by have := Cut_any (bt set) 20 w hs (by decide); rw [cut_bt] at this; exact this)
  have hmz := fewM_sizes m
  have hoz := fewM_sizes o
  have hmb : BigM (fewM m) := by obtain ⟨a, b, c, d⟩ := fewM_big m; exact ⟨a, b, c, d⟩
  have hob : BigM (fewM o) := by obtain ⟨a, b, c, d⟩ := fewM_big o; exact ⟨a, b, c, d⟩
  have hofit := fewM_fit o
  have hon := hofit.n
  have hmi := fewM_idem m
  have hoi := fewM_idem o
  have hsl : (set.take 20).length ≤ 999 := by rw [List.length_take]; omega
  clear hm ho hA hA2 hs
  unfold mimV at HFM HFO ⊢
  generalize fewM m = m2 at *
  generalize fewM o = o2 at *
  generalize set.take 20 = x2 at *
  generalize bt set = S0 at *
  go_enter Try.func4, Try.ntmps4
  go_upto_region 1 with fail
  generalize hW : (w.alloc (.cells #[.string (bt m.t), .string (bt m.s), .slice A m.ps.length c] 33)).alloc (.cells #[.string (bt o.t), .string (bt o.s), .slice A2 o.ps.length c2] 33) = W
  have hP : W.heap[w.heap.size]? = some (mimO m A c) := by
    rw [← hW]; exact (Below.heap_alloc _ _ _ (by simp)).trans (heap_alloc_new w _)
  have hO : W.heap[w.heap.size + 1]? = some (mimO o A2 c2) := by
    rw [← hW, show w.heap.size + 1 = (w.alloc (.cells #[.string (bt m.t), .string (bt m.s), .slice A m.ps.length c] 33)).heap.size by simp]
    exact heap_alloc_new _ _
  have hWB : Below w.heap.size w W := by rw [← hW]; exact (below_box _ _).alloc (by simp) _
  have hWz : W.heap.size = w.heap.size + 2 := by rw [← hW]; simp
  clear hW
  have HP := Lib.hid hP; have HO := Lib.hid hO; have HWB := Lib.hid hWB; have HWZ := Lib.hid hWz
  clear hP hO hWB hWz
  go_cut [2] (fun s wx => s = .string (bt x2) ∧ TwoS w m2 o2 wx)
  case first =>
    obtain ⟨p0, p1, p2, -, pz⟩ := mim_cells HP.out
    obtain ⟨o0, o1, o2', -, oz⟩ := mim_cells HO.out
    refine wp_region_N 6 (fun w' => w'.cell? ⟨w.heap.size, 0, none⟩ = some (.string (bt m.t)) ∧ w'.cell? ⟨w.heap.size, 1, none⟩ = some (.string (bt m.s)) ∧ w'.cell? ⟨w.heap.size, 2, none⟩ = some (.slice A m.ps.length c) ∧ w'.cell? ⟨w.heap.size + 1, 0, none⟩ = some (.string (bt o.t)) ∧ w'.cell? ⟨w.heap.size + 1, 1, none⟩ = some (.string (bt o.s)) ∧ w'.cell? ⟨w.heap.size + 1, 2, none⟩ = some (.slice A2 o.ps.length c2)) (by kernel_rfl) (by kernel_rfl) ⟨p0, p1, p2, o0, o1, o2'⟩ ?_
    (refine NJ.take (i := 0) (v := ?_) rfl rfl (by kernel_rfl) (by kernel_rfl) (by kernel_rfl) (by kernel_rfl) (fun _ _ _ h => h) (Or.inl ⟨by rfl, ?_⟩) ?_; rotate_left; (focus (intro wS hSw; (try dsimp only at hSw); go_simp; first | done | with_reducible rfl)); (try simp only [Act.put, List.getElem_toArray, List.getElem_cons_zero, List.getElem_cons_succ, List.setIfInBounds_toArray, List.set_cons_zero, List.set_cons_succ]))
    (refine NJ.take (i := 2) (v := ?_) rfl rfl (by kernel_rfl) (by kernel_rfl) (by kernel_rfl) (by kernel_rfl) (fun _ _ _ h => h) (Or.inl ⟨by rfl, ?_⟩) ?_; rotate_left; (focus (intro wS hSw; (try dsimp only at hSw); go_simp; first | done | with_reducible rfl)); (try simp only [Act.put, List.getElem_toArray, List.getElem_cons_zero, List.getElem_cons_succ, List.setIfInBounds_toArray, List.set_cons_zero, List.set_cons_succ]))
    (refine NJ.take (i := 4) (v := ?_) rfl rfl (by kernel_rfl) (by kernel_rfl) (by kernel_rfl) (by kernel_rfl) (fun _ _ _ h => h) (Or.inl ⟨by rfl, ?_⟩) ?_; rotate_left; (focus (intro wS hSw; (try dsimp only at hSw); go_simp; first | done | with_reducible rfl)); (try simp only [Act.put, List.getElem_toArray, List.getElem_cons_zero, List.getElem_cons_succ, List.setIfInBounds_toArray, List.set_cons_zero, List.set_cons_succ]))
    refine NJ.step (i := 1) rfl rfl (by kernel_rfl) (fun hSat K hK => ?_)
    go_simp
    refine Calls.mono (HFM.out _ HWB.out.drew) ?_
    rintro e w1 ⟨A3, c3, rfl, hA3, hb3, hg3⟩
    have hbn := below_undrew hb3
    have HA3 := Lib.hid hA3
    have HB1 := Lib.hid hbn
    have HG3 := Lib.hid hg3
    clear hA3 hb3 hg3
    go_wp2_with fail
    refine hK.out _ _ ?_ ?_
    · exact ⟨(cell_below hbn pz).trans p0, (cell_below hbn pz).trans p1, (cell_below hbn pz).trans p2, (cell_below hbn oz).trans o0, (cell_below hbn oz).trans o1, (cell_below hbn oz).trans o2'⟩
    clear hK hSat K
    (try simp only [Act.put, List.getElem_toArray, List.getElem_cons_zero, List.getElem_cons_succ, List.setIfInBounds_toArray, List.set_cons_zero, List.set_cons_succ])
    clear hbn
    refine NJ.step (i := 3) rfl rfl (by kernel_rfl) (fun hSat K hK => ?_)
    go_simp
    refine Calls.mono (HFO.out _ (HWB.out.trans (HB1.out.mono (by have := HWZ.out; omega)))) ?_
    rintro e w2 ⟨A4, c4, rfl, hA4, hb4, hg4⟩
    have hbn := HB1.out.trans (hb4.mono HB1.out.size)
    have HA4 := Lib.hid hA4
    have HB4 := Lib.hid hb4
    have HB2 := Lib.hid hbn
    have HG4 := Lib.hid hg4
    go_wp2_with fail
    refine hK.out _ _ ?_ ?_
    · exact ⟨(cell_below hbn pz).trans p0, (cell_below hbn pz).trans p1, (cell_below hbn pz).trans p2, (cell_below hbn oz).trans o0, (cell_below hbn oz).trans o1, (cell_below hbn oz).trans o2'⟩
    clear hK hSat K
    (try simp only [Act.put, List.getElem_toArray, List.getElem_cons_zero, List.getElem_cons_succ, List.setIfInBounds_toArray, List.set_cons_zero, List.set_cons_succ])
    refine NJ.step (i := 5) rfl rfl (by kernel_rfl) (fun hSat K hK => ?_)
    go_simp
    refine Calls.mono (HCT.out _) ?_
    rintro e w3 ⟨rfl, rfl⟩
    have q0 := (cell_below (o := 0) hbn pz).trans p0
    have q1 := (cell_below (o := 1) hbn pz).trans p1
    have q2 := (cell_below (o := 2) hbn pz).trans p2
    have q3 := (cell_below (o := 0) hbn oz).trans o0
    have q4 := (cell_below (o := 1) hbn oz).trans o1
    have q5 := (cell_below (o := 2) hbn oz).trans o2'
    have hP2 := (hbn.block _ pz).trans HP.out
    have hO2 := (hbn.block _ oz).trans HO.out
    have fq : ∀ i, w2.frozen? ⟨w.heap.size, i, none⟩ = false := fun i => Lib.frozen_of_heap hP2 i
    have fr : ∀ i, w2.frozen? ⟨w.heap.size + 1, i, none⟩ = false := fun i => Lib.frozen_of_heap hO2 i
    have HP2 := Lib.hid hP2
    have HO2 := Lib.hid hO2
    clear hA4 hb4 hg4 hP2 hO2
    go_wp2_with fail
    refine hK.out _ _ ?_ ?_
    · exact ⟨(cell_below hbn pz).trans p0, (cell_below hbn pz).trans p1, (cell_below hbn pz).trans p2, (cell_below hbn oz).trans o0, (cell_below hbn oz).trans o1, (cell_below hbn oz).trans o2'⟩
    clear hK hSat K
    (try simp only [Act.put, List.getElem_toArray, List.getElem_cons_zero, List.getElem_cons_succ, List.setIfInBounds_toArray, List.set_cons_zero, List.set_cons_succ])
    clear hbn p0 p1 p2 o0 o1 o2'
    (refine NJ.over rfl (by kernel_rfl) (fun hSat K hK => ?_); go_simp; refine hK.out _ _ ?_; clear hK hSat K; (try simp only [Act.put, List.getElem_toArray, List.getElem_cons_zero, List.getElem_cons_succ, List.setIfInBounds_toArray, List.set_cons_zero, List.set_cons_succ]))
    (refine wpAnyN_tail (i := 7) rfl rfl (by kernel_rfl) (fun K hK => ?_); go_simp; refine hK.out _ _ ?_; clear hK K; (try simp only [Act.put, List.getElem_toArray, List.getElem_cons_zero, List.getElem_cons_succ, List.setIfInBounds_toArray, List.set_cons_zero, List.set_cons_succ]))
    (refine wpAnyN_tail (i := 8) rfl rfl (by kernel_rfl) (fun K hK => ?_); go_simp; refine hK.out _ _ ?_; clear hK K; (try simp only [Act.put, List.getElem_toArray, List.getElem_cons_zero, List.getElem_cons_succ, List.setIfInBounds_toArray, List.set_cons_zero, List.set_cons_succ]))
    refine wpAnyN_fin (by kernel_rfl) ?_
    go_wp2_with fail
    go_meet
    have hf3 : ∀ g, A3 = some ⟨g, 0, none⟩ → w.heap.size ≠ g ∧ w.heap.size + 1 ≠ g := fun g hg => by have h1 := HG3.out g hg; have h2 := HWZ.out; simp at h1; omega
    have hf4 : ∀ g, A4 = some ⟨g, 0, none⟩ → w.heap.size ≠ g ∧ w.heap.size + 1 ≠ g := fun g hg => by have h1 := HG4.out g hg; have h2 := HWZ.out; have h3 := HB1.out.size; omega
    refine ⟨rfl, A3, c3, A4, c4, heap_off3 (by omega) (heap_put3 HP2.out), heap_put3 (heap_off3 (by omega) HO2.out), ?_, ?_, ?_⟩
    · exact (((HA3.out.on HB4.out).put3 (fun g hg => (hf3 g hg).1) _ _ _).put3 (fun g hg => (hf3 g hg).2) _ _ _).more (by simp)
    · exact ((HA4.out.put3 (fun g hg => (hf4 g hg).1) _ _ _).put3 (fun g hg => (hf4 g hg).2) _ _ _).more (by simp)
    · exact ((((((HWB.out.trans (HB2.out.mono (by have := HWZ.out; omega))).setCell (by simp) _).setCell (by simp) _).setCell (by simp) _).setCell (by simp) _).setCell (by simp) _).setCell (by simp) _
  obtain ⟨rfl, A3, c3, A4, c4, hP3, hO3, hA3, hA4, hb3⟩ := hcut
  obtain ⟨V, hV⟩ : ∃ V, V = wc := ⟨_, rfl⟩
  subst hV
  have HA3 := Lib.hid hA3
  have HA4 := Lib.hid hA4
  have HB3 := Lib.hid hb3
  have HP3 := Lib.hid hP3
  have HO3 := Lib.hid hO3
  obtain ⟨p0, p1, p2, -, pz⟩ := mim_cells hP3
  obtain ⟨o0, o1, o2', -, oz⟩ := mim_cells hO3
  have HZP := Lib.hid pz
  have HZO := Lib.hid oz
  clear hA3 hA4 hb3 hP3 hO3 HFM HFO HCT HP HO HWB HWZ
  have HF1 := Lib.hid (fun (w1 : World) (hb : Below V.heap.size V w1) => Few10_any m2 A3 c3 w1 hmb (HA3.out.on hb).isIn)
  have HF2 := Lib.hid (fun (w1 : World) (hb : Below V.heap.size V w1) => Few10_any o2 A4 c4 w1 hob (HA4.out.on hb).isIn)
  rw [hmi] at HF1
  rw [hoi] at HF2
  have HST := Lib.hid (fun (w1 : World) (X Y : Option Addr) (x y : Nat) (h1 : ParsAt w1 w1.heap.size X m2.ps) (h2 : ParsAt w1 w1.heap.size Y o2.ps) => Step_any m2 o2 X Y x y x2 w1 hmz hoz hon (by omega) h1 h2)
  have HSR := Lib.hid (fun (w1 : World) (h1 : ParsAt w1 w1.heap.size A3 m2.ps) (h2 : ParsAt w1 w1.heap.size A4 o2.ps) => rStep_any m2 o2 A3 A4 c3 c4 x2 w1 hmz hoz hon (by omega) h1 h2)
  have hXs := (stepL_fit (m := m2) hofit hsl).1
  generalize stepL m2 x2 o2 = X at *
  unfold mimV at HF1 HF2 HST HSR
  obtain ⟨S2, hS2⟩ : ∃ S2, bt x2 = S2 := ⟨_, rfl⟩
  rw [hS2] at HST HSR ⊢
  have hb : Below V.heap.size V V.drew := (Below.refl _ _).drew
  go_upto_region 2 with fail
  go_cut [7, 8] (fun g b wx => StepAt V X g b wx)
  case first =>
    have P0 := Lib.hid p0; have P1 := Lib.hid p1; have P2 := Lib.hid p2; have O0 := Lib.hid o0; have O1 := Lib.hid o1; have O2 := Lib.hid o2'
    go_region_with (first
      | (go_at_call 13; (with_reducible refine Calls.mono (HF1.out _ hb) ?_); rintro e v1 ⟨X1, y1, rfl, hx, hb1, -⟩; (try (replace HX1 := Lib.hid (HX1.out.on hb1))); (try (replace HX2 := Lib.hid (HX2.out.on hb1))); (try (replace HK := Lib.hid ((hb1.block _ (Array.getElem?_eq_some_iff.1 HK.out).1).trans HK.out))); replace hb := hb.trans (hb1.mono hb.size); have HX1 := Lib.hid hx; clear hx hb1; replace p0 := (cell_below hb HZP.out).trans P0.out; replace p1 := (cell_below hb HZP.out).trans P1.out; replace p2 := (cell_below hb HZP.out).trans P2.out; replace o0 := (cell_below hb HZO.out).trans O0.out; replace o1 := (cell_below hb HZO.out).trans O1.out; replace o2' := (cell_below hb HZO.out).trans O2.out; replace pz := Nat.lt_of_lt_of_le HZP.out hb.size; replace oz := Nat.lt_of_lt_of_le HZO.out hb.size)
      | (go_at_call 13; (with_reducible refine Calls.mono (HF1.out _ (hb.alloc hb.size _)) ?_); rintro e v1 ⟨X1, y1, rfl, hx, hb1, -⟩; have hst := (below_box _ (.cells #[.string ⟨#[]⟩, .string ⟨#[]⟩, .slice none 0 0] 33)).trans (hb1.mono (below_box _ _).size); (try (replace HX1 := Lib.hid (HX1.out.on hst))); (try (replace HX2 := Lib.hid (HX2.out.on hst))); (try (replace HK := Lib.hid ((hst.block _ (Array.getElem?_eq_some_iff.1 HK.out).1).trans HK.out))); have HKS := Lib.hid hb.size; have HK : Hid (v1.heap[_]? = some (mimO noM none 0)) := Lib.hid ((hb1.block _ (Array.getElem?_eq_some_iff.1 (heap_alloc_new _ (.cells #[.string ⟨#[]⟩, .string ⟨#[]⟩, .slice none 0 0] 33))).1).trans (heap_alloc_new _ _)); (try (rw [show (World.drew V).heap = V.heap from rfl] at HK HKS)); replace hb := hb.trans (hst.mono hb.size); have HX1 := Lib.hid hx; clear hx hb1 hst; replace p0 := (cell_below hb HZP.out).trans P0.out; replace p1 := (cell_below hb HZP.out).trans P1.out; replace p2 := (cell_below hb HZP.out).trans P2.out; replace o0 := (cell_below hb HZO.out).trans O0.out; replace o1 := (cell_below hb HZO.out).trans O1.out; replace o2' := (cell_below hb HZO.out).trans O2.out; replace pz := Nat.lt_of_lt_of_le HZP.out hb.size; replace oz := Nat.lt_of_lt_of_le HZO.out hb.size)
      | (go_at_call 13; (with_reducible refine Calls.mono (HF2.out _ hb) ?_); rintro e v1 ⟨X1, y1, rfl, hx, hb1, -⟩; (try (replace HX1 := Lib.hid (HX1.out.on hb1))); (try (replace HX2 := Lib.hid (HX2.out.on hb1))); (try (replace HK := Lib.hid ((hb1.block _ (Array.getElem?_eq_some_iff.1 HK.out).1).trans HK.out))); replace hb := hb.trans (hb1.mono hb.size); have HX2 := Lib.hid hx; clear hx hb1; replace p0 := (cell_below hb HZP.out).trans P0.out; replace p1 := (cell_below hb HZP.out).trans P1.out; replace p2 := (cell_below hb HZP.out).trans P2.out; replace o0 := (cell_below hb HZO.out).trans O0.out; replace o1 := (cell_below hb HZO.out).trans O1.out; replace o2' := (cell_below hb HZO.out).trans O2.out; replace pz := Nat.lt_of_lt_of_le HZP.out hb.size; replace oz := Nat.lt_of_lt_of_le HZO.out hb.size)
      | (go_at_call 13; (with_reducible refine Calls.mono (HF2.out _ (hb.alloc hb.size _)) ?_); rintro e v1 ⟨X1, y1, rfl, hx, hb1, -⟩; have hst := (below_box _ (.cells #[.string ⟨#[]⟩, .string ⟨#[]⟩, .slice none 0 0] 33)).trans (hb1.mono (below_box _ _).size); (try (replace HX1 := Lib.hid (HX1.out.on hst))); (try (replace HX2 := Lib.hid (HX2.out.on hst))); (try (replace HK := Lib.hid ((hst.block _ (Array.getElem?_eq_some_iff.1 HK.out).1).trans HK.out))); have HKS := Lib.hid hb.size; have HK : Hid (v1.heap[_]? = some (mimO noM none 0)) := Lib.hid ((hb1.block _ (Array.getElem?_eq_some_iff.1 (heap_alloc_new _ (.cells #[.string ⟨#[]⟩, .string ⟨#[]⟩, .slice none 0 0] 33))).1).trans (heap_alloc_new _ _)); (try (rw [show (World.drew V).heap = V.heap from rfl] at HK HKS)); replace hb := hb.trans (hst.mono hb.size); have HX2 := Lib.hid hx; clear hx hb1 hst; replace p0 := (cell_below hb HZP.out).trans P0.out; replace p1 := (cell_below hb HZP.out).trans P1.out; replace p2 := (cell_below hb HZP.out).trans P2.out; replace o0 := (cell_below hb HZO.out).trans O0.out; replace o1 := (cell_below hb HZO.out).trans O1.out; replace o2' := (cell_below hb HZO.out).trans O2.out; replace pz := Nat.lt_of_lt_of_le HZP.out hb.size; replace oz := Nat.lt_of_lt_of_le HZO.out hb.size)
      | (go_at_call 13; (with_reducible refine Calls.mono (HF1.out _ (below_box V _).drew) ?_); rintro e v1 ⟨X1, y1, rfl, hx, hb1, -⟩; have HKS := Lib.hid (Nat.le_refl V.heap.size); have HK : Hid (v1.heap[V.heap.size]? = some (mimO noM none 0)) := Lib.hid ((hb1.block _ (Array.getElem?_eq_some_iff.1 (heap_alloc_new V (.cells #[.string ⟨#[]⟩, .string ⟨#[]⟩, .slice none 0 0] 33))).1).trans (heap_alloc_new V (.cells #[.string ⟨#[]⟩, .string ⟨#[]⟩, .slice none 0 0] 33))); replace hb := (below_box V (.cells #[.string ⟨#[]⟩, .string ⟨#[]⟩, .slice none 0 0] 33)).drew.trans (hb1.mono (below_box V (.cells #[.string ⟨#[]⟩, .string ⟨#[]⟩, .slice none 0 0] 33)).drew.size); have HX1 := Lib.hid hx; clear hx hb1; replace p0 := (cell_below hb HZP.out).trans P0.out; replace p1 := (cell_below hb HZP.out).trans P1.out; replace p2 := (cell_below hb HZP.out).trans P2.out; replace o0 := (cell_below hb HZO.out).trans O0.out; replace o1 := (cell_below hb HZO.out).trans O1.out; replace o2' := (cell_below hb HZO.out).trans O2.out; replace pz := Nat.lt_of_lt_of_le HZP.out hb.size; replace oz := Nat.lt_of_lt_of_le HZO.out hb.size)
      | (go_at_call 15; (refine Calls.mono (HST.out _ _ _ _ _ HX1.out HX2.out) ?_); rintro e v1 ⟨X5, y5, rfl, hx, hb1, hf⟩; (try unfold mimV); (try (have hk8 := HK.out; have HKF : Hid (∀ g, X5 = some ⟨g, 0, none⟩ → _ < g) := Lib.hid (fun g hg => Nat.lt_of_lt_of_le (Array.getElem?_eq_some_iff.1 hk8).1 (hf g hg)); clear hk8)); (try (replace HX1 := Lib.hid (HX1.out.on hb1))); (try (replace HX2 := Lib.hid (HX2.out.on hb1))); (try (replace HK := Lib.hid ((hb1.block _ (Array.getElem?_eq_some_iff.1 HK.out).1).trans HK.out))); replace hb := hb.trans (hb1.mono hb.size); have HX5 := Lib.hid hx; have HF5 := Lib.hid hf; (try (have hk9 := HK.out; obtain ⟨k0, k1, k2, fk, klt⟩ := mim_cells hk9; clear hk9)); clear hx hb1 hf; replace p0 := (cell_below hb HZP.out).trans P0.out; replace p1 := (cell_below hb HZP.out).trans P1.out; replace p2 := (cell_below hb HZP.out).trans P2.out; replace o0 := (cell_below hb HZO.out).trans O0.out; replace o1 := (cell_below hb HZO.out).trans O1.out; replace o2' := (cell_below hb HZO.out).trans O2.out; replace pz := Nat.lt_of_lt_of_le HZP.out hb.size; replace oz := Nat.lt_of_lt_of_le HZO.out hb.size)
      | (go_at_call 15; (refine Calls.mono (HST.out _ _ _ _ _ (HX1.out.on (below_box _ _)) (HX2.out.on (below_box _ _))) ?_); rintro e v1 ⟨X5, y5, rfl, hx, hb1, hf⟩; (try unfold mimV); have hst := (below_box _ (.cells #[.string ⟨#[]⟩, .string ⟨#[]⟩, .slice none 0 0] 33)).trans (hb1.mono (below_box _ _).size); have HKS := Lib.hid hb.size; have HK : Hid (v1.heap[_]? = some (mimO noM none 0)) := Lib.hid ((hb1.block _ (Array.getElem?_eq_some_iff.1 (heap_alloc_new _ (.cells #[.string ⟨#[]⟩, .string ⟨#[]⟩, .slice none 0 0] 33))).1).trans (heap_alloc_new _ _)); (try (rw [show (World.drew V).heap = V.heap from rfl] at HK HKS)); replace hb := hb.trans (hst.mono hb.size); have HKF : Hid (∀ g, X5 = some ⟨g, 0, none⟩ → _ < g) := Lib.hid (fun g hg => Nat.lt_of_lt_of_le (Array.getElem?_eq_some_iff.1 (heap_alloc_new _ (.cells #[.string ⟨#[]⟩, .string ⟨#[]⟩, .slice none 0 0] 33))).1 (hf g hg)); have HX5 := Lib.hid hx; have HF5 := Lib.hid hf; (try (have hk9 := HK.out; obtain ⟨k0, k1, k2, fk, klt⟩ := mim_cells hk9; clear hk9)); clear hx hb1 hst hf; replace p0 := (cell_below hb HZP.out).trans P0.out; replace p1 := (cell_below hb HZP.out).trans P1.out; replace p2 := (cell_below hb HZP.out).trans P2.out; replace o0 := (cell_below hb HZO.out).trans O0.out; replace o1 := (cell_below hb HZO.out).trans O1.out; replace o2' := (cell_below hb HZO.out).trans O2.out; replace pz := Nat.lt_of_lt_of_le HZP.out hb.size; replace oz := Nat.lt_of_lt_of_le HZO.out hb.size)
      | (go_at_call 13; trace_state; fail)
      | (go_at_call 15; trace_state; fail))
    all_goals go_wp2_with fail
    all_goals go_meet
    all_goals first
      | exact StepAt.put HKS.out HK.out HX5.out HKF.out hb
      | exact StepAt.new HX5.out hb
      | trace_state
  obtain ⟨k, A5, c5, rfl, rfl, hk, hK, hA5, hb⟩ := hcut
  have hP := (hb.block _ HZP.out).trans HP3.out
  have hO := (hb.block _ HZO.out).trans HO3.out
  have hS := Lib.hid (HSR.out _ (HA3.out.on hb) (HA4.out.on hb))
  have HB := Lib.hid (HB3.out.trans (hb.mono HB3.out.size))
  clear p0 p1 p2 pz o0 o1 o2' oz HF1 HF2 HST HSR HA3 HA4 HB3 HP3 HO3 HZP HZO hb hk
  obtain ⟨p0, p1, p2, -, pz⟩ := mim_cells hP
  obtain ⟨o0, o1, o2', -, oz⟩ := mim_cells hO
  clear hP hO
  go_wp2_with fail
  refine hS.out.mono ?_
  rintro e w6 ⟨A6, c6, rfl, hA6, hbn, -⟩
  (try unfold mimV)
  clear p0 p1 p2 pz o0 o1 o2' oz hS
  have hK := (hbn.block _ (Array.getElem?_eq_some_iff.1 hK).1).trans hK
  have hA5 := hA5.on hbn
  have hB := HB.out.trans (hbn.mono HB.out.size)
  have hb0 := below_box w6 (.cells #[.string (bt X.1.t), .string (bt X.1.s), .slice A6 X.1.ps.length c6] 33)
  have hK := (hb0.block _ (Array.getElem?_eq_some_iff.1 hK).1).trans hK
  have hA5 := hA5.on hb0
  have hA6 := hA6.on hb0
  have hX : (w6.alloc (.cells #[.string (bt X.1.t), .string (bt X.1.s), .slice A6 X.1.ps.length c6] 33)).heap[w6.heap.size]? = some (mimO X.1 A6 c6) := heap_alloc_new w6 _
  have hB := hB.trans (hb0.mono hB.size)
  clear hb0 hbn HB
  go_upto_region 4 with fail
  generalize w6.heap.size = gx at *
  generalize w6.alloc (.cells #[.string (bt X.1.t), .string (bt X.1.s), .slice A6 X.1.ps.length c6] 33) = w7 at *
  have HS := Lib.hid (rSame_par X.1 X.1 A5 A6 c5 c6 w7 hXs hXs hA5 hA6)
  rw [sameM_self] at HS
  unfold mimV at HS
  have HB := Lib.hid hB
  obtain ⟨p0, p1, p2, -, pz⟩ := mim_cells hK
  obtain ⟨o0, o1, o2', -, oz⟩ := mim_cells hX
  clear hK hX hA5 hA6 hB
  go_wp2_with fail
  refine HS.out.mono ?_
  rintro e w8 ⟨rfl, hbn⟩
  have HB8 := Lib.hid (HB.out.trans (hbn.mono HB.out.size))
  clear hbn p0 p1 p2 pz o0 o1 o2' oz HS HB
  go_wp2_with fail
  refine (lives11_any _).mono ?_
  rintro e w9 ⟨rfl, hb9⟩
  have HBZ := Lib.hid (HB8.out.trans (hb9.mono HB8.out.size))
  clear hb9
  go_wp2_with fail
  go_ret
  exact ⟨rfl, HBZ.out⟩

end Go.Proofs.Ytdkkbibdjagjjaa

namespace Go.Proofs.Ytdkkbibdjagjjaa
open Go.RowKit
set_option linter.unusedSimpArgs false
set_option linter.unusedVariables false

theorem choose_ltP {α : Type} [Inhabited α] {n : Nat} {p : Nat → α → Prop} (h : ∀ i, i < n → ∃ x, p i x) : ∃ f : Nat → α, ∀ i, i < n → p i (f i) := by
  classical
  exact ⟨fun i => if hi : i < n then (h i hi).choose else default, fun i hi => by simp only [hi, dif_pos]; exact (h i hi).choose_spec⟩

open Go.ChangeShapes Go.WideShapes Go.Deep in
/-- A slice of structs of two texts, opened. -/
theorem open_parsV {H : Type} {enc : TypeId × Value → H} {P : Program} {w : World} {base : Nat} {spare : Nat → Bool} {held : Bool} {t e ts : TypeId} {f0 f1 : Field} {v : Value} {n : Nat} {y : DataW H × List MemPlace}
    (ht : P.underlying t = some (.slice e)) (he : P.underlying e = some (.struct #[f0, f1])) (ce : P.cellsOf e = 2) (o0 : f0.offset = 0) (o1 : f1.offset = 1)
    (t0 : f0.type = ts) (t1 : f1.type = ts) (cs : P.cellsOf ts = 1) (hs : P.underlying ts = some .string)
    (h : DataW.trod enc P w base spare held n t [v] = some y) :
    ∃ A c ps, v = .slice A ps.length c ∧ ParsIn w w.heap.size A ps ∧ (∀ p ∈ ps, (bt p.1).size ≤ maxLen ∧ (bt p.2).size ≤ maxLen) ∧ ps.length ≤ maxLen := by
  rcases open_slice ht h with ⟨h0, _⟩ | ⟨a, len, cap, m, n', D, Pl, hc, hb, hl, hm, hmm, _, hx⟩
  · simp at h0
    subst h0
    exact ⟨none, 0, [], rfl, .inl rfl, fun p hp => by simp at hp, Nat.zero_le _⟩
  simp at hc
  subst hc
  have hlm : len ≤ m := by rw [hmm]; split <;> omega
  have each : ∀ i, i < len → ∃ p : List UInt8 × List UInt8, w.cell? (a.add (i * 2)) = some (.string (bt p.1)) ∧ w.cell? (a.add (i * 2 + 1)) = some (.string (bt p.2)) ∧ (bt p.1).size ≤ maxLen ∧ (bt p.2).size ≤ maxLen := by
    intro i hi
    obtain ⟨cs', h1, h2⟩ := hx i (by omega)
    rw [ce] at h1
    obtain ⟨_, hlen, hcell⟩ := World.cells?_some h1
    obtain ⟨xs, k, hk, hxy, _, hxl, hf⟩ := DataW.trod_struct he h2
    match xs, hxl, cs', hlen with
    | [y0, y1], _, [v0, v1], _ =>
      have g0 := hf 0 f0 rfl
      have g1 := hf 1 f1 rfl
      simp [o0, o1, t0, t1, cs] at g0 g1
      have e0 := hcell 0 (by omega)
      have e1 := hcell 1 (by omega)
      rw [add_add] at e0 e1
      obtain ⟨b0, q0, _, s0⟩ := DataW.trod_string hs g0
      obtain ⟨b1, q1, _, s1⟩ := DataW.trod_string hs g1
      simp at q0 q1
      subst q0 q1
      exact ⟨(b0.data.toList, b1.data.toList), by rw [list_bt]; simpa using e0, by rw [list_bt]; simpa using e1, s0, s1⟩
  obtain ⟨f, hfs⟩ := choose_ltP each
  refine ⟨some a, cap, (List.range len).map f, by simp, ?_, ?_, by simp; omega⟩
  · by_cases hz : len = 0
    · subst hz; exact .inl rfl
    right
    have h0 := (hfs 0 (by omega)).1
    rw [Nat.zero_mul, show a.add 0 = a from rfl] at h0
    obtain ⟨b, off, sp⟩ := a
    have hsp : sp = none := by
      cases sp with
      | none => rfl
      | some k =>
        simp only [World.cell?] at h0
        split at h0 <;> simp at h0
    subst hsp
    refine ⟨b, off, rfl, lt_of_cell h0, fun i hi => ?_⟩
    have hi' : i < len := by simpa using hi
    obtain ⟨h1, h2, _⟩ := hfs i hi'
    simp only [List.getElem_map, List.getElem_range]
    have hadd : ∀ k, (⟨b, off, none⟩ : Addr).add k = ⟨b, off + k, none⟩ := fun k => by
      unfold Addr.add
      split
      · rename_i hk; subst hk; rfl
      · rfl
    rw [hadd] at h1 h2
    exact ⟨h1, h2⟩
  · intro p hp
    simp only [List.mem_map, List.mem_range] at hp
    obtain ⟨i, hi, rfl⟩ := hp
    exact (hfs i hi).2.2

end Go.Proofs.Ytdkkbibdjagjjaa
