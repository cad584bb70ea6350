/-
  Walks of package media: how many bytes lack.
-/
import Derived.Test.YtcpjokjfjhhndaaMediaE
namespace Go.Proofs.Ytcpjokjfjhhndaa
open Go.RowKit
set_option linter.unusedSimpArgs false
set_option linter.unusedVariables false
attribute [local go_sem] Oper.semAt_some

theorem noneOf_to {s : ByteArray} {l : List FPat} (h : NoneOf s l) : findN s (l.map (·.1)) = (l.map (·.1)).length := by
  induction l with
  | nil => rfl
  | cons p l ih =>
    have h1 := h p (by simp)
    simp only [List.map_cons, findN, h1, List.length_cons]
    rw [if_neg (by simp), ih (fun q hq => h q (by simp [hq]))]

theorem needs_noneOf {s : ByteArray} {l : List FPat} {ps : List Pat} (h : NoneOf s l) (hl : l.map (·.1) = ps) : needsN s ps = foldN s (l.map (·.1)) 0 := by
  subst hl
  unfold needsN
  rw [if_neg (by rw [noneOf_to h]; omega)]

theorem needs_firstOf {s : ByteArray} {l : List FPat} {p : FPat} {ps : List Pat} (h : NoneOf s l) (hp : matchP s p.1 = true) (hl : (l ++ [p]).map (·.1) <+: ps) : needsN s ps = 0 := by
  obtain ⟨r, rfl⟩ := hl
  have hf : findN s ((l ++ [p]).map (·.1) ++ r) = l.length := by
    induction l with
    | nil => simp [findN, hp]
    | cons q l ih =>
      have h1 := h q (by simp)
      simp only [List.cons_append, List.map_cons, findN, h1, List.length_cons]
      rw [if_neg (by simp), ih (fun q hq => h q (by simp [hq]))]
  unfold needsN
  rw [if_pos (by rw [hf]; simp)]

theorem foldN_snoc (s : ByteArray) (l : List Pat) (p : Pat) (n : Nat) : foldN s (l ++ [p]) n = leastN s p (foldN s l n) := by
  induction l generalizing n with
  | nil => rfl
  | cons q l ih => simp only [List.cons_append, foldN]; exact ih _

theorem fold_le64 (s : ByteArray) (l : List FPat) : foldN s (l.map (·.1)) 0 ≤ 64 := by
  have h := foldN_le s (l.map (·.1)) (fun i hi => by rw [List.getElem_map]; exact (l[i]'(by simpa using hi)).2) (l.map (·.1)).length (Nat.le_refl _)
  rwa [List.take_length] at h

def FrameL (w : World) (s : ByteArray) (p : FPat) (Bx : Nat) : Act :=
  { tmps := #[.string s, .pointer (some ⟨w.heap.size, 0, none⟩), .pointer (some ⟨w.heap.size + 1, 0, none⟩), .pointer (some ⟨w.heap.size + 2, 0, none⟩), .pointer (some ⟨Bx, 0, none⟩), undef, .func (.func 89) #[] #[], patV p.1.b p.1.m p.1.k p.1.t,
      undef, undef, undef, undef, undef, undef, undef, undef, undef, undef, undef, undef, undef, undef, undef, undef, undef, undef, undef, undef, undef, undef, undef, undef, undef], defers := [] }

/-- The round in which one matched. -/
def RetZero (s : ByteArray) (R : Nat) (pre : List FPat) (W : World) : Prop :=
  (∃ (pre' : List FPat) (p : FPat), pre = pre' ++ [p] ∧ NoneOf s pre' ∧ matchP s p.1 = true) ∧ Boxed W R 3 (.int .i64 0)

theorem retZero_own (s : ByteArray) (R : Nat) : Own (RetZero s R) := fun pre X Y row hs hg hr =>
  ⟨hs.1, boxed_own R 3 (fun (_ : Unit) => Value.int .i64 0) () X Y row hs.2 hg hr⟩

set_option maxRecDepth 100000 in
set_option maxHeartbeats 4000000 in
theorem lacks_med (s : ByteArray) (w : World) (hs : s.size ≤ 1000) :
    Calls Try.prog 75 #[.string s] w fun e w' => e = .returned (.int .i64 (needsN s medTable)) ∧ Below w.heap.size w w' := by
  have hsm : s.size ≤ maxLen := by unfold maxLen; omega
  refine (callsIn_wide (n := 6)).1 ?_
  refine callsIn_of_wp_marks Try.func75 rfl trivial ?_ rfl
  simp only [Try.ntmps75, List.size_toArray, List.length_cons, List.length_nil, Nat.reduceAdd, Nat.reduceSub, Array.replicate_succ, Array.replicate_zero, List.push_toArray, List.append_toArray, List.nil_append, List.cons_append]
  gi_wp2_with (refine ⟨trivial, ?_⟩; gi_at_call 73; refine (callsIn_wide.2 (patterns_any _)).mono ?_; rintro e w' ⟨rfl, rfl⟩)
  have bS := ((Boxed.new w 9 (.string s)).alloc (.cells #[.int .i64 0] 3)).alloc (.cells #[.int .i64 0] 3)
  have bR := (Boxed.new (w.alloc (.cells #[.string s] 9)) 3 (.int .i64 0)).alloc (.cells #[.int .i64 0] 3)
  have bL := Boxed.new ((w.alloc (.cells #[.string s] 9)).alloc (.cells #[.int .i64 0] 3)) 3 (.int .i64 0)
  simp only [World.size_alloc] at bR bL
  have hB0 : Below w.heap.size w (((w.alloc (.cells #[.string s] 9)).alloc (.cells #[.int .i64 0] 3)).alloc (.cells #[.int .i64 0] 3)) := (((Below.refl _ w).alloc (Nat.le_refl _) _).alloc (by simp) _).alloc (by simp; omega) _
  have hsz : (((w.alloc (.cells #[.string s] 9)).alloc (.cells #[.int .i64 0] 3)).alloc (.cells #[.int .i64 0] 3)).heap.size = w.heap.size + 3 := by simp
  obtain ⟨W0, hW0⟩ : ∃ W0, ((w.alloc (.cells #[.string s] 9)).alloc (.cells #[.int .i64 0] 3)).alloc (.cells #[.int .i64 0] 3) = W0 := ⟨_, rfl⟩
  rw [hW0] at bS bR bL hB0 hsz ⊢
  clear hW0
  have MB : Hid (∀ (p : FPat) (w : World), Calls Try.prog 22 #[.string s, patV p.1.b p.1.m p.1.k p.1.t] w fun e w' => e = .returned (.bool (matchP s p.1)) ∧ Below w.heap.size w w') := Lib.hid (fun p w => by
    obtain ⟨h1, h2, h3, h4⟩ := full_sizes p.2
    exact Match_any s p.1.b p.1.m p.1.k p.1.t w hsm (by unfold maxLen; omega) (by unfold maxLen; omega))
  have OB : Hid (∀ (p : FPat) (w : World), Calls Try.prog 23 #[.string s, patV p.1.b p.1.m p.1.k p.1.t] w fun e w' => e = .returned (.bool (openP s p.1)) ∧ Below w.heap.size w w') := Lib.hid (fun p w => by
    obtain ⟨h1, h2, h3, h4⟩ := full_sizes p.2
    exact Open_any s p.1.b p.1.m p.1.k p.1.t w hsm (by unfold maxLen; omega) (by unfold maxLen; omega))
  refine wpIn_rangeFunc_ownH rfl (by omega) (gf := 89) (lb := #[]) rfl trivial (enters_of Try.func89 (by kernel_rfl) rfl) (patterns_stops w.heap.size W0) belowK_t (belowK_b (by omega)) (Below.refl _ _) (fun _ => rfl)
    (fun pre W => ((Boxed W w.heap.size 9 (.string s) ∧ Boxed W (w.heap.size + 1) 3 (.int .i64 0) ∧ Boxed W (w.heap.size + 2) 3 (.int .i64 (foldN s (pre.map (·.1)) 0))) ∧ NoneOf s pre) ∧ Below w.heap.size w W)
    (fun c pre W => (c = .ret ∧ RetZero s (w.heap.size + 1) pre W) ∧ Below w.heap.size w W)
    (OwnFrom.and (OwnFrom.and (OwnFrom.and (Own.from (boxed_own _ _ _) _) (OwnFrom.and (Own.from (boxed_own _ _ _) _) (Own.from (boxed_own _ _ (fun pre : List FPat => Value.int .i64 (foldN s (pre.map (·.1)) 0))) _))) (ownFrom_const _)) (ownFrom_below (Nat.le_refl _) (by omega)))
    (fun c => OwnFrom.and (OwnFrom.and (ownFrom_const (fun _ => c = .ret)) (Own.from (retZero_own _ _) _)) (ownFrom_below (Nat.le_refl _) (by omega)))
    ⟨⟨⟨bS, bR, bL⟩, fun p hp => by cases hp⟩, hB0⟩
    (fun x a' W => ∃ Bx, w.heap.size + 2 < Bx ∧ PatBox W Bx x.1 ∧ a' = FrameL w s x Bx)
    (fun x a' _ X Y row hs hg hr => by obtain ⟨Bx, h1, h2, h3⟩ := hs; exact ⟨Bx, h1, patBox_own Bx x.1 () X Y row h2 hg (fun r e => (hr r e).2), h3⟩)
    ?assign ?body ?done ?stop
  case assign =>
    rintro l pre x W K ⟨⟨⟨bS1, bR1, bL1⟩, hno⟩, hB1⟩ hK
    gi_wp2
    exact hK _ _ ((KeepsOthers.alloc _ _).from _) ((Below.refl _ W).alloc hB1.size _) ⟨⟨⟨bS1.alloc _, bR1.alloc _, bL1.alloc _⟩, hno⟩, hB1.alloc hB1.size _⟩ ⟨W.heap.size, bL1.lt, PatBox.new W x.1, rfl⟩
  case body =>
    rintro l pre x a' W hl ⟨r, hr⟩ ⟨⟨⟨bS1, bR1, bL1⟩, hno⟩, hB1⟩ ⟨Bx, hBx, bX, rfl⟩ hlt
    unfold FrameL
    have cS := bS1.cell
    obtain ⟨c0, c1, c2, c3⟩ := bX.cells
    have HB1 := Lib.hid hB1
    have HNO := Lib.hid hno
    have HS := Lib.hid bS1
    have HR := Lib.hid bR1
    have HL := Lib.hid bL1
    have HX := Lib.hid bX
    have hz := hB1.size
    have zR := bR1.lt
    have zL := bL1.lt
    have zX := bX.lt
    have hl64 := fold_le64 s pre
    have HFS : Hid (foldN s ((pre ++ [x]).map (·.1)) 0 = leastN s x.1 (foldN s (pre.map (·.1)) 0)) := Lib.hid (by rw [List.map_append]; exact foldN_snoc _ _ _ _)
    have hsh := fun h => open_short x.2 (s := s) h
    have HSH := Lib.hid hsh
    obtain ⟨hb64, hb1, _, _⟩ := full_sizes x.2
    clear hB1 hno bS1 bR1 bL1 bX hsh
    generalize foldN s (pre.map (·.1)) 0 = k at *
    have HL1 := Lib.hid (fun h1 h2 => least_open (s := s) (p := x.1) k h1 h2)
    have HL2 := Lib.hid (fun h1 h2 => least_keep (s := s) (p := x.1) k h1 h2)
    have HL3 := Lib.hid (fun h1 => least_closed (s := s) (p := x.1) k h1)
    cases hm : matchP s x.1
    · have HM := Lib.hid hm
      clear hm
      cases ho : openP s x.1
      · have HO := Lib.hid ho
        have HE := Lib.hid (HL3.out ho)
        clear ho HL1 HL2 HL3
        gi_wp2_with (first
          | (refine ⟨trivial, ?_⟩; gi_at_call 22; refine (CallsIn.inRound l (callsIn_wide.2 (MB.out x _))).mono ?_; rintro e w' ⟨rfl, hb⟩; rw [HM.out]; have cS2 := (boxed_below HS.out hb (by omega)).cell; obtain ⟨d0, d1, d2, d3⟩ := (HX.out.below hb zX).cells; have HB := Lib.hid hb; clear hb)
          | (refine ⟨trivial, ?_⟩; gi_at_call 23; refine (CallsIn.inRound l (callsIn_wide.2 (OB.out x _))).mono ?_; rintro e w2 ⟨rfl, hb⟩; rw [HO.out]; have HBB := Lib.hid (HB.out.trans (hb.mono HB.out.size))))
        exact ⟨(others_of_below HBB.out).from _, HBB.out.mono hz, ⟨⟨boxed_below HS.out HBB.out (by omega), boxed_below HR.out HBB.out zR, by rw [HFS.out, HE.out]; exact boxed_below HL.out HBB.out zL⟩, HNO.out.snoc HM.out⟩, HB1.out.trans (HBB.out.mono hz)⟩
      · have hlt2 := HSH.out ho
        have HO := Lib.hid ho
        obtain ⟨d, hd⟩ : ∃ d : Nat, (x.1.b.size : Int) - s.size = d := ⟨x.1.b.size - s.size, by omega⟩
        have hd2 : x.1.b.size - s.size = d := by omega
        have hd64 : d ≤ 64 := by omega
        rw [hd2] at HL1 HL2
        clear hd2 HSH HL3 hb1
        by_cases hl0 : k = 0
        · have HE := Lib.hid (HL1.out ho (.inl hl0))
          clear HL1 HL2 ho
          subst hl0
          gi_wp2_with (first | (refine ⟨trivial, ?_⟩; gi_at_call 22; refine (CallsIn.inRound l (callsIn_wide.2 (MB.out x _))).mono ?_; rintro e w' ⟨rfl, hb⟩; rw [HM.out]; have cS2 := (boxed_below HS.out hb (by omega)).cell; obtain ⟨d0, d1, d2, d3⟩ := (HX.out.below hb zX).cells; have HB := Lib.hid hb; clear hb) | (refine ⟨trivial, ?_⟩; gi_at_call 23; refine (CallsIn.inRound l (callsIn_wide.2 (OB.out x _))).mono ?_; rintro e w2 ⟨rfl, hb⟩; rw [HO.out]; have HBB := Lib.hid (HB.out.trans (hb.mono HB.out.size)); have cL := (boxed_below HL.out HBB.out zL).cell; have fL := (boxed_below HL.out HBB.out zL).frozen))
          exact ⟨((others_of_below HBB.out).trans (KeepsOthers.setCell _ _ _)).from _, (HBB.out.mono hz).setCell (by simp) _, ⟨⟨(boxed_below HS.out HBB.out (by omega)).other (by omega) _, (boxed_below HR.out HBB.out zR).other (by omega) _, by rw [HFS.out, HE.out]; exact (boxed_below HL.out HBB.out zL).set _⟩, HNO.out.snoc HM.out⟩, (HB1.out.trans (HBB.out.mono hz)).setCell (by simp) _⟩
        · by_cases hdl : d < k
          · have HE := Lib.hid (HL1.out ho (.inr hdl))
            clear HL1 HL2 ho
            gi_wp2_with (first | (refine ⟨trivial, ?_⟩; gi_at_call 22; refine (CallsIn.inRound l (callsIn_wide.2 (MB.out x _))).mono ?_; rintro e w' ⟨rfl, hb⟩; rw [HM.out]; have cS2 := (boxed_below HS.out hb (by omega)).cell; obtain ⟨d0, d1, d2, d3⟩ := (HX.out.below hb zX).cells; have HB := Lib.hid hb; clear hb) | (refine ⟨trivial, ?_⟩; gi_at_call 23; refine (CallsIn.inRound l (callsIn_wide.2 (OB.out x _))).mono ?_; rintro e w2 ⟨rfl, hb⟩; rw [HO.out]; have HBB := Lib.hid (HB.out.trans (hb.mono HB.out.size)); have cL := (boxed_below HL.out HBB.out zL).cell; have fL := (boxed_below HL.out HBB.out zL).frozen))
            exact ⟨((others_of_below HBB.out).trans (KeepsOthers.setCell _ _ _)).from _, (HBB.out.mono hz).setCell (by simp) _, ⟨⟨(boxed_below HS.out HBB.out (by omega)).other (by omega) _, (boxed_below HR.out HBB.out zR).other (by omega) _, by rw [HFS.out, HE.out]; exact (boxed_below HL.out HBB.out zL).set _⟩, HNO.out.snoc HM.out⟩, (HB1.out.trans (HBB.out.mono hz)).setCell (by simp) _⟩
          · have HE := Lib.hid (HL2.out hl0 hdl)
            clear HL1 HL2 ho
            gi_wp2_with (first | (refine ⟨trivial, ?_⟩; gi_at_call 22; refine (CallsIn.inRound l (callsIn_wide.2 (MB.out x _))).mono ?_; rintro e w' ⟨rfl, hb⟩; rw [HM.out]; have cS2 := (boxed_below HS.out hb (by omega)).cell; obtain ⟨d0, d1, d2, d3⟩ := (HX.out.below hb zX).cells; have HB := Lib.hid hb; clear hb) | (refine ⟨trivial, ?_⟩; gi_at_call 23; refine (CallsIn.inRound l (callsIn_wide.2 (OB.out x _))).mono ?_; rintro e w2 ⟨rfl, hb⟩; rw [HO.out]; have HBB := Lib.hid (HB.out.trans (hb.mono HB.out.size)); have cL := (boxed_below HL.out HBB.out zL).cell; have fL := (boxed_below HL.out HBB.out zL).frozen))
            exact ⟨(others_of_below HBB.out).from _, HBB.out.mono hz, ⟨⟨boxed_below HS.out HBB.out (by omega), boxed_below HR.out HBB.out zR, by rw [HFS.out, HE.out]; exact boxed_below HL.out HBB.out zL⟩, HNO.out.snoc HM.out⟩, HB1.out.trans (HBB.out.mono hz)⟩
    · have HM := Lib.hid hm
      clear hm HL1 HL2 HL3 HSH hb1 hb64
      gi_wp2_with (refine ⟨trivial, ?_⟩; gi_at_call 22; refine (CallsIn.inRound l (callsIn_wide.2 (MB.out x _))).mono ?_; rintro e w' ⟨rfl, hb⟩; rw [HM.out]; have cR := (boxed_below HR.out hb zR).cell; have fR := (boxed_below HR.out hb zR).frozen)
      exact ⟨((others_of_below hb).trans (KeepsOthers.setCell _ _ _)).from _, ⟨rfl, ⟨pre, x, rfl, HNO.out, HM.out⟩, (boxed_below HR.out hb zR).set _⟩, (HB1.out.trans (hb.mono hz)).setCell (by simp) _⟩
  case done =>
    rintro D xs W hD hS ⟨⟨⟨bS1, bR1, bL1⟩, hno⟩, hB1⟩ hK
    have cR := bR1.cell
    have fR := bR1.frozen
    have cL := bL1.cell
    have HS := Lib.hid hS
    have HN := Lib.hid (needs_noneOf hno hS)
    generalize foldN s (xs.map (·.1)) 0 = k at *
    gi_wp2
    have hK' := (KeepsOthers.setCell W ⟨w.heap.size + 1, 0, none⟩ (.int .i64 k)).same D _ hK rfl
    have hc5 := cell_kept (World.cell?_setCell_same' W ⟨w.heap.size + 1, 0, none⟩ (.int .i64 k) (by rw [cR]; rfl)) (grownBy_putObj' _ D (.deferred none)) (fun r e => by cases e; exact ⟨_, hK', rfl⟩)
    refine ⟨by simp, .inl ⟨_, _, rfl, run_takeDeferred hK', ?_⟩⟩
    refine ⟨.int .i64 (needsN s medTable), ?_, rfl, ?_⟩
    · rw [HN.out]
      simp [results, Try.results75, go_sem, hc5]
    · exact hB1.trans ((((Below.refl w.heap.size W).setCell (p := ⟨w.heap.size + 1, 0, none⟩) (by simp) _)).trans (belowK_b (w := w) (Nat.le_refl _) _ D _ _ (by omega) hK' rfl rfl))
  case stop =>
    rintro D c pre W hD hS ⟨⟨rfl, ⟨pre', p, rfl, hno, hm⟩, bR1⟩, hB1⟩ hK
    have cR := bR1.cell
    have HN := Lib.hid (needs_firstOf hno hm hS)
    gi_wp2
    have hc5 := cell_kept cR (grownBy_putObj' _ D (.deferred none)) (fun r e => by cases e; exact ⟨_, hK, rfl⟩)
    refine ⟨by simp, .inl ⟨_, _, rfl, run_takeDeferred hK, ?_⟩⟩
    refine ⟨.int .i64 (needsN s medTable), ?_, rfl, ?_⟩
    · rw [HN.out]
      simp [results, Try.results75, go_sem, hc5]
    · exact hB1.trans (belowK_b (w := w) (Nat.le_refl _) W D _ _ (by omega) hK rfl rfl)

end Go.Proofs.Ytcpjokjfjhhndaa
