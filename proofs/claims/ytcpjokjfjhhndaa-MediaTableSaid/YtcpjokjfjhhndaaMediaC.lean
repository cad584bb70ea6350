/-
  Walks of package media: which pattern matches.
-/
import Derived.Test.YtcpjokjfjhhndaaMediaB
namespace Go.Proofs.Ytcpjokjfjhhndaa
open Go.RowKit
set_option linter.unusedSimpArgs false
set_option linter.unusedVariables false
attribute [local go_sem] Oper.semAt_some

theorem patterns_any (w : World) : Calls Try.prog 73 #[] w fun e w' => e = .returned (.func (.func 89) #[] #[]) ∧ w = w' := by
  go_enter Try.func73, Try.ntmps73
  go_wp2
  go_ret
  exact ⟨rfl, rfl⟩

/-- A block that holds one pattern. -/
def PatBox (W : World) (B : Nat) (p : Pat) : Prop := W.heap[B]? = some (.cells #[.string p.b, .string p.m, .string p.k, .string p.t] 25 (0, 0))

theorem PatBox.lt {W : World} {B : Nat} {p : Pat} (h : PatBox W B p) : B < W.heap.size := (Array.getElem?_eq_some_iff.1 h).1

theorem PatBox.below {B : Nat} {W W' : World} {g : Nat} {p : Pat} (h : PatBox W g p) (hb : Below B W W') (hg : g < B) : PatBox W' g p := (hb.block g hg).trans h

theorem PatBox.new (W : World) (p : Pat) : PatBox (W.alloc (.cells #[.string p.b, .string p.m, .string p.k, .string p.t] 25)) W.heap.size p := heap_alloc_new W _

theorem PatBox.cells {W : World} {B : Nat} {p : Pat} (h : PatBox W B p) : W.cell? ⟨B, 0, none⟩ = some (.string p.b) ∧ W.cell? ⟨B, 1, none⟩ = some (.string p.m) ∧ W.cell? ⟨B, 2, none⟩ = some (.string p.k) ∧ W.cell? ⟨B, 3, none⟩ = some (.string p.t) :=
  ⟨cell_of_row W B 0 _ _ (0, 0) h, cell_of_row W B 1 _ _ (0, 0) h, cell_of_row W B 2 _ _ (0, 0) h, cell_of_row W B 3 _ _ (0, 0) h⟩

theorem patBox_own {β : Type} (B : Nat) (p : Pat) : Own (fun (_ : β) W => PatBox W B p) := fun s X Y row hs hg hrow =>
  (hg.block B hs.lt (fun e => by
    obtain ⟨o, ho, hc⟩ := hrow _ e.symm
    rw [hs] at ho
    cases ho
    cases hc)).trans hs

theorem boxed_below {B : Nat} {W W' : World} {g : Nat} {t : TypeId} {v : Value} (h : Boxed W g t v) (hb : Below B W W') (hg : g < B) : Boxed W' g t v := (hb.block g hg).trans h

theorem others_of_below {W W' : World} (h : Below W.heap.size W W') : KeepsOthers W W' :=
  ⟨h.size, fun k o hk _ => (h.block k (Array.getElem?_eq_some_iff.1 hk).1).trans hk⟩

theorem ownFrom_const {β : Type} {B : Nat} (P : β → Prop) : OwnFrom B (fun s (_ : World) => P s) := fun _ _ _ _ hs _ _ => hs

/-- Nothing so far matches. -/
def NoneOf (s : ByteArray) (l : List FPat) : Prop := ∀ p ∈ l, matchP s p.1 = false

theorem type_noneOf {s : ByteArray} {l : List FPat} {ps : List Pat} (h : NoneOf s l) (hl : l.map (·.1) = ps) : typeP s ps = ⟨#[]⟩ := by
  refine typeP_none ?_
  subst hl
  have : ∀ l : List FPat, NoneOf s l → findN s (l.map (·.1)) = (l.map (·.1)).length := by
    intro l
    induction l with
    | nil => intro _; rfl
    | cons p l ih =>
      intro h
      have h1 := h p (by simp)
      simp only [List.map_cons, findN, h1, List.length_cons]
      rw [if_neg (by simp), ih (fun q hq => h q (by simp [hq]))]
  rw [this l h]
  omega

theorem type_firstOf {s : ByteArray} {l : List FPat} {p : FPat} {ps : List Pat} (h : NoneOf s l) (hp : matchP s p.1 = true) (hl : (l ++ [p]).map (·.1) <+: ps) : typeP s ps = p.1.t := by
  obtain ⟨r, rfl⟩ := hl
  have hf : findN s ((l ++ [p]).map (·.1) ++ r) = l.length := by
    induction l with
    | nil => simp [findN, hp]
    | cons q l ih =>
      have h1 := h q (by simp)
      simp only [List.cons_append, List.map_cons, findN, h1, List.length_cons]
      rw [if_neg (by simp), ih (fun q hq => h q (by simp [hq]))]
  have hlt : findN s ((l ++ [p]).map (·.1) ++ r) < ((l ++ [p]).map (·.1) ++ r).length := by rw [hf]; simp
  unfold typeP
  rw [hf]
  have : ((l ++ [p]).map (·.1) ++ r)[l.length]? = some p.1 := by
    rw [List.getElem?_append_left (by simp)]
    simp
  rw [this]

/-- The round that matched. -/
def RetOf (s : ByteArray) (R : Nat) (pre : List FPat) (W : World) : Prop :=
  ∃ (pre' : List FPat) (p : FPat), (pre = pre' ++ [p] ∧ NoneOf s pre' ∧ matchP s p.1 = true) ∧ Boxed W R 9 (.string p.1.t)

theorem retOf_own (s : ByteArray) (R : Nat) : Own (RetOf s R) := fun pre X Y row hs hg hr => by
  obtain ⟨pre', p, h1, h2⟩ := hs
  exact ⟨pre', p, h1, boxed_own R 9 (fun (_ : Unit) => Value.string p.1.t) () X Y row h2 hg hr⟩

def FrameK (w : World) (s : ByteArray) (p : FPat) (Bx : Nat) : Act :=
  { tmps := #[.string s, .pointer (some ⟨w.heap.size, 0, none⟩), .pointer (some ⟨w.heap.size + 1, 0, none⟩), .pointer (some ⟨Bx, 0, none⟩), .func (.func 89) #[] #[], patV p.1.b p.1.m p.1.k p.1.t, undef, undef, undef, undef, undef], defers := [] }

theorem NoneOf.snoc {s : ByteArray} {l : List FPat} {p : FPat} (h : NoneOf s l) (hp : matchP s p.1 = false) : NoneOf s (l ++ [p]) := by
  intro q hq
  rcases List.mem_append.1 hq with hq | hq
  · exact h q hq
  · simp at hq; subst hq; exact hp

set_option maxRecDepth 100000 in
set_option maxHeartbeats 2000000 in
theorem kind_med (s : ByteArray) (w : World) (hs : s.size ≤ maxLen) :
    Calls Try.prog 74 #[.string s] w fun e w' => e = .returned (.string (typeP s medTable)) ∧ Below w.heap.size w w' := by
  refine (callsIn_wide (n := 6)).1 ?_
  refine callsIn_of_wp_marks Try.func74 rfl trivial ?_ rfl
  simp only [Try.ntmps74, List.size_toArray, List.length_cons, List.length_nil, Nat.reduceAdd, Nat.reduceSub, Array.replicate_succ, Array.replicate_zero, List.push_toArray, List.append_toArray, List.nil_append, List.cons_append]
  gi_wp2_with (refine ⟨trivial, ?_⟩; gi_at_call 73; refine (callsIn_wide.2 (patterns_any _)).mono ?_; rintro e w' ⟨rfl, rfl⟩)
  have bS := (Boxed.new w 9 (.string s)).alloc (.cells #[.string ⟨#[]⟩] 9)
  have bR := Boxed.new (w.alloc (.cells #[.string s] 9)) 9 (.string ⟨#[]⟩)
  simp only [World.size_alloc] at bR
  have hB0 : Below w.heap.size w ((w.alloc (.cells #[.string s] 9)).alloc (.cells #[.string ⟨#[]⟩] 9)) := ((Below.refl _ w).alloc (Nat.le_refl _) _).alloc (by simp) _
  have hsz : ((w.alloc (.cells #[.string s] 9)).alloc (.cells #[.string ⟨#[]⟩] 9)).heap.size = w.heap.size + 2 := by simp
  obtain ⟨W0, hW0⟩ : ∃ W0, (w.alloc (.cells #[.string s] 9)).alloc (.cells #[.string ⟨#[]⟩] 9) = W0 := ⟨_, rfl⟩
  rw [hW0] at bS bR hB0 hsz ⊢
  clear hW0
  have MB : Hid (∀ (p : FPat) (w : World), Calls Try.prog 22 #[.string s, patV p.1.b p.1.m p.1.k p.1.t] w fun e w' => e = .returned (.bool (matchP s p.1)) ∧ Below w.heap.size w w') := Lib.hid (fun p w => by
    obtain ⟨h1, h2, h3, h4⟩ := full_sizes p.2
    exact Match_any s p.1.b p.1.m p.1.k p.1.t w hs (by unfold maxLen; omega) (by unfold maxLen; omega))
  refine wpIn_rangeFunc_ownH rfl (by omega) (gf := 89) (lb := #[]) rfl trivial (enters_of Try.func89 (by kernel_rfl) rfl) (patterns_stops w.heap.size W0) belowK_t (belowK_b (by omega)) (Below.refl _ _) (fun _ => rfl)
    (fun pre W => ((Boxed W w.heap.size 9 (.string s) ∧ Boxed W (w.heap.size + 1) 9 (.string ⟨#[]⟩)) ∧ NoneOf s pre) ∧ Below w.heap.size w W)
    (fun c pre W => (c = .ret ∧ RetOf s (w.heap.size + 1) pre W) ∧ Below w.heap.size w W)
    (OwnFrom.and (OwnFrom.and (OwnFrom.and (Own.from (boxed_own _ _ _) _) (Own.from (boxed_own _ _ _) _)) (ownFrom_const _)) (ownFrom_below (Nat.le_refl _) (by omega)))
    (fun c => OwnFrom.and (OwnFrom.and (ownFrom_const (fun _ => c = .ret)) (Own.from (retOf_own _ _) _)) (ownFrom_below (Nat.le_refl _) (by omega)))
    ⟨⟨⟨bS, bR⟩, fun p hp => by cases hp⟩, hB0⟩
    (fun x a' W => ∃ Bx, w.heap.size + 1 < Bx ∧ PatBox W Bx x.1 ∧ a' = FrameK w s x Bx)
    (fun x a' _ X Y row hs hg hr => by obtain ⟨Bx, h1, h2, h3⟩ := hs; exact ⟨Bx, h1, patBox_own Bx x.1 () X Y row h2 hg (fun r e => (hr r e).2), h3⟩)
    ?assign ?body ?done ?stop
  case assign =>
    rintro l pre x W K ⟨⟨⟨bS1, bR1⟩, hno⟩, hB1⟩ hK
    gi_wp2
    exact hK _ _ ((KeepsOthers.alloc _ _).from _) ((Below.refl _ W).alloc hB1.size _) ⟨⟨⟨bS1.alloc _, bR1.alloc _⟩, hno⟩, hB1.alloc hB1.size _⟩ ⟨W.heap.size, bR1.lt, PatBox.new W x.1, rfl⟩
  case body =>
    rintro l pre x a' W hl ⟨r, hr⟩ ⟨⟨⟨bS1, bR1⟩, hno⟩, hB1⟩ ⟨Bx, hBx, bX, rfl⟩ hlt
    unfold FrameK
    have cS := bS1.cell
    obtain ⟨c0, c1, c2, c3⟩ := bX.cells
    have HB1 := Lib.hid hB1
    have HNO := Lib.hid hno
    have HS := Lib.hid bS1
    have HR := Lib.hid bR1
    have HX := Lib.hid bX
    have hz := hB1.size
    have zR := bR1.lt
    have zX := bX.lt
    clear hB1 hno bS1 bR1 bX
    cases hm : matchP s x.1
    · have HM := Lib.hid hm
      clear hm
      gi_wp2_with (refine ⟨trivial, ?_⟩; gi_at_call 22; refine (CallsIn.inRound l (callsIn_wide.2 (MB.out x _))).mono ?_; rintro e w' ⟨rfl, hb⟩; rw [HM.out])
      exact ⟨(others_of_below hb).from _, hb.mono hz, ⟨⟨boxed_below HS.out hb (by omega), boxed_below HR.out hb zR⟩, HNO.out.snoc HM.out⟩, HB1.out.trans (hb.mono hz)⟩
    · have HM := Lib.hid hm
      clear hm
      gi_wp2_with (refine ⟨trivial, ?_⟩; gi_at_call 22; refine (CallsIn.inRound l (callsIn_wide.2 (MB.out x _))).mono ?_; rintro e w' ⟨rfl, hb⟩; rw [HM.out]; have cR := (boxed_below HR.out hb zR).cell; have fR := (boxed_below HR.out hb zR).frozen; have d3 := ((HX.out.below hb zX).cells).2.2.2)
      exact ⟨((others_of_below hb).trans (KeepsOthers.setCell _ _ _)).from _, ⟨rfl, pre, x, ⟨rfl, HNO.out, HM.out⟩, (boxed_below HR.out hb zR).set _⟩, (HB1.out.trans (hb.mono hz)).setCell (by simp) _⟩
  case done =>
    rintro D xs W hD hS ⟨⟨⟨bS1, bR1⟩, hno⟩, hB1⟩ hK
    have cR := bR1.cell
    have fR := bR1.frozen
    have HS := Lib.hid hS
    gi_wp2
    have hK' := (KeepsOthers.setCell W ⟨w.heap.size + 1, 0, none⟩ (.string ⟨#[]⟩)).same D _ hK rfl
    have hc5 := cell_kept (World.cell?_setCell_same' W ⟨w.heap.size + 1, 0, none⟩ (.string ⟨#[]⟩) (by rw [cR]; rfl)) (grownBy_putObj' _ D (.deferred none)) (fun r e => by cases e; exact ⟨_, hK', rfl⟩)
    refine ⟨by simp, .inl ⟨_, _, rfl, run_takeDeferred hK', ?_⟩⟩
    refine ⟨.string (typeP s medTable), ?_, rfl, ?_⟩
    · rw [type_noneOf hno HS.out]
      simp [results, Try.results74, go_sem, hc5]
    · exact hB1.trans ((((Below.refl w.heap.size W).setCell (p := ⟨w.heap.size + 1, 0, none⟩) (by simp) _)).trans (belowK_b (w := w) (Nat.le_refl _) _ D _ _ (by omega) hK' rfl rfl))
  case stop =>
    rintro D c pre W hD hS ⟨⟨rfl, pre', p, ⟨rfl, hno, hm⟩, bR1⟩, hB1⟩ hK
    have cR := bR1.cell
    have HS := Lib.hid hS
    gi_wp2
    have hc5 := cell_kept cR (grownBy_putObj' _ D (.deferred none)) (fun r e => by cases e; exact ⟨_, hK, rfl⟩)
    refine ⟨by simp, .inl ⟨_, _, rfl, run_takeDeferred hK, ?_⟩⟩
    refine ⟨.string (typeP s medTable), ?_, rfl, ?_⟩
    · rw [type_firstOf hno hm HS.out]
      simp [results, Try.results74, go_sem, hc5]
    · exact hB1.trans (belowK_b (w := w) (Nat.le_refl _) W D _ _ (by omega) hK rfl rfl)

end Go.Proofs.Ytcpjokjfjhhndaa
