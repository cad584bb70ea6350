/-
  Walks of package media: its table, the longest pattern; the reference's table.
-/
import Derived.Test.YtcpjokjfjhhndaaMediaF
import Derived.Maps.AppendAt
namespace Go.Proofs.Ytcpjokjfjhhndaa
open Go.RowKit
set_option linter.unusedSimpArgs false
set_option linter.unusedVariables false
attribute [local go_sem] Oper.semAt_some

set_option maxRecDepth 20000 in
theorem rTable_med (w : World) : Calls Try.prog 33 #[] w (GivesTab medTable w) := by
  have hb := Below.refl w.heap.size w
  have C := fun (b t : ByteArray) (f u : Nat) (w : World) (hb : b.size ≤ 1000) (hf : f ≤ 1000) (hu : u ≤ 1000) => Exact_any b t f u w hb hf hu
  have C00 : ∀ (b t : ByteArray) (w : World), b.size ≤ 1000 → Calls Try.prog 72 #[.string b, .string t, .int .i64 0, .int .i64 0] w fun e w' => e = .returned (patV (exactP b t 0 0).b (exactP b t 0 0).m (exactP b t 0 0).k (exactP b t 0 0).t) ∧ Below w.heap.size w w' := fun b t w hb => C b t 0 0 w hb (by decide) (by decide)
  have C48 : ∀ (b t : ByteArray) (w : World), b.size ≤ 1000 → Calls Try.prog 72 #[.string b, .string t, .int .i64 4, .int .i64 8] w fun e w' => e = .returned (patV (exactP b t 4 8).b (exactP b t 4 8).m (exactP b t 4 8).k (exactP b t 4 8).t) ∧ Below w.heap.size w w' := fun b t w hb => C b t 4 8 w hb (by decide) (by decide)
  have H00 := Lib.hid C00
  have H48 := Lib.hid C48
  clear C C00 C48
  go_enter Try.func33, Try.ntmps33
  go_wp2_with (first | (go_at_call 72; (with_reducible refine (H00.out _ _ _ (by decide)).mono ?_); rintro e w' ⟨rfl, hb2⟩; replace hb := below_trans hb hb2; clear hb2) | (go_at_call 72; (with_reducible refine (H48.out _ _ _ (by decide)).mono ?_); rintro e w' ⟨rfl, hb2⟩; replace hb := below_trans hb hb2; clear hb2))
  go_ret
  exact ⟨_, _, rfl, patsAt_new _ medTable _, hb.alloc hb.size _⟩

theorem mostN_snoc (l : List Pat) (p : Pat) (n : Nat) : mostN (l ++ [p]) n = max (mostN l n) p.b.size := by
  induction l generalizing n with
  | nil => rfl
  | cons q l ih => simp only [List.cons_append, mostN]; exact ih _

theorem mostN_le64 (l : List FPat) (n : Nat) (h : n ≤ 64) : mostN (l.map (·.1)) n ≤ 64 := by
  induction l generalizing n with
  | nil => exact h
  | cons q l ih =>
    simp only [List.map_cons, mostN]
    have := (full_sizes q.2).1
    exact ih _ (by omega)

def FrameM (w : World) (p : FPat) (Bx : Nat) : Act :=
  { tmps := #[.int .i64 0, .pointer (some ⟨w.heap.size, 0, none⟩), .pointer (some ⟨Bx, 0, none⟩), .func (.func 89) #[] #[], patV p.1.b p.1.m p.1.k p.1.t, undef, undef, undef, undef, undef, undef], defers := [] }

set_option maxRecDepth 100000 in
set_option maxHeartbeats 2000000 in
theorem Most_med (w : World) : Calls Try.prog 36 #[] w fun e w' => e = .returned (.int .i64 (mostN medTable 0)) ∧ Below w.heap.size w w' := by
  refine (callsIn_wide (n := 6)).1 ?_
  refine callsIn_of_wp_marks Try.func36 rfl trivial ?_ rfl
  simp only [Try.ntmps36, List.size_toArray, List.length_cons, List.length_nil, Nat.reduceAdd, Nat.reduceSub, Array.replicate_succ, Array.replicate_zero, List.push_toArray, List.append_toArray, List.nil_append, List.cons_append]
  gi_wp2_with (refine ⟨trivial, ?_⟩; gi_at_call 73; refine (callsIn_wide.2 (patterns_any _)).mono ?_; rintro e w' ⟨rfl, rfl⟩)
  have bL := Boxed.new w 3 (.int .i64 0)
  have hB0 : Below w.heap.size w (w.alloc (.cells #[.int .i64 0] 3)) := below_box w _
  have hsz : (w.alloc (.cells #[.int .i64 0] 3)).heap.size = w.heap.size + 1 := by simp
  obtain ⟨W0, hW0⟩ : ∃ W0, w.alloc (.cells #[.int .i64 0] 3) = W0 := ⟨_, rfl⟩
  rw [hW0] at bL hB0 hsz ⊢
  clear hW0
  refine wpIn_rangeFunc_ownH rfl (by omega) (gf := 89) (lb := #[]) rfl trivial (enters_of Try.func89 (by kernel_rfl) rfl) (patterns_stops w.heap.size W0) belowK_t (belowK_b (by omega)) (Below.refl _ _) (fun _ => rfl)
    (fun pre W => Boxed W w.heap.size 3 (.int .i64 (mostN (pre.map (·.1)) 0)) ∧ Below w.heap.size w W)
    (fun _ _ _ => False)
    (OwnFrom.and (Own.from (boxed_own _ _ (fun pre : List FPat => Value.int .i64 (mostN (pre.map (·.1)) 0))) _) (ownFrom_below (Nat.le_refl _) (by omega)))
    (fun _ _ _ _ _ hs _ _ => hs)
    ⟨bL, hB0⟩
    (fun x a' W => ∃ Bx, w.heap.size < Bx ∧ PatBox W Bx x.1 ∧ a' = FrameM w x Bx)
    (fun x a' _ X Y row hs hg hr => by obtain ⟨Bx, h1, h2, h3⟩ := hs; exact ⟨Bx, h1, patBox_own Bx x.1 () X Y row h2 hg (fun r e => (hr r e).2), h3⟩)
    ?assign ?body ?done ?stop
  case assign =>
    rintro l pre x W K ⟨bL1, hB1⟩ hK
    gi_wp2
    exact hK _ _ ((KeepsOthers.alloc _ _).from _) ((Below.refl _ W).alloc hB1.size _) ⟨bL1.alloc _, hB1.alloc hB1.size _⟩ ⟨W.heap.size, bL1.lt, PatBox.new W x.1, rfl⟩
  case body =>
    rintro l pre x a' W hl ⟨r, hr⟩ ⟨bL1, hB1⟩ ⟨Bx, hBx, bX, rfl⟩ hlt
    unfold FrameM
    have cL := bL1.cell
    have fL := bL1.frozen
    obtain ⟨c0, c1, c2, c3⟩ := bX.cells
    have HB1 := Lib.hid hB1
    have HL := Lib.hid bL1
    have hz := hB1.size
    have hm64 := mostN_le64 pre 0 (by omega)
    have HS : Hid (mostN ((pre ++ [x]).map (·.1)) 0 = max (mostN (pre.map (·.1)) 0) x.1.b.size) := Lib.hid (by rw [List.map_append]; exact mostN_snoc _ _ _)
    obtain ⟨hb64, hb1, _, _⟩ := full_sizes x.2
    clear hB1 bL1 bX c1 c2 c3
    generalize mostN (pre.map (·.1)) 0 = m at *
    rcases Nat.lt_or_ge m x.1.b.size with h | h
    · have HE : Hid (max m x.1.b.size = x.1.b.size) := Lib.hid (by omega)
      have hmax : max (m : Int) (x.1.b.size : Int) = (x.1.b.size : Int) := by omega
      gi_wp2
      exact ⟨(KeepsOthers.setCell _ _ _).from _, (Below.refl w.heap.size W).setCell (by simp) _, by rw [HS.out, HE.out]; exact HL.out.set _, HB1.out.setCell (by simp) _⟩
    · have HE : Hid (max m x.1.b.size = m) := Lib.hid (by omega)
      have hmax : max (m : Int) (x.1.b.size : Int) = (m : Int) := by omega
      gi_wp2
      exact ⟨(KeepsOthers.setCell _ _ _).from _, (Below.refl w.heap.size W).setCell (by simp) _, by rw [HS.out, HE.out]; exact HL.out.set _, HB1.out.setCell (by simp) _⟩
  case done =>
    rintro D xs W hD hS ⟨bL1, hB1⟩ hK
    have cL := bL1.cell
    rw [hS] at cL
    gi_wp2
    refine ⟨by simp, .inl ⟨_, _, rfl, run_takeDeferred hK, ?_⟩⟩
    refine ⟨.int .i64 (mostN medTable 0), ?_, rfl, ?_⟩
    · simp [results, Try.results36, go_sem]
    · exact hB1.trans (belowK_b (w := w) (Nat.le_refl _) W D _ _ (by omega) hK rfl rfl)
  case stop =>
    rintro D c pre W _ _ h _
    exact h.elim

theorem infoPatT : (Try.prog.info? 25).map (fun i => (i.zero, i.size, i.bytes)) = some (some (.agg #[.string ByteArray.empty, .string ByteArray.empty, .string ByteArray.empty, .string ByteArray.empty]), 4, 64) := by kernel_rfl

def FrameT (w : World) (p : FPat) (Bx : Nat) : Act :=
  { tmps := #[.slice none 0 0, .pointer (some ⟨w.heap.size, 0, none⟩), .pointer (some ⟨Bx, 0, none⟩), .func (.func 89) #[] #[], patV p.1.b p.1.m p.1.k p.1.t, undef, undef, undef, undef, undef], defers := [] }

theorem pat_cells_new (W : World) (p : Pat) (e : TypeId) : ∀ j u, (patCells p)[j]? = some u → (W.alloc (.cells #[.string p.b, .string p.m, .string p.k, .string p.t] e)).cell? ((⟨W.heap.size, 0, none⟩ : Addr).add j) = some u := by
  intro j u hj
  rw [Addr.add_lit, Nat.zero_add, cell_of_row _ _ _ _ _ (0, 0) (heap_alloc_new W _)]
  simpa [patCells] using hj

/-- A row of patterns of the call's own. -/
theorem pats_of_own {W : World} {base : Nat} {e : TypeId} {v : Value} {ps : List Pat} {n : Nat} (h : W.ownsRow base e 4 v n (rowP ps)) (hn : n = ps.length) (h0 : ps ≠ []) :
    ∃ g c, v = .slice (some ⟨g, 0, none⟩) ps.length c ∧ PatsAt W W.heap.size (some ⟨g, 0, none⟩) ps := by
  subst hn
  have h' := h.2
  rcases h' with ⟨_, hz⟩ | ⟨g, cap, cur, rfl, hg, hgb, _⟩
  · exact absurd (List.length_eq_zero_iff.1 hz) h0
  refine ⟨g, cap, rfl, .inr ⟨g, rfl, (Array.getElem?_eq_some_iff.1 hgb).1, fun i hi => ?_⟩⟩
  have hc : ∀ j, j < 4 → W.cell? ⟨g, i * 4 + j, none⟩ = (patCells ps[i])[j]? := fun j hj => by
    rw [h.cellAt (i * 4 + j) (by omega), rowP_at ps i hi j hj]
  exact ⟨by simpa [patCells] using hc 0 (by omega), by simpa [patCells] using hc 1 (by omega), by simpa [patCells] using hc 2 (by omega), by simpa [patCells] using hc 3 (by omega)⟩

set_option maxRecDepth 100000 in
set_option maxHeartbeats 2000000 in
theorem Table_med (w : World) : Calls Try.prog 35 #[] w (GivesTab medTable w) := by
  obtain ⟨i0, hi, hz0, hz1, hz2⟩ := info_parts infoPatT
  refine (callsIn_wide (n := 6)).1 ?_
  refine callsIn_of_wp_marks Try.func35 rfl trivial ?_ rfl
  simp only [Try.ntmps35, List.size_toArray, List.length_cons, List.length_nil, Nat.reduceAdd, Nat.reduceSub, Array.replicate_succ, Array.replicate_zero, List.push_toArray, List.append_toArray, List.nil_append, List.cons_append]
  have HI := Lib.hid hi; have HZ0 := Lib.hid hz0; have HZ1 := Lib.hid hz1; have HZ2 := Lib.hid hz2
  clear hi hz0 hz1 hz2
  gi_wp2_with (refine ⟨trivial, ?_⟩; gi_at_call 73; refine (callsIn_wide.2 (patterns_any _)).mono ?_; rintro e w' ⟨rfl, rfl⟩)
  have bL := Boxed.new w 22 (.slice none 0 0)
  have hB0 : Below w.heap.size w (w.alloc (.cells #[.slice none 0 0] 22)) := below_box w _
  have hsz : (w.alloc (.cells #[.slice none 0 0] 22)).heap.size = w.heap.size + 1 := by simp
  obtain ⟨W0, hW0⟩ : ∃ W0, w.alloc (.cells #[.slice none 0 0] 22) = W0 := ⟨_, rfl⟩
  rw [hW0] at bL hB0 hsz ⊢
  clear hW0
  refine wpIn_rangeFunc_ownH rfl (by omega) (gf := 89) (lb := #[]) rfl trivial (enters_of Try.func89 (by kernel_rfl) rfl) (patterns_stops w.heap.size W0) belowK_t (belowK_b (by omega)) (Below.refl _ _) (fun _ => rfl)
    (fun pre W => (∃ v, Boxed W w.heap.size 22 v ∧ W.ownsRow w.heap.size 25 4 v pre.length (rowP (pre.map (·.1))) ∧ True) ∧ Below w.heap.size w W)
    (fun _ _ _ => False)
    (OwnFrom.and (Own.from (holdsRow_own w.heap.size w.heap.size 22 25 4 (fun pre : List FPat => pre.length) (fun pre => rowP (pre.map (·.1))) (fun _ _ => True)) _) (ownFrom_below (Nat.le_refl _) (by omega)))
    (fun _ _ _ _ _ hs _ _ => hs)
    ⟨⟨_, bL, World.ownsRow_nil _ _ _ _, trivial⟩, hB0⟩
    (fun x a' W => ∃ Bx, w.heap.size < Bx ∧ PatBox W Bx x.1 ∧ a' = FrameT w x Bx)
    (fun x a' _ X Y row hs hg hr => by obtain ⟨Bx, h1, h2, h3⟩ := hs; exact ⟨Bx, h1, patBox_own Bx x.1 () X Y row h2 hg (fun r e => (hr r e).2), h3⟩)
    ?assign ?body ?done ?stop
  case assign =>
    rintro l pre x W K ⟨⟨v, bL1, hrow, _⟩, hB1⟩ hK
    gi_wp2
    exact hK _ _ ((KeepsOthers.alloc _ _).from _) ((Below.refl _ W).alloc hB1.size _) ⟨⟨v, bL1.alloc _, hrow.alloc _, trivial⟩, hB1.alloc hB1.size _⟩ ⟨W.heap.size, bL1.lt, PatBox.new W x.1, rfl⟩
  case body =>
    rintro l pre x a' W hl ⟨r, hr⟩ ⟨⟨v, bL1, hrow, _⟩, hB1⟩ ⟨Bx, hBx, bX, rfl⟩ hlt
    unfold FrameT
    have cL := bL1.cell
    have fL := bL1.frozen
    obtain ⟨c0, c1, c2, c3⟩ := bX.cells
    have HB1 := Lib.hid hB1
    have HL := Lib.hid bL1
    have HROW := Lib.hid hrow
    have hz := hB1.size
    have k0 := Lib.hid (hrow.alloc (.cells #[.string x.1.b, .string x.1.m, .string x.1.k, .string x.1.t] 25))
    have k1 := Lib.hid (pat_cells_new W x.1 25)
    have k2 := Lib.hid (show ∀ v ∈ patCells x.1, v.oneCell' = true from by intro v hv; simp [patCells] at hv; rcases hv with rfl | rfl | rfl | rfl <;> rfl)
    have k3 := Lib.hid (show pre.length + 1 ≤ maxLen from by unfold maxLen; omega)
    have k4 := Lib.hid (show (pre.length + 1) * 64 ≤ 140737488355328 from by omega)
    have k5 := Lib.hid (show w.heap.size ≤ (W.alloc (.cells #[.string x.1.b, .string x.1.m, .string x.1.k, .string x.1.t] 25)).heap.size from by simp; omega)
    clear hB1 bL1 bX hrow
    gi_wp2_with (gi_at_builtin; refine wpListIn_append_own _ rfl _ _ 22 rfl w.heap.size 25 i0 _ 4 64 Try.underlying22 HI.out HZ0.out HZ1.out HZ2.out rfl (by decide) _ _ _ rfl k0.out ⟨W.heap.size, 0, none⟩ 1 1 (patCells x.1) rfl rfl k1.out k2.out k3.out k4.out k5.out ?_; intro v' w1 hown' hgrow _; obtain ⟨g', cap', rfl⟩ := ownsRow_succ hown'; obtain ⟨hv1, hv2, hr2, hk2, hb2⟩ := HL.out.appended (by decide) HROW.out hz (Nat.le_refl _) hown' hgrow; have hc1 := hv1.cell; have hf1 := hv1.frozen)
    exact ⟨hk2.from _, hb2, ⟨_, hv2, by rw [List.map_append, List.length_append]; rw [show List.map (fun (x : FPat) => x.1) [x] = [x.1] from rfl, rowP_snoc]; exact hr2, trivial⟩, HB1.out.trans hb2⟩
  case done =>
    rintro D xs W hD hS ⟨⟨v, bL1, hrow, _⟩, hB1⟩ hK
    have cL := bL1.cell
    have hlen : xs.length = medTable.length := by rw [← hS]; simp
    rw [hS] at hrow
    obtain ⟨g, c, rfl, hp⟩ := pats_of_own hrow hlen (by decide)
    have HP := Lib.hid (pats_of_own (ownsRow_putObj hrow (.deferred none) hK rfl) hlen (by decide))
    have HS := Lib.hid hS
    clear hp hrow hS
    gi_wp2
    refine ⟨by simp, .inl ⟨_, _, rfl, run_takeDeferred hK, ?_⟩⟩
    refine ⟨.slice (some ⟨g, 0, none⟩) medTable.length c, ?_, ⟨g, c, rfl, ?_, ?_⟩⟩
    · simp [results, Try.results35, go_sem]
    · obtain ⟨g2, c2, e, hp⟩ := HP.out
      simp only [Value.slice.injEq, Option.some.injEq, Addr.mk.injEq, and_true, true_and] at e
      obtain ⟨rfl, rfl⟩ := e
      exact hp
    · exact hB1.trans (belowK_b (w := w) (Nat.le_refl _) W D _ _ (by omega) hK rfl rfl)
  case stop =>
    rintro D c pre W _ _ h _
    exact h.elim

theorem Open_med (s : ByteArray) (w : World) (hs : s.size ≤ 1000) :
    Calls Try.prog 42 #[.string s] w fun e w' => e = .returned (.bool (decide (0 < needsN s medTable))) ∧ Below w.heap.size w w' := by
  have C := Lib.hid (fun w => lacks_med s w hs)
  generalize needsN s medTable = n at *
  go_enter Try.func42, Try.ntmps42
  go_wp2_with (go_at_call 75; refine (C.out _).mono ?_; rintro e w' ⟨rfl, hb⟩)
  go_ret
  exact ⟨ret_bool (by exact decide_eq_decide.2 (by omega)), hb⟩

theorem Needs_med (s : ByteArray) (w : World) (hs : s.size ≤ 1000) :
    Calls Try.prog 44 #[.string s] w fun e w' => e = .returned (.int .i64 (needsN s medTable)) ∧ Below w.heap.size w w' := by
  have C := Lib.hid (fun w => lacks_med s w hs)
  generalize needsN s medTable = n at *
  go_enter Try.func44, Try.ntmps44
  go_wp2_with (go_at_call 75; refine (C.out _).mono ?_; rintro e w' ⟨rfl, hb⟩)
  go_ret
  exact ⟨rfl, hb⟩

end Go.Proofs.Ytcpjokjfjhhndaa
