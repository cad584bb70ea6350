/-
  Lemmas of this claim, part 6: the texts MimeG, MimeH, one behind the other.
-/
import Derived.Test.YtcbhkcdphbffpaaGreatDoorM5
import Derived.Maps.AppendAt
import Derived.Laws.OwnMore
import Derived.Deep.Onto

namespace Go.Proofs.YtcbhkcdphbffpaaGreatDoor
open Go.RowKit
set_option linter.unusedSimpArgs false
set_option linter.unusedVariables false

theorem rowQ_length (l : Pars) : (rowQ l).length = l.length * 2 := by
  induction l with
  | nil => rfl
  | cons p r ih =>
    have h : (parCells p).length = 2 := rfl
    simp only [rowQ, List.flatMap_cons, List.length_append, List.length_cons, h] at ih ⊢
    omega

theorem rowQ_cells (l : Pars) : ∀ u ∈ rowQ l, u.oneCell' = true := by
  intro u hu
  simp only [rowQ, List.mem_flatMap, parCells, List.mem_cons, List.mem_nil_iff, or_false] at hu
  obtain ⟨p, _, rfl | rfl⟩ := hu <;> rfl

theorem pars_cells {w : World} {B : Nat} {A : Addr} {l : Pars} (h : ParsAt w B (some A) l) : ∀ j u, (rowQ l)[j]? = some u → w.cell? (A.add j) = some u := by
  intro j u hj
  have hlt : j < (rowQ l).length := (List.getElem?_eq_some_iff.1 hj).1
  rw [rowQ_length] at hlt
  rcases h with h | ⟨g', hA, hg, hcs⟩
  · rw [h] at hlt; simp at hlt
  · simp only [Option.some.injEq] at hA
    subst hA
    rw [Addr.add_lit, Nat.zero_add]
    obtain ⟨c0, c1⟩ := hcs (j / 2) (by omega)
    have hj2 : (rowQ l)[j / 2 * 2 + j % 2]? = some u := by rw [← hj]; congr 1; omega
    rw [rowQ_at l (j / 2) (by omega) (j % 2) (by omega)] at hj2
    have hb : j % 2 = 0 ∨ j % 2 = 1 := by omega
    rcases hb with h0 | h0
    · rw [h0] at hj2
      rw [show j = j / 2 * 2 by omega, c0]
      simpa [parCells] using hj2
    · rw [h0] at hj2
      rw [show j = j / 2 * 2 + 1 by omega, c1]
      simpa [parCells] using hj2

/-- A value that is a row of parameters, the call's own. -/
def OwnPars (w : World) (B : Nat) (v : Value) (l : Pars) : Prop := w.ownsRow B 96 2 v l.length (rowQ l)

set_option maxRecDepth 20000 in
theorem ClonePar_any (l : Pars) (A : Option Addr) (c : Nat) (w : World) (hn : l.length ≤ 1100) (hA : ParsAt w w.heap.size A l) :
    Calls Tryz.prog 184 #[.slice A l.length c] w fun e w' => ∃ v, e = .returned v ∧ OwnPars w' w.heap.size v l ∧ Below w.heap.size w w' := by
  obtain ⟨i0, hi, hz0, hz1, hz2⟩ := info_parts infoPar
  have HI := Lib.hid hi; have HZ0 := Lib.hid hz0; have HZ1 := Lib.hid hz1; have HZ2 := Lib.hid hz2
  clear hi hz0 hz1 hz2
  have heq : ∀ w, (binOp .eql 34 (.slice A l.length c) (.slice none 0 0)).run Tryz.prog w = .ok (.bool A.isNone) w := fun w => Lib.run_eql_slice_nil w _ _ A l.length c 0 0 Tryz.underlying34
  have HA := Lib.hid hA
  clear hA
  unfold OwnPars
  rcases A with _ | ⟨⟨g, o, f⟩⟩
  · have hl : l = [] := by
      rcases HA.out with h | ⟨_, h, _⟩
      · exact h
      · simp at h
    subst hl
    clear HA
    simp only [List.length_nil, Option.isNone_none] at heq
    go_enter Tryz.func184, Tryz.ntmps184
    go_wp2_with fail
    go_ret
    exact ⟨_, rfl, World.ownsRow_nil _ _ _ _, Below.refl _ _⟩
  · simp only [Option.isNone_some] at heq
    go_enter Tryz.func184, Tryz.ntmps184
    have HM1 := Lib.hid (show 0 + l.length ≤ maxLen from by unfold maxLen; omega)
    have HM2 := Lib.hid (show (0 + l.length) * 32 ≤ 140737488355328 from by omega)
    have K1 := Lib.hid (World.ownsRow_lit (base := w.heap.size) (size := 2) (e := 96) w #[] 0 (Nat.le_refl _) (by decide) rfl)
    go_wp2_with (at_builtin; go_must (refine wpList_append_own_at _ rfl (.tmp 5) (.tmp 6) 34 rfl w.heap.size 96 i0 (.agg #[.string ByteArray.empty, .string ByteArray.empty]) 2 32 Tryz.underlying34 HI.out HZ0.out HZ1.out HZ2.out rfl (by decide) _ _ _ rfl K1.out _ _ _ (rowQ l) rfl (rowQ_length l) (pars_cells (HA.out.below (below_box w _))) (rowQ_cells l) HM1.out HM2.out (by simp) ?_; intro v2 w2 h1 h2 h3 h4; have H1 := Lib.hid h1; have H2 := Lib.hid h2; clear h1 h2 h3 h4))
    go_ret
    exact ⟨v2, rfl, by simpa using H1.out, (below_box w _).grown H2.out (by simp) (fun j hj => by simp [Act.eval, Value.ownBlock] at hj; omega)⟩

theorem parsOf {w : World} {B : Nat} {v : Value} {l : Pars} (h : OwnPars w B v l) : ∃ A c, v = .slice A l.length c ∧ ParsAt w w.heap.size A l := pars_of_own h rfl

def withM (m : MimeL) (n v : List UInt8) : MimeL := ⟨m.t, m.s, m.ps ++ [(n, v)]⟩

def noM : MimeL := ⟨[], [], []⟩

def withR (m : MimeL) (n v : List UInt8) : MimeL × Nat :=
  if goodL (withM m n v) then (withM m n v, 0) else if goodL m && decide (0 ≤ atL m.ps n) && quoL v then (noM, 7) else (noM, 2)

theorem heap_new2 (Z : World) (o : Obj) (k : Nat) (hk : k = Z.heap.size) : (Z.alloc o).heap[k]? = some o := by subst hk; exact heap_alloc_new Z o

theorem heap_drew1 {Z : World} {k : Nat} {r : Option Obj} (h : Z.heap[k]? = r) : Z.drew.heap[k]? = r := h

theorem heap_old (Z : World) (o : Obj) {k : Nat} {r : Obj} (h : Z.heap[k]? = some r) : (Z.alloc o).heap[k]? = some r := (Below.heap_alloc Z o k (Array.getElem?_eq_some_iff.1 h).1).trans h

theorem clone_step {W X w1 : World} {v : Value} {l : Pars} (hX : Below W.heap.size W X) (ho : OwnPars w1 X.heap.size v l) (hb : Below X.heap.size X w1) :
    w1.ownsRow W.heap.size 96 2 v l.length (rowQ l) ∧ Below W.heap.size W w1 ∧ (∀ g, g < X.heap.size → w1.heap[g]? = X.heap[g]?) ∧ (∀ g, (g < X.heap.size ∨ w1.heap.size ≤ g) → v.ownBlock ≠ some g) ∧ W.heap.size ≤ w1.heap.size ∧ X.heap.size ≤ w1.heap.size :=
  ⟨World.ownsRow.mono ho hX.size, hX.trans (hb.mono hX.size), fun g hg => hb.block g hg, fun g hg e => by have := World.ownsRow.lt ho g e; omega, Nat.le_trans hX.size hb.size, hb.size⟩

theorem bl0 (W : World) : Below W.heap.size W W.drew := (Below.refl _ _).drew
theorem bl1 (W : World) (o : Obj) : Below W.heap.size W (W.drew.alloc o) := (bl0 W).alloc (Nat.le_refl _) o
theorem bl2 (W : World) (o o2 : Obj) : Below W.heap.size W ((W.drew.alloc o).alloc o2) := (bl1 W o).alloc (by simp) o2

theorem ParsAt.set {w : World} {B : Nat} {A : Option Addr} {l : Pars} (h : ParsAt w B A l) {p : Addr} (hp : ∀ g, A = some ⟨g, 0, none⟩ → p.block ≠ g) (u : Value) : ParsAt (w.setCell p u) B A l := by
  rcases h with h | ⟨g, hA, hg, hcs⟩
  · exact .inl h
  · refine .inr ⟨g, hA, hg, fun i hi => ?_⟩
    obtain ⟨h1, h2⟩ := hcs i hi
    exact ⟨by rw [World.cell?_setCell_far _ _ _ _ (hp g hA)]; exact h1, by rw [World.cell?_setCell_far _ _ _ _ (hp g hA)]; exact h2⟩

/-- A type in a block. -/
def MimeBox (W : World) (B : Nat) (m : MimeL) (A : Option Addr) (c : Nat) (wx : World) : Prop :=
  Below W.heap.size W wx ∧ W.heap.size ≤ B ∧ B < wx.heap.size ∧ wx.cell? ⟨B, 0, none⟩ = some (.string (bt m.t)) ∧ wx.cell? ⟨B, 1, none⟩ = some (.string (bt m.s)) ∧ wx.cell? ⟨B, 2, none⟩ = some (.slice A m.ps.length c) ∧ ParsAt wx wx.heap.size A m.ps ∧ ∀ g, A = some ⟨g, 0, none⟩ → W.heap.size ≤ g

theorem with_leaf {W Z : World} {B g3 c3 : Nat} (m : MimeL) (n v : List UInt8) (hZ : Below W.heap.size W Z) (hB : W.heap.size ≤ B) (hBz : B < Z.heap.size) (hg : g3 ≠ B)
    (ho : Z.ownsRow W.heap.size 96 2 (.slice (some ⟨g3, 0, none⟩) (m.ps.length + 1) c3) (m.ps.length + 1) (rowQ m.ps ++ parCells (n, v)))
    (hc : Z.heap[B]? = some (.cells #[.string ⟨#[]⟩, .string ⟨#[]⟩, .slice none 0 0] 36 (0, 0))) :
    ∃ B2 A2 c2, Value.pointer (some ⟨B, 0, none⟩) = .pointer (some ⟨B2, 0, none⟩) ∧ MimeBox W B2 (withM m n v) A2 c2 (((Z.setCell ⟨B, 0, none⟩ (.string (bt m.t))).setCell ⟨B, 1, none⟩ (.string (bt m.s))).setCell ⟨B, 2, none⟩ (.slice (some ⟨g3, 0, none⟩) (m.ps.length + 1) c3)) := by
  have hl : (withM m n v).ps.length = m.ps.length + 1 := by simp [withM]
  refine ⟨B, some ⟨g3, 0, none⟩, c3, rfl, ((hZ.setCell hB _).setCell hB _).setCell hB _, hB, by simpa using hBz, ?_, ?_, ?_, ?_, ?_⟩
  · have c0 : Z.cell? ⟨B, 0, none⟩ = some (.string ⟨#[]⟩) := by rw [Lib.cell_of_heap hc]; rfl
    simp [go_sem, c0, withM]
  · have c1 : Z.cell? ⟨B, 1, none⟩ = some (.string ⟨#[]⟩) := by rw [Lib.cell_of_heap hc]; rfl
    simp [go_sem, c1, withM]
  · have c2 : Z.cell? ⟨B, 2, none⟩ = some (.slice none 0 0) := by rw [Lib.cell_of_heap hc]; rfl
    rw [hl]
    simp [go_sem, c2, withM]
  · refine pars_stands (base := W.heap.size) (e := 96) (c := c3) (n := m.ps.length + 1) (row_stands (by rw [withM, rowQ_snoc]; exact ho) (fun k hk _ => ?_)) hl.symm
    have hk2 : k = g3 := by simpa [Value.ownBlock] using hk.symm
    subst hk2
    simp [World.setCell, Array.getElem?_modify, Ne.symm hg]
  · rintro g hg3
    simp at hg3
    subst hg3
    exact (ho.lt g3 rfl).1

theorem with_leaf2 {W Z : World} {g3 c3 : Nat} (m : MimeL) (n v : List UInt8) (hZ : Below W.heap.size W Z) (hB : W.heap.size ≤ Z.heap.size)
    (ho : Z.ownsRow W.heap.size 96 2 (.slice (some ⟨g3, 0, none⟩) (m.ps.length + 1) c3) (m.ps.length + 1) (rowQ m.ps ++ parCells (n, v))) :
    ∃ B2 A2 c2, Value.pointer (some ⟨Z.heap.size, 0, none⟩) = .pointer (some ⟨B2, 0, none⟩) ∧ MimeBox W B2 (withM m n v) A2 c2 (Z.alloc (.cells #[.string (bt m.t), .string (bt m.s), .slice (some ⟨g3, 0, none⟩) (m.ps.length + 1) c3] 36)) := by
  have hl : (withM m n v).ps.length = m.ps.length + 1 := by simp [withM]
  refine ⟨Z.heap.size, some ⟨g3, 0, none⟩, c3, rfl, hZ.alloc hB _, hB, by simp, ?_, ?_, ?_, ?_, ?_⟩
  · simp [go_sem, withM]
  · simp [go_sem, withM]
  · rw [hl]
    simp [go_sem, withM]
  · exact pars_stands (base := W.heap.size) (e := 96) (c := c3) (n := m.ps.length + 1) (by rw [withM, rowQ_snoc]; exact ho.alloc _) hl.symm
  · rintro g hg3
    simp at hg3
    subst hg3
    exact (ho.lt g3 rfl).1

theorem withM_sizes {m : MimeL} {n v : List UInt8} (hm : SizesM m) (hn : n.length ≤ 1100) (hv : v.length ≤ 1100) (hl : m.ps.length ≤ 1099) : SizesM (withM m n v) := by
  refine ⟨hm.t, hm.s, by simp [withM]; omega, ?_⟩
  intro p hp
  simp only [withM, List.mem_append, List.mem_singleton] at hp
  rcases hp with hp | rfl
  · exact hm.ps.2 p hp
  · exact ⟨hn, hv⟩

set_option maxHeartbeats 4000000 in
set_option maxRecDepth 20000 in
theorem With_own (m : MimeL) (A : Option Addr) (c : Nat) (n v : List UInt8) (w : World) (hm : SizesM m) (hn : n.length ≤ 1100) (hv : v.length ≤ 1100) (hl : m.ps.length ≤ 1099) (hA : ParsAt w w.heap.size A m.ps) :
    Calls Tryz.prog 159 #[mimV m A c, .string (bt n), .string (bt v)] w fun e w' => ∃ A2 c2, e = .returned (.tuple #[mimV (withR m n v).1 A2 c2, .int .i64 (withR m n v).2]) ∧ ParsAt w' w'.heap.size A2 (withR m n v).1.ps ∧ Below w.heap.size w w' ∧ ∀ g, A2 = some ⟨g, 0, none⟩ → w.heap.size ≤ g := by
  obtain ⟨i0, hi, hz0, hz1, hz2⟩ := info_parts infoPar
  have HI := Lib.hid hi; have HZ0 := Lib.hid hz0; have HZ1 := Lib.hid hz1; have HZ2 := Lib.hid hz2
  clear hi hz0 hz1 hz2
  have HM := Lib.hid hm
  have HA := Lib.hid hA
  have HL := Lib.hid hl
  have hN : (bt n).size ≤ maxLen := bt_max hn
  have hV : (bt v).size ≤ maxLen := bt_max hv
  clear hm hA hl
  have HCL := Lib.hid (fun (w1 : World) (hb : Below w.heap.size w w1) => ClonePar_any m.ps A c w1 HM.out.ps.1 (HA.out.on hb))
  unfold mimV
  go_enter Tryz.func159, Tryz.ntmps159
  go_upto_region 1 with fail
  generalize hW : (w.alloc (.cells #[.string (bt m.t), .string (bt m.s), .slice A m.ps.length c] 36)).alloc (.cells #[.string ⟨#[]⟩, .string ⟨#[]⟩, .slice none 0 0] 36) = W
  have q0 : W.cell? ⟨w.heap.size, 0, none⟩ = some (.string (bt m.t)) := by rw [← hW]; simp [go_sem]
  have q1 : W.cell? ⟨w.heap.size, 1, none⟩ = some (.string (bt m.s)) := by rw [← hW]; simp [go_sem]
  have q2 : W.cell? ⟨w.heap.size, 2, none⟩ = some (.slice A m.ps.length c) := by rw [← hW]; simp [go_sem]
  have HWB : Hid (Below w.heap.size w W) := Lib.hid (by rw [← hW]; exact (below_box _ _).alloc (by simp) _)
  have HQR : Hid (W.heap[w.heap.size + 1]? = some (.cells #[.string ⟨#[]⟩, .string ⟨#[]⟩, .slice none 0 0] 36 (0, 0))) := Lib.hid (by
    rw [← hW]
    have := heap_alloc_new (w.alloc (.cells #[.string (bt m.t), .string (bt m.s), .slice A m.ps.length c] 36)) (.cells #[.string ⟨#[]⟩, .string ⟨#[]⟩, .slice none 0 0] 36)
    simpa using this)
  have HWZ : Hid (W.heap.size = w.heap.size + 2) := Lib.hid (by rw [← hW]; simp)
  clear hW
  have hw1 : w.heap.size < W.heap.size := by have := HWZ.out; omega
  go_cut [8] (fun u wx => ∃ B A2 c2, u = .pointer (some ⟨B, 0, none⟩) ∧ MimeBox W B (withM m n v) A2 c2 wx)
  case first =>
    have HX0 : Hid (Below w.heap.size w W.drew) := Lib.hid HWB.out.drew
    have HS0 : Hid (w.heap.size ≤ W.drew.heap.size) := Lib.hid (Nat.le_of_lt hw1)
    have K2 := Lib.hid (show ∀ u ∈ parCells (n, v), u.oneCell' = true from by intro u hu; simp [parCells] at hu; rcases hu with rfl | rfl <;> rfl)
    have K3 := Lib.hid (show m.ps.length + 1 ≤ maxLen from by have := HL.out; unfold maxLen; omega)
    have K4 := Lib.hid (show (m.ps.length + 1) * 32 ≤ 140737488355328 from by have := HL.out; omega)
    have dW : W.heap.size ≠ w.heap.size := by omega
    have dW1 : W.heap.size + 1 ≠ w.heap.size := by omega
    go_region_held3 (fun w' => w'.cell? ⟨w.heap.size, 0, none⟩ = some (.string (bt m.t)) ∧ w'.cell? ⟨w.heap.size, 1, none⟩ = some (.string (bt m.s)) ∧ w'.cell? ⟨w.heap.size, 2, none⟩ = some (.slice A m.ps.length c))
      (first | exact ⟨s0, s1, s2⟩ | exact ⟨t0, t1, t2⟩ | go_keep)
      (first
        | (go_at_call 184; (refine Calls.mono (HCL.out _ ?_) ?_); (first | exact HX0.out | exact HX0.out.alloc HS0.out _ | exact (HX0.out.alloc HS0.out _).alloc (Nat.le_trans HS0.out (by simp)) _); rintro e w1 ⟨v1, rfl, ho1, hb1⟩; obtain ⟨ho2, hbw, hbk, hne, hsz1, hsz2⟩ := clone_step (by first | exact bl0 W | exact bl1 W _ | exact bl2 W _ _) ho1 hb1; have t0 : w1.cell? ⟨w.heap.size, 0, none⟩ = some (.string (bt m.t)) := (by rw [cell_below hbw hw1]; exact q0); have t1 : w1.cell? ⟨w.heap.size, 1, none⟩ = some (.string (bt m.s)) := (by rw [cell_below hbw hw1]; exact q1); have t2 : w1.cell? ⟨w.heap.size, 2, none⟩ = some (.slice A m.ps.length c) := (by rw [cell_below hbw hw1]; exact q2); have HO1 := Lib.hid ho2; have HBW1 := Lib.hid hbw; have HBK := Lib.hid hbk; have HNE := Lib.hid hne; have HSZ2 := Lib.hid hsz2; have d1 : w1.heap.size ≠ w.heap.size := (by omega); have d2 : w1.heap.size + 1 ≠ w.heap.size := (by omega); clear ho1 hb1 ho2 hbw hbk hne hsz2)
        | (refine step_append_lies _ rfl (.tmp 15) (.tmp 19) 34 rfl W.heap.size 96 i0 (.agg #[.string ByteArray.empty, .string ByteArray.empty]) 2 32 Tryz.underlying34 HI.out HZ0.out HZ1.out HZ2.out rfl (by decide) v1 m.ps.length (rowQ m.ps) rfl ?_ _ 1 1 (parCells (n, v)) rfl rfl ?_ K2.out (by decide) K3.out K4.out ?_ _ rfl ?_; (first | exact HO1.out | exact HO1.out.alloc _ | exact (HO1.out.alloc _).alloc _); (focus (refine World.news_of_block (cs := #[.string (bt n), .string (bt v)]) (t := 96) (fr := (0, 0)) ?_; (repeat (first | (with_reducible refine heap_drew1 ?_) | (with_reducible refine heap_new2 _ _ _ ?_; (focus (simp; done))) | (with_reducible refine heap_old _ _ ?_) | (refine (HBK.out _ ?_).trans ?_; (focus (first | (simp; done) | (simp; omega)))))); done)); (focus (first | omega | (simp; omega))); intro g3 c3 w2 hown hgrow hat hlt3; have hbw2 : Below W.heap.size W w2 := (by refine Below.grown ?_ hgrow ?_ (fun j hj => (HO1.out.lt j hj).1); (focus (first | exact HBW1.out | exact HBW1.out.alloc hsz1 _ | exact (HBW1.out.alloc hsz1 _).alloc (by simp; omega) _)); (first | omega | (simp; omega))); have s0 : w2.cell? ⟨w.heap.size, 0, none⟩ = some (.string (bt m.t)) := (by rw [cell_below hbw2 hw1]; exact q0); have s1 : w2.cell? ⟨w.heap.size, 1, none⟩ = some (.string (bt m.s)) := (by rw [cell_below hbw2 hw1]; exact q1); have s2 : w2.cell? ⟨w.heap.size, 2, none⟩ = some (.slice A m.ps.length c) := (by rw [cell_below hbw2 hw1]; exact q2); have hzw2 := hbw2.size; have d3 : w2.heap.size ≠ w.heap.size := (by omega); (first | ((refine (fun (hm2 : w2.heap[w1.heap.size]? = some (.cells #[.string ⟨#[]⟩, .string ⟨#[]⟩, .slice none 0 0] 36 (0, 0))) => ?_) ?_); rotate_left; (focus (refine (hgrow.block _ ?_ ?_).trans ?_; (focus (first | (simp; done) | (simp; omega) | (have hq := HSZ2.out; simp at hq; omega) | (have hq := HSZ2.out; simp at hq; simp; omega))); (focus (intro he; refine HNE.out _ ?_ he.symm; first | (left; (simp; done)) | (right; (simp; done)) | (left; (simp; omega)) | (right; (simp; omega)))); (repeat (first | (with_reducible refine heap_drew1 ?_) | (with_reducible refine heap_new2 _ _ _ ?_; (focus (simp; done))) | (with_reducible refine heap_old _ _ ?_) | (refine (HBK.out _ ?_).trans ?_; (focus (first | (simp; done) | (simp; omega)))))); done)); have HM2 := Lib.hid hm2; have z0 : w2.cell? ⟨w1.heap.size, 0, none⟩ = some (.string ⟨#[]⟩) := (by rw [Lib.cell_of_heap hm2]; rfl); have z1 : w2.cell? ⟨w1.heap.size, 1, none⟩ = some (.string ⟨#[]⟩) := (by rw [Lib.cell_of_heap hm2]; rfl); have z2 : w2.cell? ⟨w1.heap.size, 2, none⟩ = some (.slice none 0 0) := (by rw [Lib.cell_of_heap hm2]; rfl); have fz : ∀ o, w2.frozen? ⟨w1.heap.size, o, none⟩ = false := (fun o => Lib.frozen_of_heap hm2 o); clear hm2) | ((refine (fun (hm2 : w2.heap[(w1.heap.size + 1)]? = some (.cells #[.string ⟨#[]⟩, .string ⟨#[]⟩, .slice none 0 0] 36 (0, 0))) => ?_) ?_); rotate_left; (focus (refine (hgrow.block _ ?_ ?_).trans ?_; (focus (first | (simp; done) | (simp; omega) | (have hq := HSZ2.out; simp at hq; omega) | (have hq := HSZ2.out; simp at hq; simp; omega))); (focus (intro he; refine HNE.out _ ?_ he.symm; first | (left; (simp; done)) | (right; (simp; done)) | (left; (simp; omega)) | (right; (simp; omega)))); (repeat (first | (with_reducible refine heap_drew1 ?_) | (with_reducible refine heap_new2 _ _ _ ?_; (focus (simp; done))) | (with_reducible refine heap_old _ _ ?_) | (refine (HBK.out _ ?_).trans ?_; (focus (first | (simp; done) | (simp; omega)))))); done)); have HM2 := Lib.hid hm2; have z0 : w2.cell? ⟨(w1.heap.size + 1), 0, none⟩ = some (.string ⟨#[]⟩) := (by rw [Lib.cell_of_heap hm2]; rfl); have z1 : w2.cell? ⟨(w1.heap.size + 1), 1, none⟩ = some (.string ⟨#[]⟩) := (by rw [Lib.cell_of_heap hm2]; rfl); have z2 : w2.cell? ⟨(w1.heap.size + 1), 2, none⟩ = some (.slice none 0 0) := (by rw [Lib.cell_of_heap hm2]; rfl); have fz : ∀ o, w2.frozen? ⟨(w1.heap.size + 1), o, none⟩ = false := (fun o => Lib.frozen_of_heap hm2 o); clear hm2) | ((refine (fun (hm2 : w2.heap[W.heap.size]? = some (.cells #[.string ⟨#[]⟩, .string ⟨#[]⟩, .slice none 0 0] 36 (0, 0))) => ?_) ?_); rotate_left; (focus (refine (hgrow.block _ ?_ ?_).trans ?_; (focus (first | (simp; done) | (simp; omega) | (have hq := HSZ2.out; simp at hq; omega) | (have hq := HSZ2.out; simp at hq; simp; omega))); (focus (intro he; refine HNE.out _ ?_ he.symm; first | (left; (simp; done)) | (right; (simp; done)) | (left; (simp; omega)) | (right; (simp; omega)))); (repeat (first | (with_reducible refine heap_drew1 ?_) | (with_reducible refine heap_new2 _ _ _ ?_; (focus (simp; done))) | (with_reducible refine heap_old _ _ ?_) | (refine (HBK.out _ ?_).trans ?_; (focus (first | (simp; done) | (simp; omega)))))); done)); have HM2 := Lib.hid hm2; have z0 : w2.cell? ⟨W.heap.size, 0, none⟩ = some (.string ⟨#[]⟩) := (by rw [Lib.cell_of_heap hm2]; rfl); have z1 : w2.cell? ⟨W.heap.size, 1, none⟩ = some (.string ⟨#[]⟩) := (by rw [Lib.cell_of_heap hm2]; rfl); have z2 : w2.cell? ⟨W.heap.size, 2, none⟩ = some (.slice none 0 0) := (by rw [Lib.cell_of_heap hm2]; rfl); have fz : ∀ o, w2.frozen? ⟨W.heap.size, o, none⟩ = false := (fun o => Lib.frozen_of_heap hm2 o); clear hm2) | ((refine (fun (hm2 : w2.heap[(W.heap.size + 1)]? = some (.cells #[.string ⟨#[]⟩, .string ⟨#[]⟩, .slice none 0 0] 36 (0, 0))) => ?_) ?_); rotate_left; (focus (refine (hgrow.block _ ?_ ?_).trans ?_; (focus (first | (simp; done) | (simp; omega) | (have hq := HSZ2.out; simp at hq; omega) | (have hq := HSZ2.out; simp at hq; simp; omega))); (focus (intro he; refine HNE.out _ ?_ he.symm; first | (left; (simp; done)) | (right; (simp; done)) | (left; (simp; omega)) | (right; (simp; omega)))); (repeat (first | (with_reducible refine heap_drew1 ?_) | (with_reducible refine heap_new2 _ _ _ ?_; (focus (simp; done))) | (with_reducible refine heap_old _ _ ?_) | (refine (HBK.out _ ?_).trans ?_; (focus (first | (simp; done) | (simp; omega)))))); done)); have HM2 := Lib.hid hm2; have z0 : w2.cell? ⟨(W.heap.size + 1), 0, none⟩ = some (.string ⟨#[]⟩) := (by rw [Lib.cell_of_heap hm2]; rfl); have z1 : w2.cell? ⟨(W.heap.size + 1), 1, none⟩ = some (.string ⟨#[]⟩) := (by rw [Lib.cell_of_heap hm2]; rfl); have z2 : w2.cell? ⟨(W.heap.size + 1), 2, none⟩ = some (.slice none 0 0) := (by rw [Lib.cell_of_heap hm2]; rfl); have fz : ∀ o, w2.frozen? ⟨(W.heap.size + 1), o, none⟩ = false := (fun o => Lib.frozen_of_heap hm2 o); clear hm2) | skip); have HOWN := Lib.hid hown; have HG := Lib.hid hgrow; have HAT := Lib.hid hat; have HBW2 := Lib.hid hbw2; clear hown hgrow hat hbw2))
    all_goals go_wp2_with fail
    all_goals go_meet
    all_goals first | refine with_leaf m n v ?_ ?_ ?_ ?_ ?_ ?_ | exact with_leaf2 m n v HBW2.out hzw2 HOWN.out
    all_goals first
      | exact HBW2.out
      | exact HBW2.out.alloc hzw2 _
      | exact HOWN.out
      | exact HOWN.out.alloc _
      | exact HM2.out
      | exact heap_alloc_new _ _
      | exact (Array.getElem?_eq_some_iff.1 HM2.out).1
      | omega
      | (simp; done)
      | (simp; omega)
      | (rcases HAT.out with h | h; · { intro e; rw [e] at h; refine HNE.out _ ?_ h; first | (left; (simp; done)) | (right; (simp; done)) | (left; (simp; omega)) | (right; (simp; omega)) }; · { have hq := HSZ2.out; simp at h hq; omega })
      | (rcases HAT.out with h | h; · { intro e; rw [e] at h; refine HNE.out _ ?_ h; first | (left; (simp; done)) | (right; (simp; done)) | (left; (simp; omega)) | (right; (simp; omega)) }; · { have hq := HSZ2.out; simp at hq; omega })
  obtain ⟨B, A2, c2, rfl, hbox⟩ := hcut
  have HBOX := Lib.hid hbox
  have HSW := Lib.hid (withM_sizes (n := n) (v := v) HM.out hn hv HL.out)
  have HGW := Lib.hid (good_par (withM m n v) A2 c2 wc HSW.out hbox.2.2.2.2.2.2.1)
  have hWc : W.heap.size ≤ wc.heap.size := hbox.1.size
  have hw0 : w.heap.size + 1 < W.heap.size := by have := HWZ.out; omega
  have HRB : Hid (wc.heap[w.heap.size + 1]? = some (.cells #[.string ⟨#[]⟩, .string ⟨#[]⟩, .slice none 0 0] 36 (0, 0))) := Lib.hid ((hbox.1.block _ hw0).trans HQR.out)
  obtain ⟨hbox1, hB1, hB2, e0, e1, e2, hPA, hge⟩ := hbox
  have HGE := Lib.hid hge
  clear hge
  have HPA := Lib.hid hPA
  clear hPA
  unfold mimV at HGW
  go_wp2_with fail
  refine HGW.out.mono ?_
  rintro e w1 ⟨rfl, hb1⟩
  have HB1 := Lib.hid hb1
  have hRB1 : w1.heap[w.heap.size + 1]? = some (.cells #[.string ⟨#[]⟩, .string ⟨#[]⟩, .slice none 0 0] 36 (0, 0)) := (hb1.block _ (by omega)).trans HRB.out
  have g0 : w1.cell? ⟨w.heap.size + 1, 0, none⟩ = some (.string ⟨#[]⟩) := by rw [Lib.cell_of_heap hRB1]; rfl
  have g1 : w1.cell? ⟨w.heap.size + 1, 1, none⟩ = some (.string ⟨#[]⟩) := by rw [Lib.cell_of_heap hRB1]; rfl
  have g2 : w1.cell? ⟨w.heap.size + 1, 2, none⟩ = some (.slice none 0 0) := by rw [Lib.cell_of_heap hRB1]; rfl
  have fz : ∀ o, w1.frozen? ⟨w.heap.size + 1, o, none⟩ = false := fun o => Lib.frozen_of_heap hRB1 o
  rw [← cell_below hb1 hB2] at e0 e1 e2
  have hRB2 := Lib.hid hRB1
  clear hb1 hRB1
  cases hg : goodL (withM m n v)
  · have hR : withR m n v = if goodL m && decide (0 ≤ atL m.ps n) && quoL v then (noM, 7) else (noM, 2) := by simp [withR, hg]
    have HR := Lib.hid hR
    clear hR
    have hBW : Below w.heap.size w w1 := (HWB.out.trans (hbox1.mono (by omega))).trans (HB1.out.mono (by omega))
    have HBW := Lib.hid hBW
    have HGM := Lib.hid (good_par m A c w1 HM.out (HA.out.on hBW))
    have hbox2 : Below W.heap.size W w1 := hbox1.trans (HB1.out.mono hWc)
    have hz1 : W.heap.size ≤ w1.heap.size := hbox2.size
    rw [← cell_below hbox2 hw1] at q0 q1 q2
    clear e0 e1 e2 hBW
    unfold mimV at HGM
    go_upto_region 4 with fail
    go_cut [26] (fun u wx => u = .bool (goodL m && decide (0 ≤ atL m.ps n) && quoL v) ∧ Below w1.heap.size w1 wx)
    case first =>
      cases hgm : goodL m
      · go_wp2_with fail
        refine HGM.out.mono ?_
        rintro e w2 ⟨rfl, hb2⟩
        have HB2 := Lib.hid hb2
        clear hb2
        rw [hgm]
        go_wp2_with fail
        go_meet
        exact ⟨by rw [hgm]; rfl, HB2.out⟩
      · go_wp2_with fail
        refine HGM.out.mono ?_
        rintro e w2 ⟨rfl, hb2⟩
        have HB2 := Lib.hid hb2
        have hz2 := hb2.size
        have HFD := Lib.hid (find_par m A c (bt n) w2 HM.out (HA.out.on (HBW.out.trans (hb2.mono (by omega)))))
        rw [bt_list] at HFD
        unfold mimV at HFD
        rw [← cell_below hb2 (by omega)] at q0 q1 q2
        clear hb2
        rw [hgm]
        go_wp2_with fail
        refine HFD.out.mono ?_
        rintro e w3 ⟨rfl, hb3⟩
        have HB3 := Lib.hid (HB2.out.trans (hb3.mono hz2))
        clear hb3
        by_cases hat : 0 ≤ atL m.ps n
        · have HAL := Lib.hid (All_list 187 isQuoted fnQuoted (bt v) w3 hV)
          rw [bt_list] at HAL
          have hd : decide (0 ≤ atL m.ps n) = true := decide_eq_true hat
          have HD := Lib.hid hd
          clear hd
          go_wp2_with fail
          refine HAL.out.mono ?_
          rintro e w4 ⟨rfl, rfl⟩
          go_wp2_with fail
          go_meet
          exact ⟨by rw [hgm, HD.out]; rfl, HB3.out⟩
        · have hd : decide (0 ≤ atL m.ps n) = false := decide_eq_false hat
          have HD := Lib.hid hd
          have hlt : atL m.ps n < 0 := by omega
          clear hd
          go_wp2_with fail
          go_meet
          exact ⟨by rw [hgm, HD.out]; rfl, HB3.out⟩
    obtain ⟨rfl, hbx⟩ := hcut
    have hRX : wc.heap[w.heap.size + 1]? = some (.cells #[.string ⟨#[]⟩, .string ⟨#[]⟩, .slice none 0 0] 36 (0, 0)) := (hbx.block _ (by omega)).trans hRB2.out
    have k0 : wc.cell? ⟨w.heap.size + 1, 0, none⟩ = some (.string ⟨#[]⟩) := by rw [Lib.cell_of_heap hRX]; rfl
    have k1 : wc.cell? ⟨w.heap.size + 1, 1, none⟩ = some (.string ⟨#[]⟩) := by rw [Lib.cell_of_heap hRX]; rfl
    have k2 : wc.cell? ⟨w.heap.size + 1, 2, none⟩ = some (.slice none 0 0) := by rw [Lib.cell_of_heap hRX]; rfl
    have kz : ∀ o, wc.frozen? ⟨w.heap.size + 1, o, none⟩ = false := fun o => Lib.frozen_of_heap hRX o
    have HBX := Lib.hid (HBW.out.trans (hbx.mono (by omega)))
    clear hbx hRX q0 q1 q2 g0 g1 g2 fz
    cases hq : (goodL m && decide (0 ≤ atL m.ps n) && quoL v)
    · have hR2 : withR m n v = (noM, 2) := by rw [HR.out, hq]; rfl
      have HRR := Lib.hid hR2
      clear hR2
      go_wp2_with fail
      refine bodyPost_ret (v := .tuple #[mimV noM none 0, .int .i64 2]) ?_ rfl ?_
      · simp [results, Tryz.results159, go_sem, k0, k1, k2, mimV, noM, bt]
      · refine ⟨none, 0, by rw [HRR.out]; rfl, by rw [HRR.out]; exact .inl rfl, (HBX.out.setCell (by simp) _ |>.setCell (by simp) _).setCell (by simp) _, by intro g h; cases h⟩
    · have hR2 : withR m n v = (noM, 7) := by rw [HR.out, hq]; rfl
      have HRR := Lib.hid hR2
      clear hR2
      go_wp2_with fail
      refine bodyPost_ret (v := .tuple #[mimV noM none 0, .int .i64 7]) ?_ rfl ?_
      · simp [results, Tryz.results159, go_sem, k0, k1, k2, mimV, noM, bt]
      · refine ⟨none, 0, by rw [HRR.out]; rfl, by rw [HRR.out]; exact .inl rfl, (HBX.out.setCell (by simp) _ |>.setCell (by simp) _).setCell (by simp) _, by intro g h; cases h⟩
  · have hR : withR m n v = (withM m n v, 0) := by simp [withR, hg]
    have HR := Lib.hid hR
    clear hR
    go_wp2_with fail
    refine bodyPost_ret (v := .tuple #[mimV (withM m n v) A2 c2, .int .i64 0]) ?_ rfl ?_
    · simp [results, Tryz.results159, go_sem, g0, g1, g2, mimV]
    · rw [HR.out]
      have hfar : ∀ g, A2 = some ⟨g, 0, none⟩ → w.heap.size + 1 ≠ g := fun g hg => by have := HGE.out g hg; omega
      refine ⟨A2, c2, rfl, ?_, ?_, fun g hg => by have := HGE.out g hg; omega⟩
      · exact (((HPA.out.on HB1.out).set hfar _).set hfar _).set hfar _ |>.more (by simp)
      · exact (((HWB.out.trans (hbox1.mono (by omega))).trans (HB1.out.mono (by omega))).setCell (by simp) _ |>.setCell (by simp) _).setCell (by simp) _

theorem With_par (m : MimeL) (A : Option Addr) (c : Nat) (n v : List UInt8) (w : World) (hm : SizesM m) (hn : n.length ≤ 1100) (hv : v.length ≤ 1100) (hl : m.ps.length ≤ 1099) (hA : ParsAt w w.heap.size A m.ps) :
    Calls Tryz.prog 159 #[mimV m A c, .string (bt n), .string (bt v)] w fun e w' => ∃ A2 c2, e = .returned (.tuple #[mimV (withR m n v).1 A2 c2, .int .i64 (withR m n v).2]) ∧ ParsAt w' w'.heap.size A2 (withR m n v).1.ps ∧ Below w.heap.size w w' :=
  (With_own m A c n v w hm hn hv hl hA).mono fun _ _ ⟨A, c, h1, h2, h3, _⟩ => ⟨A, c, h1, h2, h3⟩

end Go.Proofs.YtcbhkcdphbffpaaGreatDoor

namespace Go.Proofs.YtcbhkcdphbffpaaGreatDoor
open Go.RowKit
set_option linter.unusedSimpArgs false
set_option linter.unusedVariables false

theorem restB_list (s : ByteArray) (k : Nat) : (restB s k).data.toList = dropB s k := by
  unfold dropB restB
  rw [ByteArray.data_extract, Array.toList_extract, List.extract_eq_take_drop, List.take_of_length_le (by rw [List.length_drop, ← Lib.size_eq]; omega)]

theorem dropB_len (s : ByteArray) (k : Nat) : (dropB s k).length = s.size - k := by unfold dropB; rw [List.length_drop, Lib.size_eq]

theorem dropB_zero (s : ByteArray) : dropB s 0 = s.data.toList := rfl

theorem span_take (p : UInt8 → Bool) (l : List UInt8) : l.take (spanN p l) = l.takeWhile p := by
  unfold spanN
  exact (List.prefix_iff_eq_take.1 (List.takeWhile_prefix _)).symm

theorem span_drop (p : UInt8 → Bool) (l : List UInt8) : l.drop (spanN p l) = l.dropWhile p := by
  have e2 := List.takeWhile_append_dropWhile (p := p) (l := l)
  have e3 : l.drop (spanN p l) = (l.takeWhile p ++ l.dropWhile p).drop (l.takeWhile p).length := by rw [e2]; rfl
  rw [e3, List.drop_left]

theorem ext_bt (s : ByteArray) (k n : Nat) : s.extract k (k + n) = bt ((dropB s k).take n) := by
  apply bytes_ext
  rw [bt_list]
  unfold dropB
  rw [ByteArray.data_extract, Array.toList_extract, List.extract_eq_take_drop, show k + n - k = n by omega]

theorem dropB_more (s : ByteArray) (k n : Nat) : dropB s (k + n) = (dropB s k).drop n := by unfold dropB; rw [List.drop_drop]

theorem until_drop (stops : ByteArray) (p : UInt8 → Bool) (hp : ∀ b, goesOn stops b = p b) (g : Nat) (s : ByteArray) (k : Nat) (w : World) (h : Cur w g s k) (hk : k ≤ s.size) (hs : s.size ≤ maxLen) :
    Calls Tryz.prog 133 #[.pointer (some ⟨g, 0, none⟩), .string stops] w fun e w' => ∃ k2, k ≤ k2 ∧ k2 ≤ s.size ∧ dropB s k2 = (dropB s k).dropWhile p ∧ e = .returned (.string (bt ((dropB s k).takeWhile p))) ∧ Moved g s k2 w w' := by
  have hf : goesOn stops = p := funext hp
  have hC := Until_gives stops g s k w h hk hs
  rw [hf, restB_list] at hC
  have hn := spanN_le p (dropB s k)
  rw [dropB_len] at hn
  refine hC.mono ?_
  rintro e w2 ⟨rfl, hm⟩
  refine ⟨k + spanN p (dropB s k), by omega, by omega, ?_, ?_, hm⟩
  · rw [dropB_more, span_drop]
  · rw [ext_bt, span_take]

theorem while_drop (K : FuncId) (p : UInt8 → Bool) (hK : FnPure K p) (g : Nat) (s : ByteArray) (k : Nat) (w : World) (h : Cur w g s k) (hk : k ≤ s.size) (hs : s.size ≤ maxLen) :
    Calls Tryz.prog 143 #[.pointer (some ⟨g, 0, none⟩), .func (.func K) #[] #[]] w fun e w' => ∃ k2 t, k ≤ k2 ∧ k2 ≤ s.size ∧ dropB s k2 = (dropB s k).dropWhile p ∧ e = .returned (.string t) ∧ Moved g s k2 w w' := by
  have hC := While_gives K p hK g s k w h hk hs
  rw [restB_list] at hC
  have hn := spanN_le p (dropB s k)
  rw [dropB_len] at hn
  refine hC.mono ?_
  rintro e w2 ⟨rfl, hm⟩
  refine ⟨k + spanN p (dropB s k), _, by omega, by omega, ?_, rfl, hm⟩
  rw [dropB_more, span_drop]

theorem prefB_one (s : ByteArray) (k : Nat) (b : UInt8) : prefB (restB s k) ⟨#[b]⟩ = ((dropB s k).head? == some b) := by
  unfold prefB
  rw [restB_list]
  cases dropB s k with
  | nil => rfl
  | cons a r =>
    show [b].isPrefixOf (a :: r) = _
    simp only [List.isPrefixOf, Bool.and_true, List.head?_cons]
    exact Bool.eq_iff_iff.2 ⟨fun h => by simp at h ⊢; exact h.symm, fun h => by simp at h ⊢; exact h.symm⟩

theorem skip_drop (b : UInt8) (g : Nat) (s : ByteArray) (k : Nat) (w : World) (h : Cur w g s k) (hk : k ≤ s.size) (hs : s.size ≤ maxLen) (hb : (dropB s k).head? = some b) :
    Calls Tryz.prog 105 #[.pointer (some ⟨g, 0, none⟩), .string ⟨#[b]⟩] w fun e w' => e = .returned (.bool true) ∧ k + 1 ≤ s.size ∧ dropB s (k + 1) = (dropB s k).tail ∧ Moved g s (k + 1) w w' := by
  have hlt : k < s.size := by
    rcases Nat.lt_or_ge k s.size with h1 | h1
    · exact h1
    · have : k = s.size := by omega
      subst this
      rw [dropB_end] at hb
      simp at hb
  refine (Skip_yes ⟨#[b]⟩ g s k w h hk hs (by rw [prefB_one, hb]; simp)).mono ?_
  rintro e w2 ⟨rfl, hm⟩
  refine ⟨rfl, hlt, ?_, hm⟩
  rw [dropB_more, List.drop_one]

theorem skip_none (b : UInt8) (g : Nat) (s : ByteArray) (k : Nat) (w : World) (h : Cur w g s k) (hk : k ≤ s.size) (hs : s.size ≤ maxLen) (hb : (dropB s k).head? ≠ some b) :
    Calls Tryz.prog 105 #[.pointer (some ⟨g, 0, none⟩), .string ⟨#[b]⟩] w fun e w' => e = .returned (.bool false) ∧ Moved g s k w w' :=
  Skip_no ⟨#[b]⟩ g s k w h hk hs (by rw [prefB_one]; exact beq_eq_false_iff_ne.2 hb)

theorem goes_semi (b : UInt8) : goesOn ⟨#[59]⟩ b = nsemi b := all_u8 (p := fun b => goesOn ⟨#[59]⟩ b = nsemi b) (by decide +kernel) b
theorem goes_slash (b : UInt8) : goesOn ⟨#[47]⟩ b = nslash b := all_u8 (p := fun b => goesOn ⟨#[47]⟩ b = nslash b) (by decide +kernel) b
theorem goes_name (b : UInt8) : goesOn ⟨#[59, 61]⟩ b = nname b := all_u8 (p := fun b => goesOn ⟨#[59, 61]⟩ b = nname b) (by decide +kernel) b

theorem tw_len (p : UInt8 → Bool) (l : List UInt8) : (l.takeWhile p).length ≤ l.length := (List.takeWhile_sublist p).length_le

theorem valL_plain (r : List UInt8) (h : r.head? ≠ some 34) : valL r = (trimEnd isWhite (r.takeWhile nsemi), !(trimEnd isWhite (r.takeWhile nsemi)).isEmpty, r.dropWhile nsemi) := by
  unfold valL; rw [if_neg h]

theorem bt_ne (l : List UInt8) : (!(bt l).toList.isEmpty) = !l.isEmpty := by
  rw [Lib.toList_data]
  rfl

set_option maxRecDepth 20000 in
theorem value_any (g : Nat) (s : ByteArray) (k : Nat) (w : World) (h : Cur w g s k) (hk : k ≤ s.size) (hs : s.size ≤ 100000) :
    Calls Tryz.prog 201 #[.pointer (some ⟨g, 0, none⟩)] w fun e w' => ∃ k2, k ≤ k2 ∧ k2 ≤ s.size ∧ dropB s k2 = (valL (dropB s k)).2.2 ∧ e = .returned (.tuple #[.string (bt (valL (dropB s k)).1), .bool (valL (dropB s k)).2.1]) ∧ Moved g s k2 w w' := by
  have hsm : s.size ≤ maxLen := by unfold maxLen; omega
  by_cases hq : ∃ hlt : k < s.size, s[k] = 34
  · obtain ⟨hlt, hq⟩ := hq
    have hd : dropB s k = 34 :: dropB s (k + 1) := by rw [dropB_cons s k hlt, hq]
    have hv : valL (dropB s k) = ((readL (dropB s (k + 1))).1, true, ((dropB s (k + 1)).drop (readL (dropB s (k + 1))).2).dropWhile nsemi) := by
      unfold valL; rw [hd]; rfl
    have hr := (readL_le (dropB s (k + 1))).1
    rw [dropB_len] at hr
    have HV := Lib.hid hv
    have HPK := Lib.hid (Peek0_yes g s k w h hlt hsm)
    rw [hq] at HPK
    have HCO := Lib.hid (fun (w1 : World) (h1 : Cur w1 g s k) => Collect_gives g s k true w1 h1 hlt hq hs)
    have HU := Lib.hid (fun (w1 : World) (h1 : Cur w1 g s (k + 1 + (readL (dropB s (k + 1))).2)) => until_drop ⟨#[59]⟩ nsemi goes_semi g s _ w1 h1 (by omega) hsm)
    have HD := Lib.hid (dropB_more s (k + 1) (readL (dropB s (k + 1))).2)
    clear hv hd hr hq h
    generalize valL (dropB s k) = V at *
    unfold takenB at HCO
    generalize readL (dropB s (k + 1)) = R at *
    go_enter Tryz.func201, Tryz.ntmps201
    go_wp2_with fail
    refine HPK.out.mono ?_
    rintro e w1 ⟨rfl, hm⟩
    have HM := Lib.hid hm
    clear hm
    go_wp2_with fail
    refine (HCO.out _ HM.out.1).mono ?_
    rintro e w2 ⟨rfl, hm2⟩
    have HM2 := Lib.hid (HM.out.trans hm2)
    clear hm2
    go_wp2_with fail
    refine (HU.out _ HM2.out.1).mono ?_
    rintro e w3 ⟨k3, h1, h2, h3, rfl, hm3⟩
    have HM3 := Lib.hid (HM2.out.trans hm3)
    have HK := Lib.hid (And.intro h1 (And.intro h2 h3))
    clear hm3 h1 h2 h3
    go_wp2_with fail
    go_ret2
    obtain ⟨h1, h2, h3⟩ := HK.out
    refine ⟨k3, by omega, h2, ?_, by rw [HV.out]; rfl, HM3.out⟩
    rw [h3, HV.out, HD.out]
  · have hq2 : (dropB s k).head? ≠ some 34 := by
      intro he
      apply hq
      by_cases hlt : k < s.size
      · refine ⟨hlt, ?_⟩
        rw [dropB_cons s k hlt] at he
        simpa using he
      · have : k = s.size := by omega
        subst this
        rw [dropB_end] at he
        simp at he
    have HV := Lib.hid (valL_plain (dropB s k) hq2)
    have HU := Lib.hid (fun (w1 : World) (h1 : Cur w1 g s k) => until_drop ⟨#[59]⟩ nsemi goes_semi g s k w1 h1 hk hsm)
    have hl := tw_len nsemi (dropB s k)
    rw [dropB_len] at hl
    have HB := Lib.hid (fun w => back_any (bt ((dropB s k).takeWhile nsemi)) w (by rw [bt_size]; unfold maxLen; omega))
    rw [bt_list] at HB
    have HN := Lib.hid (bt_ne (trimEnd isWhite ((dropB s k).takeWhile nsemi)))
    have hpk : ∃ (b : Nat) (ok : Bool), ((ok && decide (b = 34)) = false) ∧ Calls Tryz.prog 134 #[.pointer (some ⟨g, 0, none⟩), .int .i64 0] w fun e w' => e = .returned (.tuple #[.int .u8 (b : Int), .bool ok]) ∧ Moved g s k w w' := by
      by_cases hlt : k < s.size
      · refine ⟨s[k].toNat, true, ?_, Peek0_yes g s k w h hlt hsm⟩
        simp only [Bool.true_and, decide_eq_false_iff_not]
        intro h34
        exact hq ⟨hlt, UInt8.toNat_inj.1 (by simpa using h34)⟩
      · have : k = s.size := by omega
        subst this
        exact ⟨0, false, rfl, Peek0_no g s w h hsm⟩
    obtain ⟨b, ok, hbo, hpk⟩ := hpk
    have HPK := Lib.hid hpk
    clear hl h hpk hq2
    generalize valL (dropB s k) = V at *
    generalize (dropB s k).takeWhile nsemi = T at *
    generalize trimEnd isWhite T = T2 at *
    cases ok
    · go_enter Tryz.func201, Tryz.ntmps201
      go_wp2_with fail
      refine HPK.out.mono ?_
      rintro e w1 ⟨rfl, hm⟩
      have HM := Lib.hid hm
      clear hm
      go_wp2_with fail
      refine (HU.out _ HM.out.1).mono ?_
      rintro e w3 ⟨k3, h1, h2, h3, rfl, hm3⟩
      have HM3 := Lib.hid (HM.out.trans hm3)
      have HK := Lib.hid (And.intro h1 (And.intro h2 h3))
      clear hm3 h1 h2 h3
      go_wp2_with (go_at_call 180; (with_reducible refine (HB.out _).mono ?_); rintro e w' ⟨rfl, rfl⟩)
      go_ret2
      obtain ⟨h1, h2, h3⟩ := HK.out
      exact ⟨k3, h1, h2, by rw [h3, HV.out], by rw [HV.out, ← HN.out]; rfl, HM3.out⟩
    · have hb34 : ((b : Int) == 34) = false := by
        simp at hbo
        rw [beq_eq_false_iff_ne]; omega
      go_enter Tryz.func201, Tryz.ntmps201
      go_wp2_with fail
      refine HPK.out.mono ?_
      rintro e w1 ⟨rfl, hm⟩
      have HM := Lib.hid hm
      clear hm
      go_wp2_with fail
      refine (HU.out _ HM.out.1).mono ?_
      rintro e w3 ⟨k3, h1, h2, h3, rfl, hm3⟩
      have HM3 := Lib.hid (HM.out.trans hm3)
      have HK := Lib.hid (And.intro h1 (And.intro h2 h3))
      clear hm3 h1 h2 h3
      go_wp2_with (go_at_call 180; (with_reducible refine (HB.out _).mono ?_); rintro e w' ⟨rfl, rfl⟩)
      go_ret2
      obtain ⟨h1, h2, h3⟩ := HK.out
      exact ⟨k3, h1, h2, by rw [h3, HV.out], by rw [HV.out, ← HN.out]; rfl, HM3.out⟩

end Go.Proofs.YtcbhkcdphbffpaaGreatDoor
