/-
  Walks of package pack: its tables.
-/
import Derived.Test.YtcpjokjfjhhndaaBytesRep
import Derived.Test.YtcpjokjfjhhndaaPackA
import Derived.Deep.AppendLies
import Derived.Deep.RegionHeld3
import Derived.Lib.AppendStr
namespace Go.Proofs.Ytcpjokjfjhhndaa
open Go.RowKit
set_option linter.unusedSimpArgs false
set_option linter.unusedVariables false

theorem own_below {w w' : World} {base B : Nat} {e : TypeId} {size g n cap : Nat} {xs : List Value} (h : w.ownsRow base e size (.slice (some ⟨g, 0, none⟩) n cap) n xs) (hb : Below B w w') (hg : g < B) :
    w'.ownsRow base e size (.slice (some ⟨g, 0, none⟩) n cap) n xs := by
  obtain ⟨h1, h2⟩ := h
  refine ⟨h1, ?_⟩
  rcases h2 with h2 | ⟨g', cap', cur, h2, h3, h4, h5⟩
  · exact .inl h2
  · have he := h2
    simp only [Value.slice.injEq, Option.some.injEq, Addr.mk.injEq, and_true, true_and] at he
    obtain ⟨rfl, _⟩ := he
    exact .inr ⟨g, cap', cur, h2, h3, (hb.block _ hg).trans h4, h5⟩

theorem own_new (w : World) (Z : Array Value) (n g base : Nat) (e : TypeId) (hz : Z.size = n) (hn : n ≤ 1000) (hg : w.heap.size = g) (hb : base ≤ g) :
    (w.alloc (.cells Z e)).ownsRow base e 1 (.slice (some ⟨g, 0, none⟩) n n) n Z.toList := by
  subst hg
  exact World.ownsRow_lit w Z n hb (by unfold maxLen; omega) (by omega)

/-- A row of bytes that may be written, in a block from B on. -/
def RowAt (B : Nat) (l : List UInt8) (v : Value) (w : World) : Prop := ∃ g cap, v = .slice (some ⟨g, 0, none⟩) l.length cap ∧ B ≤ g ∧ g < w.heap.size ∧ BytesAt w g l

theorem row_of_own {w : World} {B : Nat} {e : TypeId} {v : Value} {n : Nat} {xs : List Value} {l : List UInt8} (h : w.ownsRow B e 1 v n xs) (hl : xs = rowV l) (hn : n = l.length) (h0 : 0 < n) : RowAt B l v w := by
  subst hl hn
  obtain ⟨g, cap, rfl, hg, hg2⟩ := h.form h0
  refine ⟨g, cap, rfl, hg, hg2, fun j hj => ⟨?_, h.frozenAt j⟩⟩
  rw [h.cellAt j (by omega)]
  simp [rowV, hj]

theorem RowAt.below {w w' : World} {B C : Nat} {l : List UInt8} {v : Value} (h : RowAt B l v w) (hb : Below w.heap.size w w') : RowAt B l v w' := by
  obtain ⟨g, cap, rfl, h1, h2, h3⟩ := h
  exact ⟨g, cap, rfl, h1, Nat.lt_of_lt_of_le h2 hb.size, h3.below hb h2⟩

theorem full_news {w : World} {g n : Nat} (h : ∀ j, j < n → w.cell? ⟨g, j, none⟩ = some (.int .u8 255)) : ∀ j u, (List.replicate n (Value.int .u8 255))[j]? = some u → w.cell? ((⟨g, 0, none⟩ : Addr).add j) = some u := by
  intro j u hu
  rw [List.getElem?_replicate] at hu
  split at hu
  · cases hu
    rw [Addr.add_lit, Nat.zero_add]
    exact h j (by assumption)
  · cases hu

theorem full_news_alloc {w : World} {g n : Nat} (h : ∀ j, j < n → w.cell? ⟨g, j, none⟩ = some (.int .u8 255)) (hg : g < w.heap.size) (o : Obj) :
    ∀ j u, (List.replicate n (Value.int .u8 255))[j]? = some u → (w.alloc o).cell? ((⟨g, 0, none⟩ : Addr).add j) = some u :=
  full_news fun j hj => by rw [cell_below (below_box w o) hg]; exact h j hj

/-- So many bytes 0, and others behind. -/
def zerosL (n : Nat) (l : List UInt8) : List UInt8 := List.replicate n 0 ++ l

theorem makeBytes (n : Nat) (hn : n ≤ 1000) : ∃ Z : Array Value, Z.size = n ∧ Z.toList = rowV (List.replicate n 0) ∧
    ∀ w : World, (Instr.makeSlice 68 (.int .i64 n) (.int .i64 n)).run Try.prog w = .ok (.slice (some ⟨w.heap.size, 0, none⟩) n n) (w.alloc (.cells Z 5)) := by
  obtain ⟨i0, hi, hz0, hz1, hz2⟩ := info_parts infoByteT
  refine ⟨madeCells (Value.int .u8 0).cells (n * 1), by rw [size_madeCells, Nat.mul_one], ?_, fun w => ?_⟩
  · apply List.ext_getElem
    · simp [rowV, size_madeCells]
    · intro i h1 h2
      simp [rowV, madeCells, Value.cells, Nat.mod_one]
  · have := run_makeSlice (P := Try.prog) w 68 5 i0 (.int .u8 0) Try.underlying68 hi hz0 .i64 .i64 n n (by omega) (Int.le_refl _) (by rw [hz1]; omega) (by rw [hz2]; omega) (by omega)
    rw [hz1] at this
    exact this

set_option maxRecDepth 20000 in
theorem with_any (gap : Nat) (sign kind : ByteArray) (w : World) (hg : gap ≤ 100) (hs : 1 ≤ sign.size) (hs2 : sign.size ≤ 100) :
    Calls Try.prog 92 #[.int .i64 gap, .string sign, .string kind] w fun e w' => e = .returned (patV ⟨(zerosL gap sign.data.toList).toArray⟩ ⟨(zerosL gap (List.replicate sign.size 255)).toArray⟩ ⟨#[]⟩ kind) ∧ Below w.heap.size w w' := by
  obtain ⟨i0, hi, hz0, hz1, hz2⟩ := info_parts infoByteT
  obtain ⟨Z, hZ, hZl, hmk⟩ := makeBytes gap (by omega)
  have HI := Lib.hid hi; have HZ0 := Lib.hid hz0; have HZ1 := Lib.hid hz1; have HZ2 := Lib.hid hz2
  have HZ := Lib.hid hZ; have HZL := Lib.hid hZl
  clear hi hz0 hz1 hz2 hZ hZl
  go_enter Try.func92, Try.ntmps92
  go_upto_region 1 with fail
  go_cut [7] (fun s7 wx => RowAt (w.heap.size + 1) (zerosL gap sign.data.toList) s7 wx ∧ wx.heap[w.heap.size]? = some (.cells #[.string ⟨#[]⟩, .string ⟨#[]⟩, .string ⟨#[]⟩, .string ⟨#[]⟩] 25 (0, 0)) ∧ Below w.heap.size w wx)
  case first =>
    go_wp2_with (at_builtin; refine Lib.wpList_append_own_string _ rfl _ _ 68 9 rfl (w.heap.size + 1) 5 i0 Try.underlying68 Try.underlying9 HI.out HZ0.out HZ1.out HZ2.out (.slice (some ⟨w.heap.size + 1, 0, none⟩) gap gap) gap Z.toList rfl (own_new _ Z gap _ _ _ HZ.out (by omega) (by simp) (Nat.le_refl _)) sign rfl (by unfold maxLen; omega) (by omega) (by simp) ?_; intro v' w1 hown hgrow _; clear hmk)
    go_meet
    have hlen : (zerosL gap sign.data.toList).length = gap + sign.size := by unfold zerosL; rw [List.length_append, List.length_replicate, ← Lib.size_eq]
    refine ⟨row_of_own hown (by rw [HZL.out]; simp [zerosL, rowV, Lib.strCells]) hlen.symm (by omega), ?_, ?_⟩
    · rw [hgrow.block w.heap.size (by simp; omega) (by simp [Value.ownBlock])]
      exact (Below.heap_alloc _ _ _ (by simp)).trans (heap_alloc_new w _)
    · exact ((below_box w _).alloc (by simp) _).grown hgrow (by simp; omega) (fun k e => by cases e; simp)
  obtain ⟨hR, hrow, hB⟩ := hcut
  obtain ⟨W, rfl⟩ : ∃ W : World, W = wc := ⟨_, rfl⟩
  have hlt : w.heap.size < W.heap.size := by
    rcases Nat.lt_or_ge w.heap.size W.heap.size with h | h
    · exact h
    · rw [Array.getElem?_eq_none h] at hrow; cases hrow
  have HR := Lib.hid hR
  have HROW := Lib.hid hrow
  have HB := Lib.hid hB
  clear hR hrow hB
  have CR := Lib.hid (fun (gs : Nat) (w : World) (hc : w.cell? ⟨gs, 0, none⟩ = some (.int .u8 255)) => bytesRepeat_any sign.size gs w hs (by omega) hc)
  go_upto_region 3 with fail
  go_cut [8] (fun s8 wx => RowAt W.heap.size (zerosL gap (List.replicate sign.size 255)) s8 wx ∧ Below W.heap.size W wx)
  case first =>
    go_region_held3 (fun _ => True) (trivial) (first | (go_at_call 99; refine (CR.out _ _ (by simp [go_sem])).mono ?_; rintro e w1 ⟨g, rfl, hg1, hg2, hcs, hb1⟩) | (refine step_append_lies _ (by rfl) _ _ 68 (by rfl) W.heap.size 5 i0 (.int .u8 0) 1 1 Try.underlying68 HI.out HZ0.out HZ1.out HZ2.out (by rfl) (by decide) (.slice (some ⟨_, 0, none⟩) gap gap) gap Z.toList (by rfl) (own_below ((own_new W Z gap W.heap.size W.heap.size _ HZ.out (by omega) rfl (Nat.le_refl _)).alloc _).drew hb1 (by simp; omega)) ⟨g, 0, none⟩ sign.size sign.size (List.replicate sign.size (.int .u8 255)) (by rfl) (by simp) (full_news hcs) (by intro u hu; rw [List.eq_of_mem_replicate hu]; rfl) (by omega) (by unfold maxLen; omega) (by omega) (by have := hb1.size; simp at this; first | omega | (simp; omega)) _ rfl ?_; intro g2 cap w2 hown hgrow hat hlt2) | (refine step_append_lies _ (by rfl) _ _ 68 (by rfl) W.heap.size 5 i0 (.int .u8 0) 1 1 Try.underlying68 HI.out HZ0.out HZ1.out HZ2.out (by rfl) (by decide) (.slice (some ⟨_, 0, none⟩) gap gap) gap Z.toList (by rfl) (own_new w1 Z gap w1.heap.size W.heap.size _ HZ.out (by omega) rfl (by have := hb1.size; simp at this; omega)) ⟨g, 0, none⟩ sign.size sign.size (List.replicate sign.size (.int .u8 255)) (by rfl) (by simp) (full_news_alloc hcs hg2 _) (by intro u hu; rw [List.eq_of_mem_replicate hu]; rfl) (by omega) (by unfold maxLen; omega) (by omega) (by have := hb1.size; simp at this; first | omega | (simp; omega)) _ rfl ?_; intro g2 cap w2 hown hgrow hat hlt2) | (refine step_append_lies _ (by rfl) _ _ 68 (by rfl) W.heap.size 5 i0 (.int .u8 0) 1 1 Try.underlying68 HI.out HZ0.out HZ1.out HZ2.out (by rfl) (by decide) (.slice (some ⟨_, 0, none⟩) gap gap) gap Z.toList (by rfl) (own_below (own_new (W.alloc _) Z gap (W.heap.size + 1) W.heap.size _ HZ.out (by omega) (by simp) (by omega)).drew hb1 (by simp)) ⟨g, 0, none⟩ sign.size sign.size (List.replicate sign.size (.int .u8 255)) (by rfl) (by simp) (full_news hcs) (by intro u hu; rw [List.eq_of_mem_replicate hu]; rfl) (by omega) (by unfold maxLen; omega) (by omega) (by have := hb1.size; simp at this; first | omega | (simp; omega)) _ rfl ?_; intro g2 cap w2 hown hgrow hat hlt2))
    all_goals go_wp2_with fail
    all_goals go_meet
    all_goals
      have hlen : (zerosL gap (List.replicate sign.size (255 : UInt8))).length = gap + sign.size := by simp [zerosL]
      have hz1 := hb1.size
      simp at hz1
      refine ⟨row_of_own hown (by rw [HZL.out]; simp [zerosL, rowV]) hlen.symm (by omega), ?_⟩
    all_goals first
      | exact ((((below_box W _).alloc (by simp) _).drew).trans (hb1.mono (by simp; omega))).grown hgrow (by omega) (fun k e => by cases e; simp)
      | exact ((((below_box W _)).drew.trans (hb1.mono (by simp))).alloc (by omega) _).grown hgrow (by simp; omega) (fun k e => by cases e; (show W.heap.size ≤ w1.heap.size); omega)
  obtain ⟨⟨g2, cap2, rfl, hg2, hlt2, hba2⟩, hB2⟩ := hcut
  obtain ⟨g1, cap1, rfl, hg1, hlt1, hba1⟩ := HR.out
  obtain ⟨W2, rfl⟩ : ∃ W2 : World, W2 = wc := ⟨_, rfl⟩
  have HROW2 := (hB2.block _ hlt).trans HROW.out
  have hw := HB.out.trans (hB2.mono HB.out.size)
  have k1 := (hba1.below hB2 hlt1).back (P := Try.prog) cap1 rfl 68 9 5 Try.underlying68 Try.underlying5 Try.underlying9
  have k2 := hba2.back (P := Try.prog) cap2 rfl 68 9 5 Try.underlying68 Try.underlying5 Try.underlying9
  have q0 := cell_of_row W2 w.heap.size 0 _ _ (0, 0) HROW2
  have q1 := cell_of_row W2 w.heap.size 1 _ _ (0, 0) HROW2
  have q2 := cell_of_row W2 w.heap.size 2 _ _ (0, 0) HROW2
  have q3 := cell_of_row W2 w.heap.size 3 _ _ (0, 0) HROW2
  have hfz : ∀ o, W2.frozen? ⟨w.heap.size, o, none⟩ = false := fun o => by simp [World.frozen?, HROW2]
  simp at q0 q1 q2 q3
  have HW := Lib.hid hw
  clear hba1 hba2 HROW2 hB2 hw HR HROW HB CR hmk
  go_wp2_with fail
  refine bodyPost_ret (v := patV ⟨(zerosL gap sign.data.toList).toArray⟩ ⟨(zerosL gap (List.replicate sign.size 255)).toArray⟩ ⟨#[]⟩ kind) ?_ rfl ⟨rfl, (((HW.out.setCell (Nat.le_refl _) _).setCell (Nat.le_refl _) _).setCell (Nat.le_refl _) _).setCell (Nat.le_refl _) _⟩
  simp [results, Try.results92, go_sem, q0, q1, q2, q3]

/-- A pattern behind so many bytes that don't count. -/
theorem with_exact (gap : Nat) (sign kind : ByteArray) (w : World) (hg : gap ≤ 100) (hs : 1 ≤ sign.size) (hs2 : sign.size ≤ 100) (b : ByteArray) (hb : b = ⟨(zerosL gap sign.data.toList).toArray⟩) :
    Calls Try.prog 92 #[.int .i64 gap, .string sign, .string kind] w fun e w' => e = .returned (patV (exactP b kind 0 gap).b (exactP b kind 0 gap).m (exactP b kind 0 gap).k (exactP b kind 0 gap).t) ∧ Below w.heap.size w w' := by
  have h := with_any gap sign kind w hg hs hs2
  subst hb
  have e : holedL (⟨(zerosL gap sign.data.toList).toArray⟩ : ByteArray).size 0 gap = zerosL gap (List.replicate sign.size 255) := by
    have hz : (⟨(zerosL gap sign.data.toList).toArray⟩ : ByteArray).size = gap + sign.size := by
      rw [Lib.size_eq]; unfold zerosL; rw [List.toList_toArray, List.length_append, List.length_replicate, ← Lib.size_eq]
    rw [hz]
    unfold holedL zerosL
    apply List.ext_getElem
    · simp
    · intro i h1 h2
      simp only [List.getElem_map, List.getElem_range, List.getElem_append, List.length_replicate, List.getElem_replicate]
      split <;> split <;> first | rfl | omega
  show Calls Try.prog 92 _ w fun e w' => e = .returned (patV _ ⟨(holedL _ 0 gap).toArray⟩ ⟨#[]⟩ kind) ∧ Below w.heap.size w w'
  rw [e]
  exact h

end Go.Proofs.Ytcpjokjfjhhndaa
