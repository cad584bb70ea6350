/-
  Walks: how many bytes a deed wants; whether a call takes just some bytes, or throws.
-/
import Derived.Test.YthmiadbeiggmlaaCursorE
namespace Go.Proofs.Ythmiadbeiggmlaa
open Go.RowKit
set_option linter.unusedSimpArgs false
set_option linter.unusedVariables false

/-- How many bytes a deed of a kind wants. -/
def wantI (kind n : Int) : Int := if kind = 2 then 4 else if kind = 0 then 1 else n

theorem Wants_gives (kind n : Int) (S : ByteArray) (left : Nat) (w : World) (hk : kind = 0 ∨ kind = 1 ∨ kind = 2) (h0 : 0 ≤ wantI kind n) (h1 : wantI kind n ≤ left) :
    Calls Try.prog 23 #[.agg #[.int .i64 kind, .int .i64 n, .string S], .int .i64 left] w fun e w' => e = .returned (.tuple #[.int .i64 (wantI kind n), .int .i64 0]) ∧ Below w.heap.size w w' := by
  rcases hk with rfl | rfl | rfl
  all_goals
    simp only [wantI, reduceIte, Int.reduceEq] at h0 h1 ⊢
    go_enter Try.func23, Try.ntmps23
    go_wp2
    go_ret2
    exact ⟨rfl, below_box _ _⟩

theorem Wants_range (kind n : Int) (S : ByteArray) (left : Nat) (w : World) (hk : kind = 0 ∨ kind = 1 ∨ kind = 2) (h0 : wantI kind n < 0) :
    Calls Try.prog 23 #[.agg #[.int .i64 kind, .int .i64 n, .string S], .int .i64 left] w fun e w' => e = .returned (.tuple #[.int .i64 0, .int .i64 9]) ∧ Below w.heap.size w w' := by
  rcases hk with rfl | rfl | rfl
  · simp [wantI] at h0
  · simp only [wantI, reduceIte, Int.reduceEq] at h0 ⊢
    go_enter Try.func23, Try.ntmps23
    go_wp2
    go_ret2
    exact ⟨rfl, below_box _ _⟩
  · simp [wantI] at h0

theorem Wants_end (kind n : Int) (S : ByteArray) (left : Nat) (w : World) (hk : kind = 0 ∨ kind = 1 ∨ kind = 2) (h0 : 0 ≤ wantI kind n) (h1 : (left : Int) < wantI kind n) :
    Calls Try.prog 23 #[.agg #[.int .i64 kind, .int .i64 n, .string S], .int .i64 left] w fun e w' => e = .returned (.tuple #[.int .i64 0, .int .i64 8]) ∧ Below w.heap.size w w' := by
  rcases hk with rfl | rfl | rfl
  all_goals
    simp only [wantI, reduceIte, Int.reduceEq] at h0 h1 ⊢
    go_enter Try.func23, Try.ntmps23
    go_wp2
    go_ret2
    exact ⟨rfl, below_box _ _⟩

theorem one_extract (s : ByteArray) (k : Nat) (hk : k < s.size) : (⟨#[s[k]]⟩ : ByteArray) = s.extract k (k + 1) := by
  apply ByteArray.ext
  apply Array.ext'
  rw [ByteArray.data_extract, Array.toList_extract, List.extract_eq_take_drop]
  have hl : k < s.data.toList.length := by rw [← Lib.size_eq]; exact hk
  rw [show k + 1 - k = 1 by omega, List.drop_eq_getElem_cons hl]
  simp
  rfl

theorem But.frozen {g : Nat} {a b : World} (h : But g a b) {i o : Nat} (hi : i < a.heap.size) (hn : i ≠ g) : b.frozen? ⟨i, o, none⟩ = a.frozen? ⟨i, o, none⟩ := by
  have := h.block i hi (fun e => by injection e; omega)
  simp [World.frozen?, this]

theorem box3 (w : World) (o0 o1 o2 : Obj) : Below w.heap.size w (((w.alloc o0).alloc o1).alloc o2) := ((below_box w _).alloc (by simp) _).alloc (by simp; omega) _

set_option maxHeartbeats 1000000 in
set_option maxRecDepth 20000 in
theorem takes_next (g : Nat) (n : Int) (s : ByteArray) (k : Nat) (w : World) (h : Cur w g s k) (hk : k < s.size) (hs : s.size ≤ maxLen) :
    Calls Try.prog 24 #[.agg #[.pointer (some ⟨g, 0, none⟩), .int .i64 n], .int .i64 0, .string (s.extract k (k + 1)), .agg #[.int .i64 k, .int .i64 0]] w fun e w' => e = .returned (.bool true) ∧ Moved g s (k + 1) w w' := by
  have hmf : ∀ (fn : Fn) (first cap : Array Value) (w : World), (Instr.makeFunc fn first cap).run Try.prog w = .ok (.func fn first cap) w := fun _ _ _ _ => rfl
  have ho := one_extract s k hk
  have hlt := h.lt
  have HC := Lib.hid (fun (w1 : World) (hw : Below w.heap.size w w1) => valNext_ok g n s k w1 (h.below hw hlt) hk hs)
  clear h
  rw [ho] at HC
  clear ho
  generalize s.extract k (k + 1) = x at *
  go_enter Try.func24, Try.ntmps24
  go_wp2_with fail
  refine (HC.out _ (box3 _ _ _ _)).mono ?_
  rintro e w2 ⟨rfl, hm⟩
  have d0 : w2.cell? ⟨w.heap.size + 1, 0, none⟩ = some (.int .i64 0) := by rw [hm.2.cell (by simp <;> omega) (by omega)]; simp [go_sem]
  have d1 : w2.cell? ⟨w.heap.size + 1, 1, none⟩ = some (.int .i64 0) := by rw [hm.2.cell (by simp <;> omega) (by omega)]; simp [go_sem]
  have e0 : w2.cell? ⟨w.heap.size + 2, 0, none⟩ = some (.int .i64 0) := by rw [hm.2.cell (by simp <;> omega) (by omega)]; simp [go_sem]
  have e1 : w2.cell? ⟨w.heap.size + 2, 1, none⟩ = some (.int .i64 0) := by rw [hm.2.cell (by simp <;> omega) (by omega)]; simp [go_sem]
  have f0 : w2.frozen? ⟨w.heap.size + 2, 0, none⟩ = false := by rw [hm.2.frozen (by simp <;> omega) (by omega)]; simp [go_sem]
  have f1 : w2.frozen? ⟨w.heap.size + 2, 1, none⟩ = false := by rw [hm.2.frozen (by simp <;> omega) (by omega)]; simp [go_sem]
  have hz2 : w.heap.size + 2 < w2.heap.size := by have := hm.2.size; simp at this; omega
  have HM : Hid (Moved g s (k + 1) w ((w2.setCell ⟨w.heap.size + 2, 0, none⟩ (.int .i64 0)).setCell ⟨w.heap.size + 2, 1, none⟩ (.int .i64 0))) := Lib.hid ⟨(hm.1.below (((Below.refl (w.heap.size) w2).setCell (p := ⟨w.heap.size + 2, 0, none⟩) (by simp) _).setCell (p := ⟨w.heap.size + 2, 1, none⟩) (by simp) _) hlt), (((But.of_below (box3 _ _ _ _)).trans hm.2).setCell (.inr (by simp)) _).setCell (.inr (by simp)) _⟩
  clear hm
  go_wp2_with fail
  go_ret
  exact ⟨rfl, HM.out⟩

set_option maxHeartbeats 1000000 in
set_option maxRecDepth 20000 in
theorem takes_next_end (g : Nat) (n : Int) (s : ByteArray) (k : Nat) (w : World) (h : Cur w g s k) (hk : k = s.size) (hs : s.size ≤ maxLen) :
    Calls Try.prog 24 #[.agg #[.pointer (some ⟨g, 0, none⟩), .int .i64 n], .int .i64 0, .string ⟨#[]⟩, .agg #[.int .i64 k, .int .i64 8]] w fun e w' => e = .returned (.bool true) ∧ Moved g s (k) w w' := by
  have hmf : ∀ (fn : Fn) (first cap : Array Value) (w : World), (Instr.makeFunc fn first cap).run Try.prog w = .ok (.func fn first cap) w := fun _ _ _ _ => rfl
  have hlt := h.lt
  have HC := Lib.hid (fun (w1 : World) (hw : Below w.heap.size w w1) => valNext_bad g n s w1 (hk ▸ h.below hw hlt) hs)
  clear h
  rw [← hk] at HC
  clear hk
  go_enter Try.func24, Try.ntmps24
  go_wp2_with fail
  refine (HC.out _ (box3 _ _ _ _)).mono ?_
  rintro e w2 ⟨rfl, hm⟩
  have d0 : w2.cell? ⟨w.heap.size + 1, 0, none⟩ = some (.int .i64 k) := by rw [hm.2.cell (by simp <;> omega) (by omega)]; simp [go_sem]
  have d1 : w2.cell? ⟨w.heap.size + 1, 1, none⟩ = some (.int .i64 8) := by rw [hm.2.cell (by simp <;> omega) (by omega)]; simp [go_sem]
  have e0 : w2.cell? ⟨w.heap.size + 2, 0, none⟩ = some (.int .i64 0) := by rw [hm.2.cell (by simp <;> omega) (by omega)]; simp [go_sem]
  have e1 : w2.cell? ⟨w.heap.size + 2, 1, none⟩ = some (.int .i64 0) := by rw [hm.2.cell (by simp <;> omega) (by omega)]; simp [go_sem]
  have f0 : w2.frozen? ⟨w.heap.size + 2, 0, none⟩ = false := by rw [hm.2.frozen (by simp <;> omega) (by omega)]; simp [go_sem]
  have f1 : w2.frozen? ⟨w.heap.size + 2, 1, none⟩ = false := by rw [hm.2.frozen (by simp <;> omega) (by omega)]; simp [go_sem]
  have hz2 : w.heap.size + 2 < w2.heap.size := by have := hm.2.size; simp at this; omega
  have HM : Hid (Moved g s (k) w ((w2.setCell ⟨w.heap.size + 2, 0, none⟩ (.int .i64 k)).setCell ⟨w.heap.size + 2, 1, none⟩ (.int .i64 8))) := Lib.hid ⟨(hm.1.below (((Below.refl (w.heap.size) w2).setCell (p := ⟨w.heap.size + 2, 0, none⟩) (by simp) _).setCell (p := ⟨w.heap.size + 2, 1, none⟩) (by simp) _) hlt), (((But.of_below (box3 _ _ _ _)).trans hm.2).setCell (.inr (by simp)) _).setCell (.inr (by simp)) _⟩
  clear hm
  go_wp2_with fail
  go_ret
  exact ⟨rfl, HM.out⟩

set_option maxHeartbeats 1000000 in
set_option maxRecDepth 20000 in
theorem takes_take (g : Nat) (m : Nat) (s : ByteArray) (k : Nat) (w : World) (h : Cur w g s k) (hk : k + m ≤ s.size) (hs : s.size ≤ maxLen) :
    Calls Try.prog 24 #[.agg #[.pointer (some ⟨g, 0, none⟩), .int .i64 (m : Int)], .int .i64 1, .string (s.extract k (k + m)), .agg #[.int .i64 k, .int .i64 0]] w fun e w' => e = .returned (.bool true) ∧ Moved g s (k + m) w w' := by
  have hmf : ∀ (fn : Fn) (first cap : Array Value) (w : World), (Instr.makeFunc fn first cap).run Try.prog w = .ok (.func fn first cap) w := fun _ _ _ _ => rfl
  have hlt := h.lt
  have HC := Lib.hid (fun (w1 : World) (hw : Below w.heap.size w w1) => valTake_ok g s k m w1 (h.below hw hlt) hk hs)
  clear h
  generalize s.extract k (k + m) = x at *
  go_enter Try.func24, Try.ntmps24
  go_wp2_with fail
  refine (HC.out _ (box3 _ _ _ _)).mono ?_
  rintro e w2 ⟨rfl, hm⟩
  have d0 : w2.cell? ⟨w.heap.size + 1, 0, none⟩ = some (.int .i64 0) := by rw [hm.2.cell (by simp <;> omega) (by omega)]; simp [go_sem]
  have d1 : w2.cell? ⟨w.heap.size + 1, 1, none⟩ = some (.int .i64 0) := by rw [hm.2.cell (by simp <;> omega) (by omega)]; simp [go_sem]
  have e0 : w2.cell? ⟨w.heap.size + 2, 0, none⟩ = some (.int .i64 0) := by rw [hm.2.cell (by simp <;> omega) (by omega)]; simp [go_sem]
  have e1 : w2.cell? ⟨w.heap.size + 2, 1, none⟩ = some (.int .i64 0) := by rw [hm.2.cell (by simp <;> omega) (by omega)]; simp [go_sem]
  have f0 : w2.frozen? ⟨w.heap.size + 2, 0, none⟩ = false := by rw [hm.2.frozen (by simp <;> omega) (by omega)]; simp [go_sem]
  have f1 : w2.frozen? ⟨w.heap.size + 2, 1, none⟩ = false := by rw [hm.2.frozen (by simp <;> omega) (by omega)]; simp [go_sem]
  have hz2 : w.heap.size + 2 < w2.heap.size := by have := hm.2.size; simp at this; omega
  have HM : Hid (Moved g s (k + m) w ((w2.setCell ⟨w.heap.size + 2, 0, none⟩ (.int .i64 0)).setCell ⟨w.heap.size + 2, 1, none⟩ (.int .i64 0))) := Lib.hid ⟨(hm.1.below (((Below.refl (w.heap.size) w2).setCell (p := ⟨w.heap.size + 2, 0, none⟩) (by simp) _).setCell (p := ⟨w.heap.size + 2, 1, none⟩) (by simp) _) hlt), (((But.of_below (box3 _ _ _ _)).trans hm.2).setCell (.inr (by simp)) _).setCell (.inr (by simp)) _⟩
  clear hm
  go_wp2_with fail
  go_ret
  exact ⟨rfl, HM.out⟩

set_option maxHeartbeats 1000000 in
set_option maxRecDepth 20000 in
theorem takes_take_range (g : Nat) (n : Int) (s : ByteArray) (k : Nat) (w : World) (h : Cur w g s k) (hk : k ≤ s.size) (hn : n < 0) (hs : s.size ≤ maxLen) :
    Calls Try.prog 24 #[.agg #[.pointer (some ⟨g, 0, none⟩), .int .i64 n], .int .i64 1, .string ⟨#[]⟩, .agg #[.int .i64 k, .int .i64 9]] w fun e w' => e = .returned (.bool true) ∧ Moved g s (k) w w' := by
  have hmf : ∀ (fn : Fn) (first cap : Array Value) (w : World), (Instr.makeFunc fn first cap).run Try.prog w = .ok (.func fn first cap) w := fun _ _ _ _ => rfl
  have hlt := h.lt
  have HC := Lib.hid (fun (w1 : World) (hw : Below w.heap.size w w1) => valTake_bad g n s k w1 (h.below hw hlt) hk (.inl hn) hs)
  clear h
  rw [if_pos hn] at HC
  clear hn
  go_enter Try.func24, Try.ntmps24
  go_wp2_with fail
  refine (HC.out _ (box3 _ _ _ _)).mono ?_
  rintro e w2 ⟨rfl, hm⟩
  have d0 : w2.cell? ⟨w.heap.size + 1, 0, none⟩ = some (.int .i64 k) := by rw [hm.2.cell (by simp <;> omega) (by omega)]; simp [go_sem]
  have d1 : w2.cell? ⟨w.heap.size + 1, 1, none⟩ = some (.int .i64 9) := by rw [hm.2.cell (by simp <;> omega) (by omega)]; simp [go_sem]
  have e0 : w2.cell? ⟨w.heap.size + 2, 0, none⟩ = some (.int .i64 0) := by rw [hm.2.cell (by simp <;> omega) (by omega)]; simp [go_sem]
  have e1 : w2.cell? ⟨w.heap.size + 2, 1, none⟩ = some (.int .i64 0) := by rw [hm.2.cell (by simp <;> omega) (by omega)]; simp [go_sem]
  have f0 : w2.frozen? ⟨w.heap.size + 2, 0, none⟩ = false := by rw [hm.2.frozen (by simp <;> omega) (by omega)]; simp [go_sem]
  have f1 : w2.frozen? ⟨w.heap.size + 2, 1, none⟩ = false := by rw [hm.2.frozen (by simp <;> omega) (by omega)]; simp [go_sem]
  have hz2 : w.heap.size + 2 < w2.heap.size := by have := hm.2.size; simp at this; omega
  have HM : Hid (Moved g s (k) w ((w2.setCell ⟨w.heap.size + 2, 0, none⟩ (.int .i64 k)).setCell ⟨w.heap.size + 2, 1, none⟩ (.int .i64 9))) := Lib.hid ⟨(hm.1.below (((Below.refl (w.heap.size) w2).setCell (p := ⟨w.heap.size + 2, 0, none⟩) (by simp) _).setCell (p := ⟨w.heap.size + 2, 1, none⟩) (by simp) _) hlt), (((But.of_below (box3 _ _ _ _)).trans hm.2).setCell (.inr (by simp)) _).setCell (.inr (by simp)) _⟩
  clear hm
  go_wp2_with fail
  go_ret
  exact ⟨rfl, HM.out⟩

set_option maxHeartbeats 1000000 in
set_option maxRecDepth 20000 in
theorem takes_take_end (g : Nat) (n : Int) (s : ByteArray) (k : Nat) (w : World) (h : Cur w g s k) (hk : k ≤ s.size) (hn : (s.size : Int) - k < n) (hs : s.size ≤ maxLen) :
    Calls Try.prog 24 #[.agg #[.pointer (some ⟨g, 0, none⟩), .int .i64 n], .int .i64 1, .string ⟨#[]⟩, .agg #[.int .i64 k, .int .i64 8]] w fun e w' => e = .returned (.bool true) ∧ Moved g s (k) w w' := by
  have hmf : ∀ (fn : Fn) (first cap : Array Value) (w : World), (Instr.makeFunc fn first cap).run Try.prog w = .ok (.func fn first cap) w := fun _ _ _ _ => rfl
  have hlt := h.lt
  have HC := Lib.hid (fun (w1 : World) (hw : Below w.heap.size w w1) => valTake_bad g n s k w1 (h.below hw hlt) hk (.inr hn) hs)
  clear h
  rw [if_neg (by omega)] at HC
  clear hn
  go_enter Try.func24, Try.ntmps24
  go_wp2_with fail
  refine (HC.out _ (box3 _ _ _ _)).mono ?_
  rintro e w2 ⟨rfl, hm⟩
  have d0 : w2.cell? ⟨w.heap.size + 1, 0, none⟩ = some (.int .i64 k) := by rw [hm.2.cell (by simp <;> omega) (by omega)]; simp [go_sem]
  have d1 : w2.cell? ⟨w.heap.size + 1, 1, none⟩ = some (.int .i64 8) := by rw [hm.2.cell (by simp <;> omega) (by omega)]; simp [go_sem]
  have e0 : w2.cell? ⟨w.heap.size + 2, 0, none⟩ = some (.int .i64 0) := by rw [hm.2.cell (by simp <;> omega) (by omega)]; simp [go_sem]
  have e1 : w2.cell? ⟨w.heap.size + 2, 1, none⟩ = some (.int .i64 0) := by rw [hm.2.cell (by simp <;> omega) (by omega)]; simp [go_sem]
  have f0 : w2.frozen? ⟨w.heap.size + 2, 0, none⟩ = false := by rw [hm.2.frozen (by simp <;> omega) (by omega)]; simp [go_sem]
  have f1 : w2.frozen? ⟨w.heap.size + 2, 1, none⟩ = false := by rw [hm.2.frozen (by simp <;> omega) (by omega)]; simp [go_sem]
  have hz2 : w.heap.size + 2 < w2.heap.size := by have := hm.2.size; simp at this; omega
  have HM : Hid (Moved g s (k) w ((w2.setCell ⟨w.heap.size + 2, 0, none⟩ (.int .i64 k)).setCell ⟨w.heap.size + 2, 1, none⟩ (.int .i64 8))) := Lib.hid ⟨(hm.1.below (((Below.refl (w.heap.size) w2).setCell (p := ⟨w.heap.size + 2, 0, none⟩) (by simp) _).setCell (p := ⟨w.heap.size + 2, 1, none⟩) (by simp) _) hlt), (((But.of_below (box3 _ _ _ _)).trans hm.2).setCell (.inr (by simp)) _).setCell (.inr (by simp)) _⟩
  clear hm
  go_wp2_with fail
  go_ret
  exact ⟨rfl, HM.out⟩

set_option maxHeartbeats 1000000 in
set_option maxRecDepth 20000 in
theorem takes_u32 (g : Nat) (n : Int) (s : ByteArray) (k : Nat) (w : World) (h : Cur w g s k) (hk : k + 4 ≤ s.size) (hs : s.size ≤ maxLen) :
    Calls Try.prog 24 #[.agg #[.pointer (some ⟨g, 0, none⟩), .int .i64 n], .int .i64 2, .string (s.extract k (k + 4)), .agg #[.int .i64 k, .int .i64 0]] w fun e w' => e = .returned (.bool true) ∧ Moved g s (k + 4) w w' := by
  have hmf : ∀ (fn : Fn) (first cap : Array Value) (w : World), (Instr.makeFunc fn first cap).run Try.prog w = .ok (.func fn first cap) w := fun _ _ _ _ => rfl
  have hx : (s.extract k (k + 4)).size ≤ 4 := by rw [extract_size]; omega
  have hlt := h.lt
  have HC := Lib.hid (fun (w1 : World) (hw : Below w.heap.size w w1) => valU32_ok g n s k w1 (h.below hw hlt) hk hs)
  clear h
  generalize s.extract k (k + 4) = x at *
  obtain ⟨v, hv⟩ : ∃ v, bigN x.data.toList = v := ⟨_, rfl⟩
  have HV := Lib.hid hv
  rw [hv] at HC
  clear hv
  go_enter Try.func24, Try.ntmps24
  go_wp2_with fail
  refine (HC.out _ (box3 _ _ _ _)).mono ?_
  rintro e w2 ⟨rfl, hm⟩
  have d0 : w2.cell? ⟨w.heap.size + 1, 0, none⟩ = some (.int .i64 0) := by rw [hm.2.cell (by simp <;> omega) (by omega)]; simp [go_sem]
  have d1 : w2.cell? ⟨w.heap.size + 1, 1, none⟩ = some (.int .i64 0) := by rw [hm.2.cell (by simp <;> omega) (by omega)]; simp [go_sem]
  have e0 : w2.cell? ⟨w.heap.size + 2, 0, none⟩ = some (.int .i64 0) := by rw [hm.2.cell (by simp <;> omega) (by omega)]; simp [go_sem]
  have e1 : w2.cell? ⟨w.heap.size + 2, 1, none⟩ = some (.int .i64 0) := by rw [hm.2.cell (by simp <;> omega) (by omega)]; simp [go_sem]
  have f0 : w2.frozen? ⟨w.heap.size + 2, 0, none⟩ = false := by rw [hm.2.frozen (by simp <;> omega) (by omega)]; simp [go_sem]
  have f1 : w2.frozen? ⟨w.heap.size + 2, 1, none⟩ = false := by rw [hm.2.frozen (by simp <;> omega) (by omega)]; simp [go_sem]
  have hz2 : w.heap.size + 2 < w2.heap.size := by have := hm.2.size; simp at this; omega
  have HM : Hid (Moved g s (k + 4) w ((w2.setCell ⟨w.heap.size + 2, 0, none⟩ (.int .i64 0)).setCell ⟨w.heap.size + 2, 1, none⟩ (.int .i64 0))) := Lib.hid ⟨(hm.1.below (((Below.refl (w.heap.size) w2).setCell (p := ⟨w.heap.size + 2, 0, none⟩) (by simp) _).setCell (p := ⟨w.heap.size + 2, 1, none⟩) (by simp) _) hlt), (((But.of_below (box3 _ _ _ _)).trans hm.2).setCell (.inr (by simp)) _).setCell (.inr (by simp)) _⟩
  clear hm
  go_wp2_with fail
  have HD := Lib.hid (And.intro d0 (And.intro d1 (And.intro e0 (And.intro e1 (And.intro f0 f1)))))
  generalize hW : (w2.setCell ⟨w.heap.size + 2, 0, none⟩ (.int .i64 0)).setCell ⟨w.heap.size + 2, 1, none⟩ (.int .i64 0) = W
  have q0 : W.cell? ⟨w.heap.size + 1, 0, none⟩ = some (.int .i64 0) := by rw [← hW]; simp [go_sem, d0]
  have q1 : W.cell? ⟨w.heap.size + 1, 1, none⟩ = some (.int .i64 0) := by rw [← hW]; simp [go_sem, d1]
  have q2 : W.cell? ⟨w.heap.size + 2, 0, none⟩ = some (.int .i64 0) := by rw [← hW]; simp [go_sem, e0]
  have q3 : W.cell? ⟨w.heap.size + 2, 1, none⟩ = some (.int .i64 0) := by rw [← hW]; simp [go_sem, e1]
  rw [hW] at HM
  clear hW d0 d1 e0 e1 f0 f1
  go_loop [12, 13] (fun m i => ∃ j : Nat, j ≤ x.size ∧ i = .int .i64 j ∧ m = .int .u32 (bigN (x.data.toList.take j))) (fun _ i => x.size - (intOf i).toNat)
  case atStart => exact ⟨0, Nat.zero_le _, rfl, rfl⟩
  case round =>
    obtain ⟨j, hj, rfl, rfl⟩ := hrel
    by_cases hlt2 : j < x.size
    · have hjl : j < x.data.toList.length := by rw [← Lib.size_eq]; exact hlt2
      have hst : bigN (x.data.toList.take (j + 1)) = bigN (x.data.toList.take j) * 256 + x[j].toNat := by
        rw [List.take_succ_eq_append_getElem hjl, bigN_snoc]; rfl
      have hb2 : bigN (x.data.toList.take j) < 16777216 := Nat.lt_of_lt_of_le (bigN_lt (x.data.toList.take j)) (by
        have : (x.data.toList.take j).length ≤ 3 := by rw [List.length_take]; omega
        exact Nat.le_trans (Nat.pow_le_pow_right (by decide) this) (by decide))
      have hidx := fun w => index_byte 9 Try.underlying9 x j hlt2 w
      have HS := Lib.hid hst
      clear hst
      generalize x[j] = b at *
      generalize bigN (x.data.toList.take j) = n at *
      have hbt := b.toNat_lt
      go_wp2
      go_round
      case rel => exact ⟨j + 1, by omega, by go_num, by rw [HS.out]; go_num⟩
      case measure => simp [intOf]; omega
    · obtain rfl : j = x.size := by omega
      have ha : x.data.toList.take x.size = x.data.toList := List.take_of_length_le (by rw [← Lib.size_eq]; exact Nat.le_refl _)
      rw [ha]
      rw [HV.out]
      go_wp2
      go_ret
      exact ⟨rfl, HM.out⟩

set_option maxHeartbeats 1000000 in
set_option maxRecDepth 20000 in
theorem takes_u32_end (g : Nat) (n : Int) (s : ByteArray) (k : Nat) (w : World) (h : Cur w g s k) (hk : k ≤ s.size) (hn : s.size < k + 4) (hs : s.size ≤ maxLen) :
    Calls Try.prog 24 #[.agg #[.pointer (some ⟨g, 0, none⟩), .int .i64 n], .int .i64 2, .string ⟨#[]⟩, .agg #[.int .i64 k, .int .i64 8]] w fun e w' => e = .returned (.bool true) ∧ Moved g s (k) w w' := by
  have hmf : ∀ (fn : Fn) (first cap : Array Value) (w : World), (Instr.makeFunc fn first cap).run Try.prog w = .ok (.func fn first cap) w := fun _ _ _ _ => rfl
  have hlt := h.lt
  have HC := Lib.hid (fun (w1 : World) (hw : Below w.heap.size w w1) => valU32_bad g n s k w1 (h.below hw hlt) hk hn hs)
  clear h
  go_enter Try.func24, Try.ntmps24
  go_wp2_with fail
  refine (HC.out _ (box3 _ _ _ _)).mono ?_
  rintro e w2 ⟨rfl, hm⟩
  have d0 : w2.cell? ⟨w.heap.size + 1, 0, none⟩ = some (.int .i64 k) := by rw [hm.2.cell (by simp <;> omega) (by omega)]; simp [go_sem]
  have d1 : w2.cell? ⟨w.heap.size + 1, 1, none⟩ = some (.int .i64 8) := by rw [hm.2.cell (by simp <;> omega) (by omega)]; simp [go_sem]
  have e0 : w2.cell? ⟨w.heap.size + 2, 0, none⟩ = some (.int .i64 0) := by rw [hm.2.cell (by simp <;> omega) (by omega)]; simp [go_sem]
  have e1 : w2.cell? ⟨w.heap.size + 2, 1, none⟩ = some (.int .i64 0) := by rw [hm.2.cell (by simp <;> omega) (by omega)]; simp [go_sem]
  have f0 : w2.frozen? ⟨w.heap.size + 2, 0, none⟩ = false := by rw [hm.2.frozen (by simp <;> omega) (by omega)]; simp [go_sem]
  have f1 : w2.frozen? ⟨w.heap.size + 2, 1, none⟩ = false := by rw [hm.2.frozen (by simp <;> omega) (by omega)]; simp [go_sem]
  have hz2 : w.heap.size + 2 < w2.heap.size := by have := hm.2.size; simp at this; omega
  have HM : Hid (Moved g s (k) w ((w2.setCell ⟨w.heap.size + 2, 0, none⟩ (.int .i64 k)).setCell ⟨w.heap.size + 2, 1, none⟩ (.int .i64 8))) := Lib.hid ⟨(hm.1.below (((Below.refl (w.heap.size) w2).setCell (p := ⟨w.heap.size + 2, 0, none⟩) (by simp) _).setCell (p := ⟨w.heap.size + 2, 1, none⟩) (by simp) _) hlt), (((But.of_below (box3 _ _ _ _)).trans hm.2).setCell (.inr (by simp)) _).setCell (.inr (by simp)) _⟩
  clear hm
  go_wp2_with fail
  refine wp_loop_rounds 1 ?_
  rw [rounds_succ]
  go_wp2_with fail
  go_ret
  exact ⟨rfl, HM.out⟩

end Go.Proofs.Ythmiadbeiggmlaa
