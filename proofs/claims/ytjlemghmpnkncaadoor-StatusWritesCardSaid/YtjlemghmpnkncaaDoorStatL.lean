/-
  The walk of package status: Line.
-/
import Derived.Test.YtjlemghmpnkncaaDoorStatR2
namespace Go.Proofs.YtjlemghmpnkncaaDoor
open Go.RowKit
set_option linter.unusedSimpArgs false
set_option linter.unusedVariables false

def codeOk : ReadR → Prop
  | .inl (_, c) => c = 2 ∨ c = 8
  | .inr _ => True

theorem codeOk_ite {p : Prop} [Decidable p] {a b : ReadR} (h1 : codeOk a) (h2 : codeOk b) : codeOk (if p then a else b) := by
  split
  · exact h1
  · exact h2

theorem readR_ok (T : ByteArray) : codeOk (readR T) := by
  unfold readR finR
  repeat' (with_reducible refine codeOk_ite ?_ ?_)
  all_goals simp [codeOk]

theorem readR_code {T : ByteArray} {a c : Int} (h : readR T = .inl (a, c)) : c = 2 ∨ c = 8 := by
  have := readR_ok T
  rw [h] at this
  exact this

theorem entersLine1 : Enters 43 := fun args w => MuLone.run_callFunc_enter Tryd.func43 (by kernel_rfl) rfl args w
theorem entersValS1 : Enters 65 := fun args w => MuLone.run_callFunc_enter Tryd.func65 (by kernel_rfl) rfl args w

set_option maxRecDepth 20000 in
theorem line1_gives (T : ByteArray) (g bx : Nat) (w : World) (h : Cur w g T 0) (hs : T.size ≤ maxLen) (hbx : bx < w.heap.size) (c0 : w.cell? ⟨bx, 0, none⟩ = some (.pointer (some ⟨g, 0, none⟩))) (a b c : Int) (r : ByteArray) (hR : readR T = .inr (a, b, c, r)) :
    Calls Tryd.prog 43 #[.pointer (some ⟨bx, 0, none⟩)] w fun e w' => e = .returned (statV a b c r) ∧ But g w w' := by
  have HC : Hid (∀ w1 : World, Cur w1 g T 0 → Calls Tryd.prog 44 #[.pointer (some ⟨g, 0, none⟩)] w1 fun e w' => e = .returned (statV a b c r) ∧ But g w1 w') := Lib.hid (fun w1 h1 => (read_any T g w1 h1 hs).mono fun e w' hp => by
    unfold ReadPost at hp
    rw [hR] at hp
    exact hp)
  have H1 := Lib.hid (h.alloc (.cells #[.int .i64 0, .int .i64 0, .int .i64 0, .string ⟨#[]⟩] 27))
  have hg := h.lt
  have hb0 : (w.alloc (.cells #[.int .i64 0, .int .i64 0, .int .i64 0, .string ⟨#[]⟩] 27)).heap[w.heap.size]? = some (statO 0 0 0 ⟨#[]⟩) := heap_alloc_new w _
  have HB0 := Lib.hid hb0
  clear hR h hb0
  go_enter Tryd.func43, Tryd.ntmps43
  go_wp2_with fail
  refine Calls.mono (HC.out _ H1.out) ?_
  rintro e w1 ⟨rfl, hb⟩
  have B0 := (hb.block w.heap.size (by simp) (by simp; omega)).trans HB0.out
  obtain ⟨z0, z1, z2, z3, zf⟩ := stat_cells B0
  have HB := Lib.hid (((But.refl g w).alloc (.cells #[.int .i64 0, .int .i64 0, .int .i64 0, .string ⟨#[]⟩] 27)).trans hb)
  clear hb B0
  unfold statV
  go_wp2_with fail
  refine bodyPost_ret (v := statV a b c r) ?_ rfl ⟨rfl, (((HB.out.setCell (.inr (by simp)) _).setCell (.inr (by simp)) _).setCell (.inr (by simp)) _).setCell (.inr (by simp)) _⟩
  unfold statV
  simp [results, Tryd.results43, go_sem, z0, z1, z2, z3]

theorem line1_throws (T : ByteArray) (g bx : Nat) (w : World) (h : Cur w g T 0) (hs : T.size ≤ maxLen) (hbx : bx < w.heap.size) (c0 : w.cell? ⟨bx, 0, none⟩ = some (.pointer (some ⟨g, 0, none⟩))) (a c : Int) (hR : readR T = .inl (a, c)) :
    Calls Tryd.prog 43 #[.pointer (some ⟨bx, 0, none⟩)] w fun e w' => e = .panicked [{ v := faultV a c, recovered := false }] ∧ But g w w' := by
  have HC : Hid (∀ w1 : World, Cur w1 g T 0 → Calls Tryd.prog 44 #[.pointer (some ⟨g, 0, none⟩)] w1 fun e w' => e = .panicked [{ v := faultV a c, recovered := false }] ∧ But g w1 w') := Lib.hid (fun w1 h1 => (read_any T g w1 h1 hs).mono fun e w' hp => by
    unfold ReadPost at hp
    rw [hR] at hp
    exact hp)
  have H1 := Lib.hid (h.alloc (.cells #[.int .i64 0, .int .i64 0, .int .i64 0, .string ⟨#[]⟩] 27))
  have hg := h.lt
  clear hR h
  go_enter Tryd.func43, Tryd.ntmps43
  go_wp2_with fail
  refine Calls.mono (HC.out _ H1.out) ?_
  rintro e w1 ⟨rfl, hb⟩
  exact ⟨rfl, rfl, ((But.refl g w).alloc _).trans hb⟩

/-- What Line says. -/
def lineV (s : ByteArray) : Value :=
  match readR (endsB s) with
  | .inl _ => .tuple #[statV 0 0 0 ⟨#[]⟩, .int .i64 2]
  | .inr (a, b, c, r) => .tuple #[statV a b c r, .int .i64 0]

set_option maxRecDepth 20000 in
set_option maxHeartbeats 1000000 in
theorem Line_any (s : ByteArray) (w : World) (hs : s.size ≤ maxLen) (hse : (endsB s).size ≤ maxLen) :
    Calls Tryd.prog 21 #[.string s] w fun e w' => e = .returned (lineV s) ∧ Below w.heap.size w w' := by
  have hmf : ∀ (fn : Fn) (first cap : Array Value) (w : World), (Instr.makeFunc fn first cap).run Tryd.prog w = .ok (.func fn first cap) w := fun _ _ _ _ => rfl
  have HEN := Lib.hid (fun w => Ends_any s w hs)
  have G1 := Lib.hid (fun (g bx : Nat) (w : World) (h : Cur w g (endsB s) 0) (hbx : bx < w.heap.size) (c0 : w.cell? ⟨bx, 0, none⟩ = some (.pointer (some ⟨g, 0, none⟩))) => line1_gives (endsB s) g bx w h hse hbx c0)
  have G2 := Lib.hid (fun (g bx : Nat) (w : World) (h : Cur w g (endsB s) 0) (hbx : bx < w.heap.size) (c0 : w.cell? ⟨bx, 0, none⟩ = some (.pointer (some ⟨g, 0, none⟩))) => line1_throws (endsB s) g bx w h hse hbx c0)
  generalize hT : endsB s = T at *
  have HT := Lib.hid hT
  clear hT
  go_enter Tryd.func21, Tryd.ntmps21
  go_wp2_with (first | (go_at_call 41; refine (HEN.out _).mono ?_; rintro e w' ⟨rfl, rfl⟩) | (go_at_call 40; refine (New_any _ _).mono ?_; rintro e w' ⟨rfl, rfl⟩))
  have hsz : (((w.alloc (.cells #[.int .i64 0, .int .i64 0, .int .i64 0, .string ⟨#[]⟩] 27)).alloc (.cells #[.string T, .int .i64 0] 71)).alloc (.cells #[.pointer (some ⟨w.heap.size + 1, 0, none⟩)] 55)).heap.size = w.heap.size + 3 := by simp
  have hcu : Cur (((w.alloc (.cells #[.int .i64 0, .int .i64 0, .int .i64 0, .string ⟨#[]⟩] 27)).alloc (.cells #[.string T, .int .i64 0] 71)).alloc (.cells #[.pointer (some ⟨w.heap.size + 1, 0, none⟩)] 55)) (w.heap.size + 1) T 0 := by
    have := (Cur.new (w.alloc (.cells #[.int .i64 0, .int .i64 0, .int .i64 0, .string ⟨#[]⟩] 27)) T).alloc (.cells #[.pointer (some ⟨w.heap.size + 1, 0, none⟩)] 55)
    rwa [World.size_alloc] at this
  have hbx : (((w.alloc (.cells #[.int .i64 0, .int .i64 0, .int .i64 0, .string ⟨#[]⟩] 27)).alloc (.cells #[.string T, .int .i64 0] 71)).alloc (.cells #[.pointer (some ⟨w.heap.size + 1, 0, none⟩)] 55)).cell? ⟨w.heap.size + 1 + 1, 0, none⟩ = some (.pointer (some ⟨w.heap.size + 1, 0, none⟩)) := by simp [go_sem]
  have hb0 : (((w.alloc (.cells #[.int .i64 0, .int .i64 0, .int .i64 0, .string ⟨#[]⟩] 27)).alloc (.cells #[.string T, .int .i64 0] 71)).alloc (.cells #[.pointer (some ⟨w.heap.size + 1, 0, none⟩)] 55)).heap[w.heap.size]? = some (statO 0 0 0 ⟨#[]⟩) := by
    rw [Below.heap_alloc _ _ _ (by simp; omega), Below.heap_alloc _ _ _ (by simp)]
    exact heap_alloc_new w _
  have hbl : Below w.heap.size w (((w.alloc (.cells #[.int .i64 0, .int .i64 0, .int .i64 0, .string ⟨#[]⟩] 27)).alloc (.cells #[.string T, .int .i64 0] 71)).alloc (.cells #[.pointer (some ⟨w.heap.size + 1, 0, none⟩)] 55)) := ((below_box w _).alloc (by simp) _).alloc (by simp; omega) _
  generalize ((w.alloc (.cells #[.int .i64 0, .int .i64 0, .int .i64 0, .string ⟨#[]⟩] 27)).alloc (.cells #[.string T, .int .i64 0] 71)).alloc (.cells #[.pointer (some ⟨w.heap.size + 1, 0, none⟩)] 55) = W at *
  have HBL := Lib.hid hbl
  have HB0 := Lib.hid hb0
  clear hbl hb0 HEN
  cases hR : readR T with
  | inl q =>
    obtain ⟨a, c⟩ := q
    have hc := readR_code hR
    have HV : Hid (lineV s = .tuple #[statV 0 0 0 ⟨#[]⟩, .int .i64 2]) := Lib.hid (by unfold lineV; rw [HT.out, hR])
    have K := valueS_throws 43 #[] #[.pointer (some ⟨w.heap.size + 1 + 1, 0, none⟩)] a c (w.heap.size + 2) (But (w.heap.size + 1) W) W entersLine1 entersValS1 (by omega) (But.stays (Nat.le_refl _)) (fun w1 h1 => by
      rw [Array.empty_append]
      refine Calls.mono (G2.out (w.heap.size + 1) (w.heap.size + 1 + 1) w1 (hcu.below h1 (by omega)) (by have := h1.size; omega) ((cell_below h1 (by omega)).trans hbx) a c hR) ?_
      rintro e w2 ⟨he, hb⟩
      exact ⟨he, hb.keeps (by omega), (But.of_below h1).trans hb⟩)
    refine Calls.mono K ?_
    clear G1 G2 K hcu hbx
    rintro e w4 ⟨rfl, hk, hb⟩
    have hz := hb.size
    have B0 := (hb.block w.heap.size (by omega) (by simp)).trans HB0.out
    obtain ⟨z0, z1, z2, z3, zf⟩ := stat_cells B0
    have hz0 : w.heap.size < w4.heap.size := by omega
    have HF := Lib.hid (HBL.out.trans (hb.below (B := w.heap.size) (by omega) (by omega)))
    clear hk hb B0 HB0 HBL
    have hc1 : (c != 0) = true := by rw [bne_iff_ne]; omega
    have hc2 : ¬ (c = 0) := by omega
    unfold statV
    go_wp2_with fail
    refine bodyPost_ret (v := .tuple #[statV 0 0 0 ⟨#[]⟩, .int .i64 2]) ?_ rfl ⟨by rw [HV.out], (((((HF.out.setCell (by simp) _).setCell (by simp) _).setCell (by simp) _).setCell (by simp) _).alloc (by simp; omega) _).alloc (by simp; omega) _⟩
    unfold statV
    simp [results, Tryd.results21, go_sem, z0, z1, z2, z3, hz0]
  | inr q =>
    obtain ⟨a, b, c, r⟩ := q
    have HV : Hid (lineV s = .tuple #[statV a b c r, .int .i64 0]) := Lib.hid (by unfold lineV; rw [HT.out, hR])
    have K := valueS_gives 43 #[] #[.pointer (some ⟨w.heap.size + 1 + 1, 0, none⟩)] a b c r (w.heap.size + 2) (But (w.heap.size + 1) W) W entersLine1 entersValS1 (by omega) (But.stays (Nat.le_refl _)) (fun w1 h1 => by
      rw [Array.empty_append]
      refine Calls.mono (G1.out (w.heap.size + 1) (w.heap.size + 1 + 1) w1 (hcu.below h1 (by omega)) (by have := h1.size; omega) ((cell_below h1 (by omega)).trans hbx) a b c r hR) ?_
      rintro e w2 ⟨he, hb⟩
      exact ⟨he, hb.keeps (by omega), (But.of_below h1).trans hb⟩)
    refine Calls.mono K ?_
    clear G1 G2 K hcu hbx
    rintro e w4 ⟨rfl, hk, hb⟩
    have hz := hb.size
    have B0 := (hb.block w.heap.size (by omega) (by simp)).trans HB0.out
    obtain ⟨z0, z1, z2, z3, zf⟩ := stat_cells B0
    have hz0 : w.heap.size < w4.heap.size := by omega
    have HF := Lib.hid (HBL.out.trans (hb.below (B := w.heap.size) (by omega) (by omega)))
    clear hk hb B0 HB0 HBL
    unfold statV
    go_wp2_with fail
    refine bodyPost_ret (v := .tuple #[statV a b c r, .int .i64 0]) ?_ rfl ⟨by rw [HV.out], (((((HF.out.setCell (by simp) _).setCell (by simp) _).setCell (by simp) _).setCell (by simp) _).alloc (by simp; omega) _).alloc (by simp; omega) _⟩
    unfold statV
    simp [results, Tryd.results21, go_sem, z0, z1, z2, z3, hz0]

end Go.Proofs.YtjlemghmpnkncaaDoor
