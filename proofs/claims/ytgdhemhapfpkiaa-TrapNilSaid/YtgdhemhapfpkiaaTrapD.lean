/-
  Walks of package trap: one and First.
-/
import Derived.Test.YtgdhemhapfpkiaaTrapC
namespace Go.Proofs.Ytgdhemhapfpkiaa
open Go.RowKit
set_option linter.unusedSimpArgs false
set_option linter.unusedVariables false

theorem heap2 (w : World) (o0 o1 : Obj) : ((w.alloc o0).alloc o1).heap.size = w.heap.size + 2 := by simp

theorem entersOne1 : Enters 102 := fun args w => MuLone.run_callFunc_enter Try.func102 (by kernel_rfl) rfl args w

/-- What the closure of one does, as the catching wants it. -/
theorem one1_gives (K : FuncId) (first : Array Value) (v : Int) (w W2 w1 : World) (hcf : Enters K)
    (hW : W2 = (w.alloc (.cells #[.func (.func K) first #[]] 53)).alloc (.cells #[.int .i64 0] 22))
    (hb : Below (w.heap.size + 2) W2 w1) (hK : GivesB K first (.int .i64 v)) :
    Gives 102 #[.pointer (some ⟨w.heap.size, 0, none⟩), .pointer (some ⟨w.heap.size + 1, 0, none⟩)] (.tuple #[]) (w.heap.size + 2)
      (fun w' => Below w.heap.size w w' ∧ Holds1 (w.heap.size + 1) (.int .i64 v) w') w1 := by
  have hs : W2.heap.size = w.heap.size + 2 := by rw [hW]; simp
  have hz : w.heap.size + 2 ≤ w1.heap.size := by have := hb.size; omega
  have hb0 : Below w.heap.size w w1 := by
    refine Below.trans (b := W2) ?_ (hb.mono (by omega))
    rw [hW]
    exact (below_box _ _).alloc (by simp) _
  have hc : ∀ b o, b < w.heap.size + 2 → w1.cell? ⟨b, o, none⟩ = W2.cell? ⟨b, o, none⟩ := fun b o h => hb.cell (p := ⟨b, o, none⟩) h
  have hf : ∀ b o, b < w.heap.size + 2 → w1.frozen? ⟨b, o, none⟩ = W2.frozen? ⟨b, o, none⟩ := fun b o h => hb.frozen (p := ⟨b, o, none⟩) h
  have c1 : w1.cell? ⟨w.heap.size, 0, none⟩ = some (.func (.func K) first #[]) := by rw [hc _ _ (by omega), hW]; simp [go_sem]
  have c2 : w1.cell? ⟨w.heap.size + 1, 0, none⟩ = some (.int .i64 0) := by rw [hc _ _ (by omega), hW]; simp [go_sem]
  have f2 : w1.frozen? ⟨w.heap.size + 1, 0, none⟩ = false := by rw [hf _ _ (by omega), hW]; simp [go_sem]
  have HW := Lib.hid hW
  clear hW hs hc hf hb
  have HB := Lib.hid hb0
  clear hb0
  have HK := Lib.hid hK; clear hK
  unfold Enters at hcf
  unfold Gives
  go_enter Try.func102, Try.ntmps102
  go_wp2_with fail
  refine (HK.out _).mono ?_
  rintro e w2 ⟨rfl, hk⟩
  have d2 : w2.cell? ⟨w.heap.size + 1, 0, none⟩ = some (.int .i64 0) := by rw [cell_below hk (by omega)]; exact c2
  have g2 : w2.frozen? ⟨w.heap.size + 1, 0, none⟩ = false := by rw [frozen_below hk (by omega)]; exact f2
  go_wp2_with fail
  go_end0
  refine ⟨rfl, ⟨?_, ?_⟩, ?_, ?_, ?_⟩
  · have := hk.size; simpa [World.setCell] using this
  · intro b h1 h2
    rw [Below.heap_setCell _ _ _ _ (by simp; omega)]
    exact hk.block b h2
  · exact (HB.out.trans (hk.mono (by omega))).setCell (by simp) _
  · rw [World.cell?_setCell_same (h := d2)]
  · rw [World.frozen?_setCell]; exact g2

theorem one1_throws (K : FuncId) (first : Array Value) (a c : Int) (w W2 w1 : World) (hcf : Enters K)
    (hW : W2 = (w.alloc (.cells #[.func (.func K) first #[]] 53)).alloc (.cells #[.int .i64 0] 22))
    (hb : Below (w.heap.size + 2) W2 w1) (hK : ThrowsB K first a c) :
    Throws 102 #[.pointer (some ⟨w.heap.size, 0, none⟩), .pointer (some ⟨w.heap.size + 1, 0, none⟩)] a c (w.heap.size + 2)
      (fun w' => Below w.heap.size w w' ∧ Holds1 (w.heap.size + 1) (.int .i64 0) w') w1 := by
  have hs : W2.heap.size = w.heap.size + 2 := by rw [hW]; simp
  have hz : w.heap.size + 2 ≤ w1.heap.size := by have := hb.size; omega
  have hb0 : Below w.heap.size w w1 := by
    refine Below.trans (b := W2) ?_ (hb.mono (by omega))
    rw [hW]
    exact (below_box _ _).alloc (by simp) _
  have hc : ∀ b o, b < w.heap.size + 2 → w1.cell? ⟨b, o, none⟩ = W2.cell? ⟨b, o, none⟩ := fun b o h => hb.cell (p := ⟨b, o, none⟩) h
  have hf : ∀ b o, b < w.heap.size + 2 → w1.frozen? ⟨b, o, none⟩ = W2.frozen? ⟨b, o, none⟩ := fun b o h => hb.frozen (p := ⟨b, o, none⟩) h
  have c1 : w1.cell? ⟨w.heap.size, 0, none⟩ = some (.func (.func K) first #[]) := by rw [hc _ _ (by omega), hW]; simp [go_sem]
  have c2 : w1.cell? ⟨w.heap.size + 1, 0, none⟩ = some (.int .i64 0) := by rw [hc _ _ (by omega), hW]; simp [go_sem]
  have f2 : w1.frozen? ⟨w.heap.size + 1, 0, none⟩ = false := by rw [hf _ _ (by omega), hW]; simp [go_sem]
  have HW := Lib.hid hW
  clear hW hs hc hf hb
  have HB := Lib.hid hb0
  clear hb0
  have HK := Lib.hid hK; clear hK
  unfold Enters at hcf
  unfold Throws
  go_enter Try.func102, Try.ntmps102
  go_wp2_with fail
  refine (HK.out _).mono ?_
  rintro e w2 ⟨rfl, hk⟩
  refine ⟨rfl, rfl, ⟨hk.size, fun b _ h2 => hk.block b h2⟩, HB.out.trans (hk.mono (by omega)), ?_, ?_⟩
  · rw [cell_below hk (by omega)]; exact c2
  · rw [frozen_below hk (by omega)]; exact f2

set_option maxRecDepth 20000 in
theorem one_gives {K : FuncId} {first : Array Value} {v : Int} (hcf : Enters K) (hK : GivesB K first (.int .i64 v)) (w : World) :
    Calls Try.prog 84 #[.func (.func K) first #[]] w fun e w' => e = .returned (.int .i64 v) ∧ Below w.heap.size w w' := by
  have HK := Lib.hid hK; clear hK
  have HE := Lib.hid hcf; clear hcf
  have HST := Lib.hid (((stays_below w.heap.size w).mono (Nat.le_add_right _ 2)).and (Holds1.stays (g := w.heap.size + 1) (v := .int .i64 v) (S := w.heap.size + 2) (by omega)))
  have hnn := fun (w : World) => run_eql_func_nil (P := Try.prog) w Try.underlying53 (.func K) first #[]
  have hmf : ∀ (fn : Fn) (first cap : Array Value) (w : World), (Instr.makeFunc fn first cap).run Try.prog w = .ok (.func fn first cap) w := fun _ _ _ _ => rfl
  go_enter Try.func84, Try.ntmps84
  go_wp2_with fail
  refine (catch_gives 102 #[] _ (w.heap.size + 2) _ _ entersOne1 (by simp) (by rw [heap2]; exact HST.out) ?_).mono ?_
  · intro w1 h1
    rw [heap2] at h1
    exact one1_gives K first v w _ w1 HE.out rfl h1 HK.out
  rintro e w3 ⟨rfl, hk, hp, h1, h2⟩
  have hz := hk.size
  simp at hz
  have hz0 : w.heap.size + 1 < w3.heap.size := by omega
  have HP := Lib.hid hp
  clear hp hk hz
  go_wp2_with fail
  refine bodyPost_ret (v := .int .i64 v) ?_ rfl ⟨rfl, ?_⟩
  · simp [results, Try.results84, go_sem, h1, hz0]
  · exact (HP.out.setCell (by simp) _).alloc (by have := HP.out.size; simpa using this) _

set_option maxRecDepth 20000 in
theorem one_throws {K : FuncId} {first : Array Value} {a c : Int} (hcf : Enters K) (hK : ThrowsB K first a c) (w : World) :
    Calls Try.prog 84 #[.func (.func K) first #[]] w fun e w' => e = .returned (.int .i64 c) ∧ Below w.heap.size w w' := by
  have HK := Lib.hid hK; clear hK
  have HE := Lib.hid hcf; clear hcf
  have HST := Lib.hid (((stays_below w.heap.size w).mono (Nat.le_add_right _ 2)).and (Holds1.stays (g := w.heap.size + 1) (v := .int .i64 0) (S := w.heap.size + 2) (by omega)))
  have hnn := fun (w : World) => run_eql_func_nil (P := Try.prog) w Try.underlying53 (.func K) first #[]
  have hmf : ∀ (fn : Fn) (first cap : Array Value) (w : World), (Instr.makeFunc fn first cap).run Try.prog w = .ok (.func fn first cap) w := fun _ _ _ _ => rfl
  go_enter Try.func84, Try.ntmps84
  go_wp2_with fail
  refine (catch_throws 102 #[] _ a c (w.heap.size + 2) _ _ entersOne1 (by simp) (by rw [heap2]; exact HST.out) ?_).mono ?_
  · intro w1 h1
    rw [heap2] at h1
    exact one1_throws K first a c w _ w1 HE.out rfl h1 HK.out
  rintro e w3 ⟨rfl, hk, hp, h1, h2⟩
  have hz := hk.size
  simp at hz
  have hz0 : w.heap.size + 1 < w3.heap.size := by omega
  have HP := Lib.hid hp
  clear hp hk hz
  go_wp2_with fail
  refine bodyPost_ret (v := .int .i64 c) ?_ rfl ⟨rfl, ?_⟩
  · simp [results, Try.results84, go_sem, h1, hz0]
  · exact (HP.out.setCell (by simp) _).alloc (by have := HP.out.size; simpa using this) _

theorem one_nil (w : World) :
    Calls Try.prog 84 #[.nilFunc] w fun e w' => e = .returned (.int .i64 1) ∧ Below w.heap.size w w' := by
  have hnn := fun (w : World) => run_eql_nil_func (P := Try.prog) w Try.underlying53
  go_enter Try.func84, Try.ntmps84
  go_wp2_with fail
  refine bodyPost_ret (v := .int .i64 1) ?_ rfl ⟨rfl, ?_⟩
  · simp [results, Try.results84, go_sem]
  · exact (below_box _ _).alloc (by simp) _

/-- Which code is the first that is not 0; none: how many there are. -/
def firstAt : List Int → Nat
  | [] => 0
  | e :: r => if e = 0 then firstAt r + 1 else 0

/-- The first code that is not 0; 0: there is none. -/
def firstCode : List Int → Int
  | [] => 0
  | e :: r => if e = 0 then firstCode r else e

theorem firstAt_zeros (es : List Int) (k : Nat) (hk : k < es.length) (h0 : ∀ j (h : j < es.length), j < k → es[j] = 0) (h : es[k] ≠ 0) : firstAt es = k ∧ firstCode es = es[k] := by
  induction es generalizing k with
  | nil => simp at hk
  | cons e r ih =>
    cases k with
    | zero => simp at h; simp [firstAt, firstCode, h]
    | succ k =>
      have he : e = 0 := h0 0 (by simp) (by omega)
      have := ih k (by simpa using hk) (fun j hj hjk => h0 (j + 1) (by simpa using hj) (by omega)) (by simpa using h)
      simp [firstAt, firstCode, he, this]

theorem firstAt_all (es : List Int) (h0 : ∀ j (h : j < es.length), es[j] = 0) : firstAt es = es.length ∧ firstCode es = 0 := by
  induction es with
  | nil => simp [firstAt, firstCode]
  | cons e r ih =>
    have he : e = 0 := h0 0 (by simp)
    have := ih fun j hj => h0 (j + 1) (by simpa using hj)
    simp [firstAt, firstCode, he, this]

/-- A function that tells of a code, whatever it does. -/
def Tells (fv : Value) (e : Int) : Prop := ∀ w, Calls Try.prog 84 #[fv] w fun x w' => x = .returned (.int .i64 e) ∧ Below w.heap.size w w'

/-- The first k codes are 0. -/
def Zeros (es : List Int) (k : Nat) : Prop := ∀ j (h : j < es.length), j < k → es[j] = 0

set_option maxRecDepth 20000 in
theorem First_any (es : List Int) (g cap : Nat) (w : World) (hg : g < w.heap.size) (hn : es.length ≤ 1000) (hcells : ∀ i (h : i < es.length), ∃ fv, w.cell? ⟨g, i, none⟩ = some fv ∧ Tells fv es[i]) :
    Calls Try.prog 39 #[.slice (some ⟨g, 0, none⟩) es.length cap] w fun e w' => e = .returned (.tuple #[.int .i64 (firstAt es), .int .i64 (firstCode es)]) ∧ Below w.heap.size w w' := by
  have HC := Lib.hid hcells; clear hcells
  go_enter Try.func39, Try.ntmps39
  go_wp2_with fail
  go_loopw [9] (fun i wr => ∃ k : Nat, k ≤ es.length ∧ i = .int .i64 k ∧ Zeros es k ∧ Below w.heap.size w wr) (fun i _ => es.length - (intOf i).toNat)
  case atStart => exact ⟨0, Nat.zero_le _, rfl, fun j _ h => by omega, Below.refl _ _⟩
  case round =>
    obtain ⟨k, hk, rfl, hz, hb⟩ := hrel
    have HZ := Lib.hid hz; clear hz
    by_cases hlt : k < es.length
    · obtain ⟨fv, hc, ht⟩ := HC.out k hlt
      have HT := Lib.hid ht; clear ht
      have hc2 : wr.cell? ⟨g, k, none⟩ = some fv := by rw [cell_below hb hg]; exact hc
      clear hc
      have HB := Lib.hid hb; clear hb
      by_cases he : es[k] = 0
      · have HE := Lib.hid he; clear he
        go_wp2_with (go_at_call 84; refine (HT.out _).mono ?_; rintro e w1 ⟨rfl, hb1⟩; rw [HE.out])
        go_roundw
        case rel => exact ⟨k + 1, by omega, by go_num, fun j h hj => by
          by_cases e : j = k
          · subst e; exact HE.out
          · exact HZ.out j h (by omega), HB.out.trans (hb1.mono HB.out.size)⟩
        case measure => simp [intOf]; omega
      · have HF := Lib.hid (firstAt_zeros es k hlt HZ.out he)
        have hne : (es[k] != 0) = true := by simpa using he
        generalize es[k] = x at *
        clear he
        go_wp2_with (go_at_call 84; refine (HT.out _).mono ?_; rintro e w1 ⟨rfl, hb1⟩)
        go_ret2
        exact ⟨by rw [HF.out.1, HF.out.2] <;> rfl, HB.out.trans (hb1.mono HB.out.size)⟩
    · obtain rfl : k = es.length := by omega
      have HF := Lib.hid (firstAt_all es fun j h => HZ.out j h h)
      have HB := Lib.hid hb; clear hb
      go_wp2_with fail
      go_ret2
      exact ⟨by rw [HF.out.1, HF.out.2] <;> rfl, HB.out⟩

theorem First_none (w : World) :
    Calls Try.prog 39 #[.slice none 0 0] w fun e w' => e = .returned (.tuple #[.int .i64 0, .int .i64 0]) ∧ w = w' := by
  go_enter Try.func39, Try.ntmps39
  go_wp2_with fail
  go_loop [9] (fun i => i = .int .i64 0) (fun _ => 0)
  case atStart => exact rfl
  case round =>
    obtain rfl := hrel
    go_wp2_with fail
    go_ret2
    exact ⟨rfl, rfl⟩

end Go.Proofs.Ytgdhemhapfpkiaa
