/-
  Walks of package ranges: what digits say; a form is read, and what is thrown is caught.
-/
import Derived.Test.YtjlemghmpnkncaaDoorRangB
import Derived.Test.YtjlemghmpnkncaaDoorTrapB
namespace Go.Proofs.YtjlemghmpnkncaaDoor
open Go.RowKit
set_option linter.unusedSimpArgs false
set_option linter.unusedVariables false

theorem said_any (l : List UInt8) (c : Int) (w : World) (hl : l.length ≤ 1000) (hd : l.all isDigit = true) :
    Calls Tryd.prog 83 #[.string (bl l), .int .i64 c] w fun e w' => e = .returned (.tuple #[.int .i64 (saidN l), .int .i64 (saidE l c)]) ∧ w = w' := by
  by_cases h0 : l = []
  · have H1 : Hid (saidN l = -1) := Lib.hid (by unfold saidN; rw [if_pos h0])
    have H2 : Hid (saidE l c = c) := Lib.hid (by unfold saidE; rw [if_pos h0])
    have hb : (bl l).toList = [] := by rw [bl_nil]; exact h0
    generalize bl l = s at *
    clear h0
    go_enter Tryd.func83, Tryd.ntmps83
    go_wp2_with fail
    go_ret2
    exact ⟨by rw [H1.out, H2.out]; rfl, rfl⟩
  · have hb : (bl l).toList.isEmpty = false := by rw [List.isEmpty_eq_false_iff, ne_eq, bl_nil]; exact h0
    have hz : 0 < (bl l).size := by rw [bl_size]; exact List.length_pos_iff.2 h0
    have hd2 : (bl l).data.toList.all isDigit = true := by rw [bl_list]; exact hd
    have hp := parse_digits hz hd2
    have HP := Lib.hid (fun w => Parse_any (bl l) w (by rw [bl_size]; unfold maxLen; omega))
    rw [hp.1, hp.2] at HP
    rw [bl_list] at HP
    by_cases hm : valL l ≤ mostN
    · rw [if_pos hm, if_pos hm] at HP
      have H1 : Hid (saidN l = valL l) := Lib.hid (by unfold saidN; rw [if_neg h0, if_pos hm])
      have H2 : Hid (saidE l c = c) := Lib.hid (by unfold saidE; rw [if_neg h0, if_pos hm])
      clear hp hd2 hz h0 hm
      generalize bl l = s at *
      go_enter Tryd.func83, Tryd.ntmps83
      go_wp2_with (go_at_call 96; refine (HP.out _).mono ?_; rintro e w2 ⟨rfl, rfl⟩)
      go_ret2
      exact ⟨by rw [H1.out, H2.out]; rfl, rfl⟩
    · rw [if_neg hm, if_neg hm] at HP
      have H1 : Hid (saidN l = 0) := Lib.hid (by unfold saidN; rw [if_neg h0, if_neg hm])
      have H2 : Hid (saidE l c = 9) := Lib.hid (by unfold saidE; rw [if_neg h0, if_neg hm])
      clear hp hd2 hz h0 hm
      generalize bl l = s at *
      go_enter Tryd.func83, Tryd.ntmps83
      go_wp2_with (go_at_call 96; refine (HP.out _).mono ?_; rintro e w2 ⟨rfl, rfl⟩)
      go_ret2
      exact ⟨by rw [H1.out, H2.out]; rfl, rfl⟩

/-- Nothing but some blocks has turned. -/
structure Only (p : Nat → Prop) (w w' : World) : Prop where
  os : w'.os = w.os
  tape : w'.tape = w.tape
  output : w'.output = w.output
  size : w.heap.size ≤ w'.heap.size
  block : ∀ i, i < w.heap.size → ¬ p i → w'.heap[i]? = w.heap[i]?

theorem Only.refl (p : Nat → Prop) (w : World) : Only p w w := ⟨rfl, rfl, rfl, Nat.le_refl _, fun _ _ _ => rfl⟩

theorem Only.trans {p : Nat → Prop} {a b c : World} (h : Only p a b) (k : Only p b c) : Only p a c :=
  ⟨k.os.trans h.os, k.tape.trans h.tape, k.output.trans h.output, Nat.le_trans h.size k.size, fun i hi hn => (k.block i (Nat.lt_of_lt_of_le hi h.size) hn).trans (h.block i hi hn)⟩

theorem Only.of_but {p : Nat → Prop} {g : Nat} {a b : World} (h : But g a b) (hg : p g) : Only p a b :=
  ⟨h.os, h.tape, h.output, h.size, fun i hi hn => h.block i hi (fun e => hn (by injection e with e; rw [e]; exact hg))⟩

theorem Only.of_below {p : Nat → Prop} {a w : World} (h : Below a.heap.size a w) : Only p a w := ⟨h.os, h.tape, h.output, h.size, fun i hi _ => h.block i hi⟩

theorem Only.setCell {p : Nat → Prop} {a w : World} (h : Only p a w) {q : Addr} (hp : p q.block ∨ a.heap.size ≤ q.block) (u : Value) : Only p a (w.setCell q u) :=
  ⟨h.os, h.tape, h.output, by simpa [World.setCell] using h.size, fun i hi hn => (Below.heap_setCell w q u i (by
    rintro rfl
    rcases hp with hp | hp
    · exact hn hp
    · omega)).trans (h.block i hi hn)⟩

theorem Only.below {p : Nat → Prop} {B : Nat} {a b : World} (h : Only p a b) (hp : ∀ i, p i → B ≤ i) (hs : B ≤ a.heap.size) : Below B a b :=
  ⟨h.os, h.tape, h.output, h.size, fun i hi => h.block i (by omega) (fun e => by have := hp i e; omega)⟩

theorem Only.keeps {p : Nat → Prop} {B : Nat} {a b : World} (h : Only p a b) (hp : ∀ i, p i → i < B) : Keeps B a b :=
  ⟨h.size, fun i h1 h2 => h.block i h2 (fun e => by have := hp i e; omega)⟩

theorem Only.mono {p q : Nat → Prop} {a b : World} (h : Only p a b) (hp : ∀ i, p i → q i) : Only q a b :=
  ⟨h.os, h.tape, h.output, h.size, fun i hi hn => h.block i hi (fun e => hn (hp i e))⟩

theorem Only.startA {p : Nat → Prop} {w w' : World} {o : Obj} (h : Only p (w.alloc o) w') : Only p w w' := (Only.of_below (below_box w o)).trans h

theorem Only.startD {p : Nat → Prop} {w w' : World} (h : Only p w.drew w') : Only p w w' := (Only.of_below ((Below.refl _ w).drew)).trans h

set_option maxRecDepth 20000 in
theorem catch_throwsE (K : FuncId) (first cap : Array Value) (c : Int) (B : Nat) (Post : World → Prop) (w : World) (hcf : Enters K) (hB : B ≤ w.heap.size) (hst : Stays w.heap.size Post)
    (hK : ∀ w1, Below w.heap.size w w1 → Calls Tryd.prog K (first ++ cap) w1 fun e w' => ∃ a : Int, e = .panicked [{ v := faultV a c, recovered := false }] ∧ Keeps B w1 w' ∧ Post w') :
    Calls Tryd.prog 64 #[.func (.func K) first cap] w fun e w' => ∃ a : Int, e = .returned (.tuple #[.agg #[.int .i64 a, .int .i64 c], .bool true]) ∧ Keeps B w w' ∧ Post w' := by
  have HK := Lib.hid hK; clear hK
  have HS := Lib.hid hst; clear hst
  unfold Enters at hcf
  have hnn := fun (w : World) => run_eql_func_nil (P := Tryd.prog) w Tryd.underlying1 (.func K) first cap
  have hmf : ∀ (fn : Fn) (first cap : Array Value) (w : World), (Instr.makeFunc fn first cap).run Tryd.prog w = .ok (.func fn first cap) w := fun _ _ _ _ => rfl
  go_enter_defers Tryd.func64, Tryd.ntmps64
  go_wp2_with fail
  refine (HK.out _ ((below_box _ _).alloc (by simp) _)).mono ?_
  rintro e w2 ⟨a, rfl, hk, hp⟩
  have hz := hk.size
  simp at hz
  have hc : ∀ b o, w.heap.size ≤ b → b < w.heap.size + 2 → w2.cell? ⟨b, o, none⟩ = ((w.alloc (Obj.cells #[.int .i64 0, .int .i64 0] 59)).alloc (Obj.cells #[.bool false] 4)).cell? ⟨b, o, none⟩ :=
    fun b o h1 h2 => hk.cell (Nat.le_trans hB h1) (by simpa using h2)
  have hf : ∀ b o, w.heap.size ≤ b → b < w.heap.size + 2 → w2.frozen? ⟨b, o, none⟩ = ((w.alloc (Obj.cells #[.int .i64 0, .int .i64 0] 59)).alloc (Obj.cells #[.bool false] 4)).frozen? ⟨b, o, none⟩ :=
    fun b o h1 h2 => hk.frozen (Nat.le_trans hB h1) (by simpa using h2)
  refine leaves_cons (f := 91) (args := #[.pointer (some ⟨w.heap.size, 0, none⟩), .pointer (some ⟨w.heap.size + 1, 0, none⟩)]) (by simp) (by simp [go_sem]) ?_
  refine (catch1_panics w.heap.size a c 0 0 false [] w2 (by omega) ?_ ?_ ?_ ?_ ?_ ?_).mono ?_
  · rw [hc _ _ (by omega) (by omega)]; simp [go_sem]
  · rw [hc _ _ (by omega) (by omega)]; simp [go_sem]
  · rw [hc _ _ (by omega) (by omega)]; simp [go_sem]
  · rw [hf _ _ (by omega) (by omega)]; simp [go_sem]
  · rw [hf _ _ (by omega) (by omega)]; simp [go_sem]
  · rw [hf _ _ (by omega) (by omega)]; simp [go_sem]
  rintro e u' w3 ⟨rfl, rfl, g0, g1, g2, hb⟩
  have H := Lib.hid (HS.out _ _ hb hp)
  have H2 : Hid (Keeps B w w3) := Lib.hid ((((Keeps.refl B w).alloc (.cells #[.int .i64 0, .int .i64 0] 59)).alloc (.cells #[.bool false] 4)).trans hk |>.below hb)
  clear hp
  simp [Leaves, settle, results, Tryd.results64, go_sem, g0, g1, g2, H.out, H2.out]

set_option maxRecDepth 20000 in
theorem Catch_throwsE (K : FuncId) (first cap : Array Value) (c : Int) (B : Nat) (Post : World → Prop) (w : World) (hcf : Enters K) (hB : B ≤ w.heap.size) (hst : Stays w.heap.size Post)
    (hK : ∀ w1, Below w.heap.size w w1 → Calls Tryd.prog K (first ++ cap) w1 fun e w' => ∃ a : Int, e = .panicked [{ v := faultV a c, recovered := false }] ∧ Keeps B w1 w' ∧ Post w') :
    Calls Tryd.prog 101 #[.func (.func K) first cap] w fun e w' => ∃ a : Int, e = .returned (.tuple #[.agg #[.int .i64 a, .int .i64 c], .bool true]) ∧ Keeps B w w' ∧ Post w' := by
  have HK := Lib.hid hK; clear hK
  have HS := Lib.hid hst; clear hst
  have HE := Lib.hid hcf; clear hcf
  go_enter Tryd.func101, Tryd.ntmps101
  go_wp2_with fail
  refine (catch_throwsE K first cap c B Post _ HE.out (by simp; omega) (HS.out.mono (by simp)) fun w1 h1 => HK.out w1 ((below_box _ _).trans (h1.mono (by simp)))).mono ?_
  rintro e w2 ⟨a, rfl, hk, hp⟩
  have hz := hk.size
  simp at hz
  have hz2 : w.heap.size < w2.heap.size := by omega
  have c0 : w2.cell? ⟨w.heap.size, 0, none⟩ = some (.int .i64 0) := by rw [hk.cell hB (by simp)]; simp [go_sem]
  have c1 : w2.cell? ⟨w.heap.size, 1, none⟩ = some (.int .i64 0) := by rw [hk.cell hB (by simp)]; simp [go_sem]
  have f0 : w2.frozen? ⟨w.heap.size, 0, none⟩ = false := by rw [hk.frozen hB (by simp)]; simp [go_sem]
  have f1 : w2.frozen? ⟨w.heap.size, 1, none⟩ = false := by rw [hk.frozen hB (by simp)]; simp [go_sem]
  have HP := Lib.hid (HS.out _ _ (((Below.refl w.heap.size w2).setCell (Nat.le_refl _) (.int .i64 a) (p := ⟨w.heap.size, 0, none⟩)).setCell (Nat.le_refl _) (.int .i64 c) (p := ⟨w.heap.size, 1, none⟩)) hp)
  have HK2 := Lib.hid (((((Keeps.refl B w).alloc (.cells #[.int .i64 0, .int .i64 0] 59)).trans hk).setCell (Nat.le_refl _) (.int .i64 a) (p := ⟨w.heap.size, 0, none⟩)).setCell (Nat.le_refl _) (.int .i64 c) (p := ⟨w.heap.size, 1, none⟩))
  clear hp hk hz
  go_wp2_with fail
  refine bodyPost_ret (v := .tuple #[.agg #[.int .i64 a, .int .i64 c], .bool true]) ?_ rfl ⟨a, rfl, HK2.out, HP.out⟩
  simp [results, Tryd.results101, go_sem, c0, c1, hz2]

/-- What the function that reads may come to. -/
def ReadsP (R : Ending → World → Prop) : Prop := ∀ e w', R e w' → e = .returned (.tuple #[]) ∨ ∃ v, e = .panicked v

theorem form1_any (K : FuncId) (cap : Array Value) (s : ByteArray) (bf bs : Nat) (R : Ending → World → Prop) (w : World) (hcf : Enters K) (hR : ReadsP R)
    (c0 : w.cell? ⟨bf, 0, none⟩ = some (.func (.func K) #[] cap)) (c1 : w.cell? ⟨bs, 0, none⟩ = some (.string s))
    (hK : ∀ g w1, Below w.heap.size w w1 → w.heap.size ≤ g → Ahead g s s.data.toList w1 → Calls Tryd.prog K (#[rdV g] ++ cap) w1 R) :
    Calls Tryd.prog 102 #[.pointer (some ⟨bf, 0, none⟩), .pointer (some ⟨bs, 0, none⟩)] w R := by
  have HK := Lib.hid hK; clear hK
  have HR := Lib.hid hR; clear hR
  unfold Enters at hcf
  have hf : bf < w.heap.size := lt_of_cell c0
  have hs : bs < w.heap.size := lt_of_cell c1
  go_enter Tryd.func102, Tryd.ntmps102
  refine wp_region_N 4 (fun w' => w'.cell? ⟨bf, 0, none⟩ = some (.func (.func K) #[] cap) ∧ w'.cell? ⟨bs, 0, none⟩ = some (.string s)) (by kernel_rfl) (by kernel_rfl) ⟨c0, c1⟩ ?_
  (refine NJ.take (i := 0) (v := ?_) rfl rfl (by kernel_rfl) (by kernel_rfl) (by kernel_rfl) (by kernel_rfl) (fun _ _ _ h => h) (Or.inl ⟨by rfl, ?_⟩) ?_; rotate_left; (focus (intro wS hSw; (try dsimp only at hSw); go_simp; first | done | with_reducible rfl)); (try simp only [Act.put, List.getElem_toArray, List.getElem_cons_zero, List.getElem_cons_succ, List.setIfInBounds_toArray, List.set_cons_zero, List.set_cons_succ]))
  (refine NJ.take (i := 1) (v := ?_) rfl rfl (by kernel_rfl) (by kernel_rfl) (by kernel_rfl) (by kernel_rfl) (fun _ _ _ h => h) (Or.inl ⟨by rfl, ?_⟩) ?_; rotate_left; (focus (intro wS hSw; (try dsimp only at hSw); go_simp; first | done | with_reducible rfl)); (try simp only [Act.put, List.getElem_toArray, List.getElem_cons_zero, List.getElem_cons_succ, List.setIfInBounds_toArray, List.set_cons_zero, List.set_cons_succ]))
  refine NJ.step (i := 2) rfl rfl (by kernel_rfl) (fun hSat K' hK => ?_)
  go_simp
  refine Calls.mono (New_any s w.drew) ?_
  rintro e w2 ⟨rfl, rfl⟩
  have HB := Lib.hid (below_box w.drew (.cells #[.string s, .int .i64 0] 71))
  have HC : Hid (Ahead w.heap.size s s.data.toList ((w.alloc (.cells #[.string s, .int .i64 0] 71)).drew)) := Lib.hid ⟨0, Nat.zero_le _, rfl, Cur.new w.drew s⟩
  have HBW : Hid (Below w.heap.size w ((w.alloc (.cells #[.string s, .int .i64 0] 71)).drew)) := Lib.hid (((Below.refl _ w).drew).alloc (Nat.le_refl _) _)
  have HK2 := Lib.hid (HK.out w.heap.size _ HBW.out (Nat.le_refl _) HC.out)
  unfold rdV at HK2
  go_wp2_with fail
  refine hK.out _ _ ⟨(cell_below HB.out hf).trans hSat.1, (cell_below HB.out hs).trans hSat.2⟩ ?_
  clear hK hSat K'
  (try simp only [Act.put, List.getElem_toArray, List.getElem_cons_zero, List.getElem_cons_succ, List.setIfInBounds_toArray, List.set_cons_zero, List.set_cons_succ])
  generalize (w.alloc (.cells #[.string s, .int .i64 0] 71)).drew = w2 at *
  (refine NJ.take (i := 3) (v := ?_) rfl rfl (by kernel_rfl) (by kernel_rfl) (by kernel_rfl) (by kernel_rfl) (fun _ _ _ h => h) (Or.inl ⟨by rfl, ?_⟩) ?_; rotate_left; (focus (intro wS hSw; (try dsimp only at hSw); go_simp; first | done | with_reducible rfl)); (try simp only [Act.put, List.getElem_toArray, List.getElem_cons_zero, List.getElem_cons_succ, List.setIfInBounds_toArray, List.set_cons_zero, List.set_cons_succ]))
  refine NJ.last rfl (by kernel_rfl) (by kernel_rfl) (fun hSat K' hK => ?_)
  go_simp
  refine HK2.out.mono ?_
  rintro e w3 hr
  rcases HR.out _ _ hr with rfl | ⟨v, rfl⟩
  · go_wp2_with fail
    refine hK.out _ _ ?_
    clear hK hSat K'
    (try simp only [Act.put, List.getElem_toArray, List.getElem_cons_zero, List.getElem_cons_succ, List.setIfInBounds_toArray, List.set_cons_zero, List.set_cons_succ])
    go_wp2_with fail
    go_end0
    exact hr
  · exact ⟨rfl, hr⟩

theorem entersForm1 : Enters 102 := fun args w => MuLone.run_callFunc_enter Tryd.func102 (by kernel_rfl) rfl args w

/-- What holds of blocks of its own may be said behind a call. -/
def Goes (K : FuncId) (cap : Array Value) (s : ByteArray) (Post : World → Prop) (w : World) (e0 : Ending → Prop) : Prop :=
  ∀ g w1, Below w.heap.size w w1 → w.heap.size ≤ g → Ahead g s s.data.toList w1 → Calls Tryd.prog K (#[rdV g] ++ cap) w1 fun e w' => e0 e ∧ Only (fun i => i = g ∨ i < w.heap.size) w1 w' ∧ Post w'

theorem keeps_form {w w1 W w' : World} {g : Nat} (h : Only (fun i => i = g ∨ i < w.heap.size) W w') (hg : w1.heap.size ≤ g) (hb : Below w1.heap.size w1 W) (hw : w.heap.size ≤ w1.heap.size) : Keeps w.heap.size w1 w' :=
  ⟨Nat.le_trans hb.size h.size, fun i h1 h2 => (h.block i (Nat.lt_of_lt_of_le h2 hb.size) (by omega)).trans (hb.block i h2)⟩

/-- The world in which form catches. -/
def formW (w : World) (s : ByteArray) (K : FuncId) (cap : Array Value) : World := (w.alloc (.cells #[.string s] 9)).alloc (.cells #[.func (.func K) #[] cap] 89)

theorem form_step {K : FuncId} {cap : Array Value} {s : ByteArray} {Post : World → Prop} {w : World} {e0 : Ending → Prop} (hcf : Enters K) (he0 : ∀ e, e0 e → e = .returned (.tuple #[]) ∨ ∃ v, e = .panicked v) (hK : Goes K cap s Post w e0) :
    ∀ w1, Below (formW w s K cap).heap.size (formW w s K cap) w1 → Calls Tryd.prog 102 (#[] ++ #[.pointer (some ⟨w.heap.size + 1, 0, none⟩), .pointer (some ⟨w.heap.size, 0, none⟩)]) w1 fun e w' => e0 e ∧ Keeps w.heap.size w1 w' ∧ Post w' := by
  intro w1 hb
  have hz : (formW w s K cap).heap.size = w.heap.size + 2 := by simp [formW]
  have hwf : Below w.heap.size w (formW w s K cap) := (below_box w _).alloc (by simp) _
  have hw1 : Below w.heap.size w w1 := hwf.trans (hb.mono (by omega))
  have hsz := hb.size
  rw [Array.empty_append]
  refine form1_any K cap s (w.heap.size + 1) w.heap.size _ w1 hcf (fun e w' h => he0 e h.1) ?_ ?_ ?_
  · rw [cell_below hb (by omega)]
    simp [formW, go_sem]
  · rw [cell_below hb (by omega)]
    simp [formW, go_sem]
  · intro g w2 hb2 hg hA
    refine (hK g w2 (hw1.trans (hb2.mono hw1.size)) (by omega) hA).mono ?_
    rintro e w3 ⟨h1, h2, h3⟩
    exact ⟨h1, keeps_form h2 hg hb2 hw1.size, h3⟩

set_option maxRecDepth 20000 in
theorem form_gives (K : FuncId) (cap : Array Value) (s : ByteArray) (Post : World → Prop) (w : World) (hcf : Enters K) (hst : Stays w.heap.size Post)
    (hK : Goes K cap s Post w (fun e => e = .returned (.tuple #[]))) :
    Calls Tryd.prog 75 #[.string s, .func (.func K) #[] cap] w fun e w' => e = .returned (.int .i64 0) ∧ Post w' := by
  have HC := Lib.hid (Catch_gives 102 #[] #[.pointer (some ⟨w.heap.size + 1, 0, none⟩), .pointer (some ⟨w.heap.size, 0, none⟩)] w.heap.size Post (formW w s K cap) entersForm1 (by simp [formW]; omega) (hst.mono (by simp [formW]; omega)) (fun w1 hb => form_step hcf (fun e h => .inl h) hK w1 hb))
  have HS := Lib.hid hst
  clear hst hK hcf
  unfold formW at HC
  have hmf : ∀ (fn : Fn) (first cap : Array Value) (w : World), (Instr.makeFunc fn first cap).run Tryd.prog w = .ok (.func fn first cap) w := fun _ _ _ _ => rfl
  go_enter Tryd.func75, Tryd.ntmps75
  go_wp2_with fail
  refine HC.out.mono ?_
  rintro e w2 ⟨rfl, hk, hp⟩
  have hz := hk.size
  simp at hz
  have HP := Lib.hid (HS.out _ _ ((Below.refl w.heap.size w2).alloc (by omega) (.cells #[.int .i64 0, .int .i64 0] 59)) hp)
  clear hp hk HC HS
  go_wp2_with fail
  go_ret
  exact ⟨rfl, HP.out⟩

set_option maxRecDepth 20000 in
theorem form_throws (K : FuncId) (cap : Array Value) (s : ByteArray) (Post : World → Prop) (w : World) (hcf : Enters K) (hst : Stays w.heap.size Post)
    (hK : Goes K cap s Post w (fun e => ∃ a : Int, e = .panicked [{ v := faultV a 2, recovered := false }])) :
    Calls Tryd.prog 75 #[.string s, .func (.func K) #[] cap] w fun e w' => e = .returned (.int .i64 2) ∧ Post w' := by
  have HC := Lib.hid (Catch_throwsE 102 #[] #[.pointer (some ⟨w.heap.size + 1, 0, none⟩), .pointer (some ⟨w.heap.size, 0, none⟩)] 2 w.heap.size Post (formW w s K cap) entersForm1 (by simp [formW]; omega) (hst.mono (by simp [formW]; omega)) (fun w1 hb => (form_step hcf (fun e h => .inr (by obtain ⟨a, ha⟩ := h; exact ⟨_, ha⟩)) hK w1 hb).mono fun e w' h => by obtain ⟨⟨a, ha⟩, h2, h3⟩ := h; exact ⟨a, ha, h2, h3⟩))
  have HS := Lib.hid hst
  clear hst hK hcf
  unfold formW at HC
  have hmf : ∀ (fn : Fn) (first cap : Array Value) (w : World), (Instr.makeFunc fn first cap).run Tryd.prog w = .ok (.func fn first cap) w := fun _ _ _ _ => rfl
  go_enter Tryd.func75, Tryd.ntmps75
  go_wp2_with fail
  refine HC.out.mono ?_
  rintro e w2 ⟨a, rfl, hk, hp⟩
  have hz := hk.size
  simp at hz
  have HP := Lib.hid (HS.out _ _ ((Below.refl w.heap.size w2).alloc (by omega) (.cells #[.int .i64 a, .int .i64 2] 59)) hp)
  clear hp hk HC HS
  go_wp2_with fail
  go_ret
  exact ⟨rfl, HP.out⟩

end Go.Proofs.YtjlemghmpnkncaaDoor
