/-
  Walks of package trap: Value at string.
-/
import Derived.Test.YtigclegknofhmaaTrapB
namespace Go.Proofs.Ytigclegknofhmaa
open Go.RowKit
set_option linter.unusedSimpArgs false
set_option linter.unusedVariables false

/-- The closure of Value: what the function gives is laid into the cell. -/
theorem valueStr1_gives (K : FuncId) (first cap : Array Value) (v x : ByteArray) (gf gv B : Nat) (Post : World → Prop) (w : World) (hcf : Enters K) (hB : B ≤ gf) (hB2 : B ≤ gv) (hv : gv < w.heap.size)
    (c0 : w.cell? ⟨gf, 0, none⟩ = some (.func (.func K) first cap)) (c1 : w.cell? ⟨gv, 0, none⟩ = some (.string x)) (f1 : w.frozen? ⟨gv, 0, none⟩ = false)
    (hK : Gives K (first ++ cap) (.string v) B Post w) :
    Calls Try.prog 39 #[.pointer (some ⟨gf, 0, none⟩), .pointer (some ⟨gv, 0, none⟩)] w fun e w' => e = .returned (.tuple #[]) ∧ ∃ w1, Keeps B w w1 ∧ Post w1 ∧ w' = w1.setCell ⟨gv, 0, none⟩ (.string v) := by
  have HK := Lib.hid hK; clear hK
  unfold Enters at hcf
  go_enter Try.func39, Try.ntmps39
  go_wp2_with fail
  refine HK.out.mono ?_
  rintro e w1 ⟨rfl, hk, hp⟩
  have d1 : w1.cell? ⟨gv, 0, none⟩ = some (.string x) := by rw [hk.cell hB2 hv]; exact c1
  have g1 : w1.frozen? ⟨gv, 0, none⟩ = false := by rw [hk.frozen hB2 hv]; exact f1
  have HP := Lib.hid hp; clear hp
  have HK2 := Lib.hid hk; clear hk
  go_wp2_with fail
  go_end0
  exact ⟨rfl, _, HK2.out, HP.out, rfl⟩

theorem valueStr1_throws (K : FuncId) (first cap : Array Value) (a c : Int) (gf gv B : Nat) (Post : World → Prop) (w : World) (hcf : Enters K)
    (c0 : w.cell? ⟨gf, 0, none⟩ = some (.func (.func K) first cap)) (hK : Throws K (first ++ cap) a c B Post w) :
    Throws 39 #[.pointer (some ⟨gf, 0, none⟩), .pointer (some ⟨gv, 0, none⟩)] a c B Post w := by
  have HK := Lib.hid hK; clear hK
  unfold Enters at hcf
  unfold Throws
  go_enter Try.func39, Try.ntmps39
  go_wp2_with fail
  refine HK.out.mono ?_
  rintro e w1 ⟨rfl, hk, hp⟩
  exact ⟨rfl, rfl, hk, hp⟩

/-- What the closure of Value does, as the catching wants it. -/
theorem valueStr1_caught (K : FuncId) (first cap : Array Value) (v : ByteArray) (B : Nat) (Post : World → Prop) (w W3 w1 : World) (hcf : Enters K) (hB : B ≤ w.heap.size) (hst : Stays w.heap.size Post)
    (hW : W3 = ((w.alloc (.cells #[.func (.func K) first cap] 32)).alloc (.cells #[.int .i64 0, .int .i64 0] 29)).alloc (.cells #[.string ByteArray.empty] 9))
    (hb : Below (w.heap.size + 3) W3 w1) (hK : ∀ w1, Below w.heap.size w w1 → Gives K (first ++ cap) (.string v) B Post w1) :
    Gives 39 #[.pointer (some ⟨w.heap.size, 0, none⟩), .pointer (some ⟨w.heap.size + 2, 0, none⟩)] (.tuple #[]) (w.heap.size + 3)
      (fun w' => Post w' ∧ Upto B (w.heap.size + 2) W3 w' ∧ Holds1 (w.heap.size + 2) (.string v) w') w1 := by
  have hs : W3.heap.size = w.heap.size + 3 := by rw [hW]; simp
  have hz : w.heap.size + 3 ≤ w1.heap.size := by have := hb.size; omega
  have hb0 : Below w.heap.size w w1 := by
    refine Below.trans (b := W3) ?_ (hb.mono (by omega))
    rw [hW]
    exact ((below_box _ _).alloc (by simp) _).alloc (by simp; omega) _
  have hc : ∀ b o, b < w.heap.size + 3 → w1.cell? ⟨b, o, none⟩ = W3.cell? ⟨b, o, none⟩ := fun b o h => hb.cell (p := ⟨b, o, none⟩) h
  have hf : ∀ b o, b < w.heap.size + 3 → w1.frozen? ⟨b, o, none⟩ = W3.frozen? ⟨b, o, none⟩ := fun b o h => hb.frozen (p := ⟨b, o, none⟩) h
  have c2 : w1.cell? ⟨w.heap.size + 2, 0, none⟩ = some (.string ByteArray.empty) := by rw [hc _ _ (by omega), hW]; simp [go_sem]
  have f2 : w1.frozen? ⟨w.heap.size + 2, 0, none⟩ = false := by rw [hf _ _ (by omega), hW]; simp [go_sem]
  refine (valueStr1_gives K first cap v _ w.heap.size (w.heap.size + 2) B Post w1 hcf hB (by omega) (by omega) ?_ c2 f2 (hK w1 hb0)).mono ?_
  · rw [hc _ _ (by omega), hW]; simp [go_sem]
  rintro e w' ⟨rfl, w2, hk, hp, rfl⟩
  have d2 : w2.cell? ⟨w.heap.size + 2, 0, none⟩ = some (.string ByteArray.empty) := by rw [hk.cell (by omega) (by omega)]; exact c2
  have g2 : w2.frozen? ⟨w.heap.size + 2, 0, none⟩ = false := by rw [hk.frozen (by omega) (by omega)]; exact f2
  refine ⟨rfl, ⟨?_, ?_⟩, ?_, ⟨?_, ?_⟩, ?_, ?_⟩
  · have := hk.size; simpa [World.setCell] using this
  · intro b h1 h2
    rw [Below.heap_setCell _ _ _ _ (by simp; omega)]
    exact hk.block b (by omega) h2
  · exact hst w2 _ ((Below.refl _ _).setCell (by simp) _) hp
  · have := hk.size; have h2 : W3.heap.size ≤ w2.heap.size := by omega
    simpa [World.setCell] using h2
  · intro b h1 h2
    rw [Below.heap_setCell _ _ _ _ (by simp; omega), hk.block b h1 (by omega), hb.block b (by omega)]
  · rw [World.cell?_setCell_same (h := d2)]
  · rw [World.frozen?_setCell]; exact g2

set_option maxRecDepth 20000 in
theorem valueStr_gives (K : FuncId) (first cap : Array Value) (v : ByteArray) (B : Nat) (Post : World → Prop) (w : World) (hcf : Enters K) (hcf2 : Enters 39) (hB : B ≤ w.heap.size) (hst : Stays w.heap.size Post)
    (hK : ∀ w1, Below w.heap.size w w1 → Gives K (first ++ cap) (.string v) B Post w1) :
    Calls Try.prog 11 #[.func (.func K) first cap] w fun e w' => e = .returned (.tuple #[.string v, .agg #[.int .i64 0, .int .i64 0]]) ∧ Keeps B w w' ∧ Post w' := by
  have HK := Lib.hid hK; clear hK
  have HS := Lib.hid hst
  have HE := Lib.hid hcf; clear hcf
  have HE2 := Lib.hid hcf2; clear hcf2
  have HST := Lib.hid ((hst.mono (Nat.le_add_right _ 3)).and ((Upto.stays (B := B) (T := w.heap.size + 2) (w3 := ((w.alloc (.cells #[.func (.func K) first cap] 32)).alloc (.cells #[.int .i64 0, .int .i64 0] 29)).alloc (.cells #[.string ByteArray.empty] 9)) (w.heap.size + 3) (by omega)).and (Holds1.stays (g := w.heap.size + 2) (v := .string v) (S := w.heap.size + 3) (by omega))))
  clear hst
  have hnn := fun (w : World) => run_eql_func_nil (P := Try.prog) w Try.underlying32 (.func K) first cap
  have hmf : ∀ (fn : Fn) (first cap : Array Value) (w : World), (Instr.makeFunc fn first cap).run Try.prog w = .ok (.func fn first cap) w := fun _ _ _ _ => rfl
  go_enter Try.func11, Try.ntmps11
  go_wp2_with fail
  refine (catch_gives 39 #[] _ (w.heap.size + 3) _ _ HE2.out (by simp) (by rw [heap3]; exact HST.out) ?_).mono ?_
  · intro w1 h1
    rw [heap3] at h1
    exact valueStr1_caught K first cap v B Post w _ w1 HE.out hB HS.out rfl h1 HK.out
  rintro e w4 ⟨rfl, hk, hp, hu, h1, h2⟩
  have hz := hu.1
  simp at hz
  have hz0 : w.heap.size + 2 < w4.heap.size := by omega
  have hz1 : w.heap.size + 1 < w4.heap.size := by omega
  have c0 : w4.cell? ⟨w.heap.size + 1, 0, none⟩ = some (.int .i64 0) := by rw [hu.cell (by omega) (by omega)]; simp [go_sem]
  have c1 : w4.cell? ⟨w.heap.size + 1, 1, none⟩ = some (.int .i64 0) := by rw [hu.cell (by omega) (by omega)]; simp [go_sem]
  have f0 : w4.frozen? ⟨w.heap.size + 1, 0, none⟩ = false := by rw [hu.frozen (by omega) (by omega)]; simp [go_sem]
  have f1 : w4.frozen? ⟨w.heap.size + 1, 1, none⟩ = false := by rw [hu.frozen (by omega) (by omega)]; simp [go_sem]
  have HP := Lib.hid hp
  have HU := Lib.hid hu
  clear hp hu hk hz
  go_wp2_with fail
  refine bodyPost_ret (v := .tuple #[.string v, .agg #[.int .i64 0, .int .i64 0]]) ?_ rfl ⟨rfl, ?_, ?_⟩
  · simp [results, Try.results11, go_sem, c0, c1, hz0, hz1]
  · exact (((HU.out.keeps (((below_box _ _).alloc (by simp) _).alloc (by simp; omega) _) (by omega)).setCell (by simp) _).setCell (by simp) _).alloc _
  · exact HS.out w4 _ ((((Below.refl _ _).setCell (by simp) _).setCell (by simp) _).alloc (by simp; omega) _) HP.out

/-- The closure of Value where the function throws. -/
theorem valueStr1_fails (K : FuncId) (first cap : Array Value) (a c : Int) (B : Nat) (Post : World → Prop) (w W3 w1 : World) (hcf : Enters K) (hB : B ≤ w.heap.size)
    (hW : W3 = ((w.alloc (.cells #[.func (.func K) first cap] 32)).alloc (.cells #[.int .i64 0, .int .i64 0] 29)).alloc (.cells #[.string ByteArray.empty] 9))
    (hb : Below (w.heap.size + 3) W3 w1) (hK : ∀ w1, Below w.heap.size w w1 → Throws K (first ++ cap) a c B Post w1) :
    Throws 39 #[.pointer (some ⟨w.heap.size, 0, none⟩), .pointer (some ⟨w.heap.size + 2, 0, none⟩)] a c (w.heap.size + 3)
      (fun w' => Post w' ∧ Upto B (w.heap.size + 2) W3 w') w1 := by
  have hs : W3.heap.size = w.heap.size + 3 := by rw [hW]; simp
  have hz : w.heap.size + 3 ≤ w1.heap.size := by have := hb.size; omega
  have hb0 : Below w.heap.size w w1 := by
    refine Below.trans (b := W3) ?_ (hb.mono (by omega))
    rw [hW]
    exact ((below_box _ _).alloc (by simp) _).alloc (by simp; omega) _
  have hc : ∀ b o, b < w.heap.size + 3 → w1.cell? ⟨b, o, none⟩ = W3.cell? ⟨b, o, none⟩ := fun b o h => hb.cell (p := ⟨b, o, none⟩) h
  refine Calls.mono (valueStr1_throws K first cap a c w.heap.size (w.heap.size + 2) B Post w1 hcf ?_ (hK w1 hb0)) ?_
  · rw [hc _ _ (by omega), hW]; simp [go_sem]
  rintro e w' ⟨rfl, hk, hp⟩
  refine ⟨rfl, hk.mono (by omega), hp, ?_, ?_⟩
  · have := hk.size; omega
  · intro b h1 h2
    rw [hk.block b h1 (by omega), hb.block b (by omega)]

set_option maxRecDepth 20000 in
theorem valueStr_throws (K : FuncId) (first cap : Array Value) (a c : Int) (B : Nat) (Post : World → Prop) (w : World) (hcf : Enters K) (hcf2 : Enters 39) (hB : B ≤ w.heap.size) (hst : Stays w.heap.size Post)
    (hK : ∀ w1, Below w.heap.size w w1 → Throws K (first ++ cap) a c B Post w1) :
    Calls Try.prog 11 #[.func (.func K) first cap] w fun e w' => e = .returned (.tuple #[.string ⟨#[]⟩, .agg #[.int .i64 a, .int .i64 c]]) ∧ Keeps B w w' ∧ Post w' := by
  have HK := Lib.hid hK; clear hK
  have HS := Lib.hid hst
  have HE := Lib.hid hcf; clear hcf
  have HE2 := Lib.hid hcf2; clear hcf2
  have HST := Lib.hid ((hst.mono (Nat.le_add_right _ 3)).and (Upto.stays (B := B) (T := w.heap.size + 2) (w3 := ((w.alloc (.cells #[.func (.func K) first cap] 32)).alloc (.cells #[.int .i64 0, .int .i64 0] 29)).alloc (.cells #[.string ByteArray.empty] 9)) (w.heap.size + 3) (by omega)))
  clear hst
  have hnn := fun (w : World) => run_eql_func_nil (P := Try.prog) w Try.underlying32 (.func K) first cap
  have hmf : ∀ (fn : Fn) (first cap : Array Value) (w : World), (Instr.makeFunc fn first cap).run Try.prog w = .ok (.func fn first cap) w := fun _ _ _ _ => rfl
  go_enter Try.func11, Try.ntmps11
  go_wp2_with fail
  refine (catch_throws 39 #[] _ a c (w.heap.size + 3) _ _ HE2.out (by simp) (by rw [heap3]; exact HST.out) ?_).mono ?_
  · intro w1 h1
    rw [heap3] at h1
    exact valueStr1_fails K first cap a c B Post w _ w1 HE.out hB rfl h1 HK.out
  rintro e w4 ⟨rfl, hk, hp, hu⟩
  have hz := hu.1
  simp at hz
  have hz0 : w.heap.size + 2 < w4.heap.size := by omega
  have hz1 : w.heap.size + 1 < w4.heap.size := by omega
  have c0 : w4.cell? ⟨w.heap.size + 1, 0, none⟩ = some (.int .i64 0) := by rw [hu.cell (by omega) (by omega)]; simp [go_sem]
  have c1 : w4.cell? ⟨w.heap.size + 1, 1, none⟩ = some (.int .i64 0) := by rw [hu.cell (by omega) (by omega)]; simp [go_sem]
  have f0 : w4.frozen? ⟨w.heap.size + 1, 0, none⟩ = false := by rw [hu.frozen (by omega) (by omega)]; simp [go_sem]
  have f1 : w4.frozen? ⟨w.heap.size + 1, 1, none⟩ = false := by rw [hu.frozen (by omega) (by omega)]; simp [go_sem]
  have HP := Lib.hid hp
  have HU := Lib.hid hu
  clear hp hu hk hz
  go_wp2_with fail
  go_region
  go_wp2_with fail
  refine bodyPost_ret (v := .tuple #[.string ⟨#[]⟩, .agg #[.int .i64 a, .int .i64 c]]) ?_ rfl ⟨rfl, ?_, ?_⟩
  · simp [results, Try.results11, go_sem, c0, c1, hz0, hz1]
  · exact ((((HU.out.keeps (((below_box _ _).alloc (by simp) _).alloc (by simp; omega) _) (by omega)).setCell (by simp) _).setCell (by simp) _).alloc _).drew
  · exact HS.out w4 _ ((((Below.refl _ _).setCell (by simp) _).setCell (by simp) _).alloc (by simp; omega) _).drew HP.out

end Go.Proofs.Ytigclegknofhmaa
