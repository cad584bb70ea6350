/-
  Walks of package trap: Value at a status (a struct of four cells).
-/
import Derived.Test.YtjlemghmpnkncaaDoorTrapB
namespace Go.Proofs.YtjlemghmpnkncaaDoor
open Go.RowKit
set_option linter.unusedSimpArgs false
set_option linter.unusedVariables false

/-- A status as a value. -/
def statV (a b c : Int) (r : ByteArray) : Value := .agg #[.int .i64 a, .int .i64 b, .int .i64 c, .string r]

/-- A status as a block. -/
def statO (a b c : Int) (r : ByteArray) : Obj := .cells #[.int .i64 a, .int .i64 b, .int .i64 c, .string r] 27 (0, 0)

/-- A status laid into a block. -/
def set4 (w : World) (g : Nat) (a b c : Int) (r : ByteArray) : World :=
  (((w.setCell ⟨g, 0, none⟩ (.int .i64 a)).setCell ⟨g, 1, none⟩ (.int .i64 b)).setCell ⟨g, 2, none⟩ (.int .i64 c)).setCell ⟨g, 3, none⟩ (.string r)

theorem heap_set4 {w : World} {g : Nat} {x y z : Int} {u : ByteArray} (h : w.heap[g]? = some (statO x y z u)) (a b c : Int) (r : ByteArray) : (set4 w g a b c r).heap[g]? = some (statO a b c r) := by
  unfold set4 statO
  unfold statO at h
  simp [World.setCell, Array.getElem?_modify, h]

theorem stat_cells {w : World} {g : Nat} {x y z : Int} {u : ByteArray} (h : w.heap[g]? = some (statO x y z u)) :
    w.cell? ⟨g, 0, none⟩ = some (.int .i64 x) ∧ w.cell? ⟨g, 1, none⟩ = some (.int .i64 y) ∧ w.cell? ⟨g, 2, none⟩ = some (.int .i64 z) ∧ w.cell? ⟨g, 3, none⟩ = some (.string u) ∧ ∀ i, w.frozen? ⟨g, i, none⟩ = false := by
  unfold statO at h
  refine ⟨?_, ?_, ?_, ?_, ?_⟩ <;> simp [World.cell?, World.frozen?, h]

theorem set4_below {B : Nat} {a w : World} {g : Nat} (h : Below B a w) (hg : B ≤ g) (x y z : Int) (u : ByteArray) : Below B a (set4 w g x y z u) :=
  (((h.setCell (by simpa using hg) _).setCell (by simpa using hg) _).setCell (by simpa using hg) _).setCell (by simpa using hg) _

theorem set4_size (w : World) (g : Nat) (x y z : Int) (u : ByteArray) : (set4 w g x y z u).heap.size = w.heap.size := by simp [set4, World.setCell]

theorem set4_other (w : World) (g k : Nat) (x y z : Int) (u : ByteArray) (h : k ≠ g) : (set4 w g x y z u).heap[k]? = w.heap[k]? := by
  unfold set4
  rw [Below.heap_setCell _ _ _ _ (by simpa using h), Below.heap_setCell _ _ _ _ (by simpa using h), Below.heap_setCell _ _ _ _ (by simpa using h), Below.heap_setCell _ _ _ _ (by simpa using h)]

theorem set4_keeps {B : Nat} {a w : World} {g : Nat} (h : Keeps B a w) (hg : a.heap.size ≤ g) (x y z : Int) (u : ByteArray) : Keeps B a (set4 w g x y z u) :=
  (((h.setCell (by simpa using hg) _).setCell (by simpa using hg) _).setCell (by simpa using hg) _).setCell (by simpa using hg) _

/-- Block g is a status. -/
def HoldsS (g : Nat) (a b c : Int) (r : ByteArray) (w : World) : Prop := w.heap[g]? = some (statO a b c r)

theorem HoldsS.stays {g S : Nat} {a b c : Int} {r : ByteArray} (h : g < S) : Stays S (HoldsS g a b c r) := fun w1 w2 hb hp => (hb.block g h).trans hp

/-- The closure of Value: what the function gives is laid into the cells. -/
theorem valueS1_gives (K : FuncId) (first cap : Array Value) (a b c : Int) (r : ByteArray) (x y z : Int) (u : ByteArray) (gf gv B : Nat) (Post : World → Prop) (w : World) (hcf : Enters K) (hB : B ≤ gf) (hB2 : B ≤ gv)
    (c0 : w.cell? ⟨gf, 0, none⟩ = some (.func (.func K) first cap)) (hv : w.heap[gv]? = some (statO x y z u))
    (hK : Gives K (first ++ cap) (statV a b c r) B Post w) :
    Calls Tryd.prog 65 #[.pointer (some ⟨gf, 0, none⟩), .pointer (some ⟨gv, 0, none⟩)] w fun e w' => e = .returned (.tuple #[]) ∧ ∃ w1, Keeps B w w1 ∧ Post w1 ∧ w' = set4 w1 gv a b c r := by
  have HK := Lib.hid hK; clear hK
  have HV := Lib.hid hv
  have hlt : gv < w.heap.size := (Array.getElem?_eq_some_iff.1 hv).1
  clear hv
  unfold Enters at hcf
  unfold statV at HK
  unfold set4
  go_enter Tryd.func65, Tryd.ntmps65
  go_wp2_with fail
  refine HK.out.mono ?_
  rintro e w1 ⟨rfl, hk, hp⟩
  obtain ⟨d0, d1, d2, d3, df⟩ := stat_cells ((hk.block gv hB2 hlt).trans HV.out)
  have HP := Lib.hid hp; clear hp
  have HK2 := Lib.hid hk; clear hk
  go_wp2_with fail
  go_end0
  exact ⟨rfl, _, HK2.out, HP.out, rfl⟩

theorem valueS1_throws (K : FuncId) (first cap : Array Value) (a c : Int) (gf gv B : Nat) (Post : World → Prop) (w : World) (hcf : Enters K)
    (c0 : w.cell? ⟨gf, 0, none⟩ = some (.func (.func K) first cap)) (hK : Throws K (first ++ cap) a c B Post w) :
    Throws 65 #[.pointer (some ⟨gf, 0, none⟩), .pointer (some ⟨gv, 0, none⟩)] a c B Post w := by
  have HK := Lib.hid hK; clear hK
  unfold Enters at hcf
  unfold Throws
  go_enter Tryd.func65, Tryd.ntmps65
  go_wp2_with fail
  refine HK.out.mono ?_
  rintro e w1 ⟨rfl, hk, hp⟩
  exact ⟨rfl, rfl, hk, hp⟩

/-- The five blocks of Value. -/
def five (w : World) (K : FuncId) (first cap : Array Value) : World :=
  ((((w.alloc (.cells #[.func (.func K) first cap] 63)).alloc (.cells #[.int .i64 0, .int .i64 0, .int .i64 0, .string ⟨#[]⟩] 27)).alloc (.cells #[.int .i64 0, .int .i64 0] 59)).alloc (.cells #[.int .i64 0, .int .i64 0, .int .i64 0, .string ⟨#[]⟩] 27)).alloc (.cells #[.int .i64 0, .int .i64 0, .int .i64 0, .string ⟨#[]⟩] 27)

theorem five_size (w : World) (K : FuncId) (first cap : Array Value) : (five w K first cap).heap.size = w.heap.size + 5 := by simp [five]

theorem five_below (w : World) (K : FuncId) (first cap : Array Value) : Below w.heap.size w (five w K first cap) :=
  ((((below_box _ _).alloc (by simp) _).alloc (by simp; omega) _).alloc (by simp; omega) _).alloc (by simp; omega) _

set_option maxRecDepth 20000 in
theorem five_at (w : World) (K : FuncId) (first cap : Array Value) :
    (five w K first cap).cell? ⟨w.heap.size, 0, none⟩ = some (.func (.func K) first cap) ∧ (five w K first cap).heap[w.heap.size + 1]? = some (statO 0 0 0 ⟨#[]⟩) ∧ (five w K first cap).heap[w.heap.size + 2]? = some (.cells #[.int .i64 0, .int .i64 0] 59 (0, 0)) ∧ (five w K first cap).heap[w.heap.size + 3]? = some (statO 0 0 0 ⟨#[]⟩) ∧ (five w K first cap).heap[w.heap.size + 4]? = some (statO 0 0 0 ⟨#[]⟩) := by
  unfold five statO
  have z : ∀ (w : World) (o : Obj), (w.alloc o).heap.size = w.heap.size + 1 := fun w o => by simp
  have old : ∀ (w : World) (o : Obj) (k : Nat), k < w.heap.size → (w.alloc o).heap[k]? = w.heap[k]? := fun w o k h => Below.heap_alloc w o k h
  have new : ∀ (w : World) (o : Obj) (k : Nat), k = w.heap.size → (w.alloc o).heap[k]? = some o := fun w o k h => by subst h; exact heap_alloc_new w o
  refine ⟨?_, ?_, ?_, ?_, ?_⟩
  · unfold World.cell?
    dsimp only
    rw [old _ _ _ (by simp only [z]; omega), old _ _ _ (by simp only [z]; omega), old _ _ _ (by simp only [z]; omega), old _ _ _ (by simp only [z]; omega), new _ _ _ rfl]
    rfl
  · rw [old _ _ _ (by simp only [z]; omega), old _ _ _ (by simp only [z]; omega), old _ _ _ (by simp only [z]; omega)]
    exact new _ _ _ (by simp only [z])
  · rw [old _ _ _ (by simp only [z]; omega), old _ _ _ (by simp only [z]; omega)]
    exact new _ _ _ (by simp only [z])
  · rw [old _ _ _ (by simp only [z]; omega)]
    exact new _ _ _ (by simp only [z])
  · exact new _ _ _ (by simp only [z])

/-- What the closure of Value does, as the catching wants it. -/
theorem valueS1_caught (K : FuncId) (first cap : Array Value) (a b c : Int) (r : ByteArray) (B : Nat) (Post : World → Prop) (w w1 : World) (hcf : Enters K) (hB : B ≤ w.heap.size) (hst : Stays w.heap.size Post)
    (hb : Below (w.heap.size + 5) (five w K first cap) w1) (hK : ∀ w1, Below w.heap.size w w1 → Gives K (first ++ cap) (statV a b c r) B Post w1) :
    Gives 65 #[.pointer (some ⟨w.heap.size, 0, none⟩), .pointer (some ⟨w.heap.size + 3, 0, none⟩)] (.tuple #[]) (w.heap.size + 5)
      (fun w' => Post w' ∧ Upto B (w.heap.size + 3) (five w K first cap) w' ∧ HoldsS (w.heap.size + 3) a b c r w') w1 := by
  have hs := five_size w K first cap
  obtain ⟨q0, q1, q2, q3, q4⟩ := five_at w K first cap
  have hz : w.heap.size + 5 ≤ w1.heap.size := by have := hb.size; omega
  have hb0 : Below w.heap.size w w1 := (five_below w K first cap).trans (hb.mono (by omega))
  refine (valueS1_gives K first cap a b c r 0 0 0 ⟨#[]⟩ w.heap.size (w.heap.size + 3) B Post w1 hcf hB (by omega) ?_ ((hb.block _ (by omega)).trans q3) (hK w1 hb0)).mono ?_
  · rw [hb.cell (p := ⟨w.heap.size, 0, none⟩) (by simp)]; exact q0
  rintro e w' ⟨rfl, w2, hk, hp, rfl⟩
  have h3 : w2.heap[w.heap.size + 3]? = some (statO 0 0 0 ⟨#[]⟩) := (hk.block _ (by omega) (by omega)).trans ((hb.block _ (by omega)).trans q3)
  refine ⟨rfl, ⟨?_, ?_⟩, ?_, ⟨?_, ?_⟩, ?_⟩
  · rw [set4_size]; exact hk.size
  · intro b h1 h2
    rw [set4_other _ _ _ _ _ _ _ (by omega)]
    exact hk.block b (by omega) h2
  · exact hst w2 _ (set4_below (Below.refl _ _) (by omega) _ _ _ _) hp
  · have := hk.size; rw [set4_size]; omega
  · intro b h1 h2
    rw [set4_other _ _ _ _ _ _ _ (by omega), hk.block b h1 (by omega), hb.block b (by omega)]
  · exact heap_set4 h3 _ _ _ _

/-- The closure of Value where the function throws. -/
theorem valueS1_fails (K : FuncId) (first cap : Array Value) (a c : Int) (B : Nat) (Post : World → Prop) (w w1 : World) (hcf : Enters K) (hB : B ≤ w.heap.size)
    (hb : Below (w.heap.size + 5) (five w K first cap) w1) (hK : ∀ w1, Below w.heap.size w w1 → Throws K (first ++ cap) a c B Post w1) :
    Throws 65 #[.pointer (some ⟨w.heap.size, 0, none⟩), .pointer (some ⟨w.heap.size + 3, 0, none⟩)] a c (w.heap.size + 5)
      (fun w' => Post w' ∧ Upto B (w.heap.size + 5) (five w K first cap) w') w1 := by
  have hs := five_size w K first cap
  obtain ⟨q0, q1, q2, q3, q4⟩ := five_at w K first cap
  have hz : w.heap.size + 5 ≤ w1.heap.size := by have := hb.size; omega
  have hb0 : Below w.heap.size w w1 := (five_below w K first cap).trans (hb.mono (by omega))
  refine Calls.mono (valueS1_throws K first cap a c w.heap.size (w.heap.size + 3) B Post w1 hcf ?_ (hK w1 hb0)) ?_
  · rw [hb.cell (p := ⟨w.heap.size, 0, none⟩) (by simp)]; exact q0
  rintro e w' ⟨rfl, hk, hp⟩
  refine ⟨rfl, hk.mono (by omega), hp, ?_, ?_⟩
  · have := hk.size; omega
  · intro b h1 h2
    rw [hk.block b h1 (by omega), hb.block b (by omega)]

set_option maxRecDepth 20000 in
set_option maxHeartbeats 1000000 in
theorem valueS_gives (K : FuncId) (first cap : Array Value) (a b c : Int) (r : ByteArray) (B : Nat) (Post : World → Prop) (w : World) (hcf : Enters K) (hcf2 : Enters 65) (hB : B ≤ w.heap.size) (hst : Stays w.heap.size Post)
    (hK : ∀ w1, Below w.heap.size w w1 → Gives K (first ++ cap) (statV a b c r) B Post w1) :
    Calls Tryd.prog 42 #[.func (.func K) first cap] w fun e w' => e = .returned (.tuple #[statV a b c r, .agg #[.int .i64 0, .int .i64 0]]) ∧ Keeps B w w' ∧ Post w' := by
  have HK := Lib.hid hK; clear hK
  have HS := Lib.hid hst
  have HE := Lib.hid hcf; clear hcf
  have HE2 := Lib.hid hcf2; clear hcf2
  have HST := Lib.hid ((hst.mono (Nat.le_add_right _ 5)).and ((Upto.stays (B := B) (T := w.heap.size + 3) (w3 := five w K first cap) (w.heap.size + 5) (by omega)).and (HoldsS.stays (g := w.heap.size + 3) (a := a) (b := b) (c := c) (r := r) (S := w.heap.size + 5) (by omega))))
  clear hst
  have hnn := fun (w : World) => run_eql_func_nil (P := Tryd.prog) w Tryd.underlying63 (.func K) first cap
  have hmf : ∀ (fn : Fn) (first cap : Array Value) (w : World), (Instr.makeFunc fn first cap).run Tryd.prog w = .ok (.func fn first cap) w := fun _ _ _ _ => rfl
  go_enter Tryd.func42, Tryd.ntmps42
  go_wp2_with fail
  change Calls Tryd.prog 64 #[.func (.func 65) #[] #[.pointer (some ⟨w.heap.size, 0, none⟩), .pointer (some ⟨w.heap.size + 3, 0, none⟩)]] (five w K first cap) _
  refine (catch_gives 65 #[] _ (w.heap.size + 5) _ _ HE2.out (by rw [five_size]; exact Nat.le_refl _) (by rw [five_size]; exact HST.out) ?_).mono ?_
  · intro w1 h1
    rw [five_size] at h1
    exact valueS1_caught K first cap a b c r B Post w w1 HE.out hB HS.out h1 HK.out
  rintro e w4 ⟨rfl, hk, hp, hu, h1⟩
  obtain ⟨q0, q1, q2, q3, q4⟩ := five_at w K first cap
  have hz := hu.1
  rw [five_size] at hz
  have hz1 : w.heap.size + 1 < w4.heap.size := by omega
  have hz2 : w.heap.size + 1 + 1 < w4.heap.size := by omega
  have hz3 : w.heap.size + 1 + 1 + 1 < w4.heap.size := by omega
  obtain ⟨e0, e1, e2, e3, ef⟩ := stat_cells (g := w.heap.size + 1) ((hu.2 _ (by omega) (by omega)).trans q1)
  obtain ⟨v0, v1, v2, v3, vf⟩ := stat_cells (g := w.heap.size + 1 + 1 + 1) h1
  have hF := (hu.2 (w.heap.size + 2) (by omega) (by omega)).trans q2
  have c0 : w4.cell? ⟨w.heap.size + 1 + 1, 0, none⟩ = some (.int .i64 0) := by simp [World.cell?, hF]
  have c1 : w4.cell? ⟨w.heap.size + 1 + 1, 1, none⟩ = some (.int .i64 0) := by simp [World.cell?, hF]
  have ff : ∀ i, w4.frozen? ⟨w.heap.size + 1 + 1, i, none⟩ = false := fun i => by simp [World.frozen?, hF]
  have HP := Lib.hid hp
  have HU := Lib.hid hu
  clear hp hu hk hz q0 q1 q2 q3 q4 hF h1
  go_wp2_with fail
  refine bodyPost_ret (v := .tuple #[statV a b c r, .agg #[.int .i64 0, .int .i64 0]]) ?_ rfl ⟨rfl, ?_, ?_⟩
  · unfold statV
    simp [results, Tryd.results42, go_sem, e0, e1, e2, e3, c0, c1, hz1, hz2]
  · exact (((set4_keeps (HU.out.keeps (five_below w K first cap) (by omega)) (g := w.heap.size + 1) (by omega) a b c r).setCell (by simp; omega) _).setCell (by simp; omega) _).alloc _
  · exact HS.out w4 _ ((((set4_below (Below.refl _ _) (g := w.heap.size + 1) (by omega) a b c r).setCell (by simp; omega) _).setCell (by simp; omega) _).alloc (by simp [set4_size]; omega) _) HP.out

set_option maxRecDepth 20000 in
set_option maxHeartbeats 1000000 in
theorem valueS_throws (K : FuncId) (first cap : Array Value) (a c : Int) (B : Nat) (Post : World → Prop) (w : World) (hcf : Enters K) (hcf2 : Enters 65) (hB : B ≤ w.heap.size) (hst : Stays w.heap.size Post)
    (hK : ∀ w1, Below w.heap.size w w1 → Throws K (first ++ cap) a c B Post w1) :
    Calls Tryd.prog 42 #[.func (.func K) first cap] w fun e w' => e = .returned (.tuple #[statV 0 0 0 ⟨#[]⟩, .agg #[.int .i64 a, .int .i64 c]]) ∧ Keeps B w w' ∧ Post w' := by
  have HK := Lib.hid hK; clear hK
  have HS := Lib.hid hst
  have HE := Lib.hid hcf; clear hcf
  have HE2 := Lib.hid hcf2; clear hcf2
  have HST := Lib.hid ((hst.mono (Nat.le_add_right _ 5)).and (Upto.stays (B := B) (T := w.heap.size + 5) (w3 := five w K first cap) (w.heap.size + 5) (by omega)))
  clear hst
  have hnn := fun (w : World) => run_eql_func_nil (P := Tryd.prog) w Tryd.underlying63 (.func K) first cap
  have hmf : ∀ (fn : Fn) (first cap : Array Value) (w : World), (Instr.makeFunc fn first cap).run Tryd.prog w = .ok (.func fn first cap) w := fun _ _ _ _ => rfl
  go_enter Tryd.func42, Tryd.ntmps42
  go_wp2_with fail
  change Calls Tryd.prog 64 #[.func (.func 65) #[] #[.pointer (some ⟨w.heap.size, 0, none⟩), .pointer (some ⟨w.heap.size + 3, 0, none⟩)]] (five w K first cap) _
  refine (catch_throws 65 #[] _ a c (w.heap.size + 5) _ _ HE2.out (by rw [five_size]; exact Nat.le_refl _) (by rw [five_size]; exact HST.out) ?_).mono ?_
  · intro w1 h1
    rw [five_size] at h1
    exact valueS1_fails K first cap a c B Post w w1 HE.out hB h1 HK.out
  rintro e w4 ⟨rfl, hk, hp, hu⟩
  obtain ⟨q0, q1, q2, q3, q4⟩ := five_at w K first cap
  have hz := hu.1
  rw [five_size] at hz
  have hz1 : w.heap.size + 1 < w4.heap.size := by omega
  have hz2 : w.heap.size + 1 + 1 < w4.heap.size := by omega
  have hz3 : w.heap.size + 1 + 1 + 1 < w4.heap.size := by omega
  have hz4 : w.heap.size + 1 + 1 + 1 + 1 < w4.heap.size := by omega
  obtain ⟨e0, e1, e2, e3, ef⟩ := stat_cells (g := w.heap.size + 1) ((hu.2 _ (by omega) (by omega)).trans q1)
  obtain ⟨v0, v1, v2, v3, vf⟩ := stat_cells (g := w.heap.size + 1 + 1 + 1 + 1) ((hu.2 _ (by omega) (by omega)).trans q4)
  have hF := (hu.2 (w.heap.size + 2) (by omega) (by omega)).trans q2
  have c0 : w4.cell? ⟨w.heap.size + 1 + 1, 0, none⟩ = some (.int .i64 0) := by simp [World.cell?, hF]
  have c1 : w4.cell? ⟨w.heap.size + 1 + 1, 1, none⟩ = some (.int .i64 0) := by simp [World.cell?, hF]
  have ff : ∀ i, w4.frozen? ⟨w.heap.size + 1 + 1, i, none⟩ = false := fun i => by simp [World.frozen?, hF]
  have HP := Lib.hid hp
  have HU := Lib.hid hu
  clear hp hu hk hz q0 q1 q2 q3 q4 hF
  go_wp2_with fail
  go_region
  go_wp2_with fail
  refine bodyPost_ret (v := .tuple #[statV 0 0 0 ⟨#[]⟩, .agg #[.int .i64 a, .int .i64 c]]) ?_ rfl ⟨rfl, ?_, ?_⟩
  · unfold statV
    simp [results, Tryd.results42, go_sem, e0, e1, e2, e3, c0, c1, hz1, hz2]
  · exact ((((set4_keeps (HU.out.keeps (five_below w K first cap) (by omega)) (g := w.heap.size + 1) (by omega) 0 0 0 ⟨#[]⟩).setCell (by simp; omega) _).setCell (by simp; omega) _).alloc _).drew
  · exact HS.out w4 _ (((((set4_below (Below.refl _ _) (g := w.heap.size + 1) (by omega) 0 0 0 ⟨#[]⟩).setCell (by simp; omega) _).setCell (by simp; omega) _).alloc (by simp [set4_size]; omega) _).drew) HP.out

end Go.Proofs.YtjlemghmpnkncaaDoor
