/-
  The law TrapFirst: its walk.
-/
import Derived.Test.YtgdhemhapfpkiaaTrapD
import Derived.Test.YtgdhemhapfpkiaaLawTrap
import Derived.Test.YtgdhemhapfpkiaaBytesPlain
namespace Go.Proofs.Ytgdhemhapfpkiaa
open Go.RowKit
set_option linter.unusedSimpArgs false
set_option linter.unusedVariables false

/-- What a deed tells: the code that is thrown, or its number. -/
def codeOf (c : Nat → Int) (f : Nat → Bool) (n : Nat → Int) (j : Nat) : Int := if f j then thrownCode (c j) else n j

/-- What the first k deeds tell. -/
def codesOf (c : Nat → Int) (f : Nat → Bool) (n : Nat → Int) (k : Nat) : List Int := (List.range k).map (codeOf c f n)

theorem codesOf_length (c : Nat → Int) (f : Nat → Bool) (n : Nat → Int) (k : Nat) : (codesOf c f n k).length = k := by simp [codesOf]

theorem codesOf_at (c : Nat → Int) (f : Nat → Bool) (n : Nat → Int) (k i : Nat) (h : i < (codesOf c f n k).length) : (codesOf c f n k)[i] = codeOf c f n i := by simp [codesOf]

theorem tells_tell (a c n : Nat → Int) (f : Nat → Bool) (j : Nat) : Tells (.func (.func 40) #[deedV (a j) (c j) (f j) (n j)] #[]) (codeOf c f n j) := by
  intro w
  cases h : f j
  · have := one_gives entersTell (tell_gives (a j) (c j) (n j)) w
    simpa [codeOf, h] using this
  · have := one_throws entersTell (tell_throws (a j) (c j) (n j)) w
    simpa [codeOf, h] using this

theorem First_1 (a c n : Nat → Int) (f : Nat → Bool) (w : World) (g : Nat) (hg : g = w.heap.size) :
    Calls Try.prog 39 #[.slice (some ⟨g, 0, none⟩) 1 1] (w.alloc (.cells #[.func (.func 40) #[deedV (a 0) (c 0) (f 0) (n 0)] #[]] 53)) fun e w' => e = .returned (.tuple #[.int .i64 (firstAt (codesOf c f n 1)), .int .i64 (firstCode (codesOf c f n 1))]) ∧ Below w.heap.size w w' := by
  subst hg
  refine (First_any (codesOf c f n 1) w.heap.size 1 _ (by simp) (by simp [codesOf]) ?_).mono fun e w' ⟨he, hb⟩ => ⟨he, below_after hb⟩
  intro i h
  rw [codesOf_at]
  rw [codesOf_length] at h
  refine ⟨_, ?_, tells_tell a c n f i⟩
  match i, h with
  | 0, _ => simp [go_sem]

theorem First_2 (a c n : Nat → Int) (f : Nat → Bool) (w : World) (g : Nat) (hg : g = w.heap.size) :
    Calls Try.prog 39 #[.slice (some ⟨g, 0, none⟩) 2 2] (w.alloc (.cells #[.func (.func 40) #[deedV (a 0) (c 0) (f 0) (n 0)] #[], .func (.func 40) #[deedV (a 1) (c 1) (f 1) (n 1)] #[]] 53)) fun e w' => e = .returned (.tuple #[.int .i64 (firstAt (codesOf c f n 2)), .int .i64 (firstCode (codesOf c f n 2))]) ∧ Below w.heap.size w w' := by
  subst hg
  refine (First_any (codesOf c f n 2) w.heap.size 2 _ (by simp) (by simp [codesOf]) ?_).mono fun e w' ⟨he, hb⟩ => ⟨he, below_after hb⟩
  intro i h
  rw [codesOf_at]
  rw [codesOf_length] at h
  refine ⟨_, ?_, tells_tell a c n f i⟩
  match i, h with
  | 0, _ => simp [go_sem]
  | 1, _ => simp [go_sem]

theorem First_3 (a c n : Nat → Int) (f : Nat → Bool) (w : World) (g : Nat) (hg : g = w.heap.size) :
    Calls Try.prog 39 #[.slice (some ⟨g, 0, none⟩) 3 3] (w.alloc (.cells #[.func (.func 40) #[deedV (a 0) (c 0) (f 0) (n 0)] #[], .func (.func 40) #[deedV (a 1) (c 1) (f 1) (n 1)] #[], .func (.func 40) #[deedV (a 2) (c 2) (f 2) (n 2)] #[]] 53)) fun e w' => e = .returned (.tuple #[.int .i64 (firstAt (codesOf c f n 3)), .int .i64 (firstCode (codesOf c f n 3))]) ∧ Below w.heap.size w w' := by
  subst hg
  refine (First_any (codesOf c f n 3) w.heap.size 3 _ (by simp) (by simp [codesOf]) ?_).mono fun e w' ⟨he, hb⟩ => ⟨he, below_after hb⟩
  intro i h
  rw [codesOf_at]
  rw [codesOf_length] at h
  refine ⟨_, ?_, tells_tell a c n f i⟩
  match i, h with
  | 0, _ => simp [go_sem]
  | 1, _ => simp [go_sem]
  | 2, _ => simp [go_sem]

theorem First_4 (a c n : Nat → Int) (f : Nat → Bool) (w : World) (g : Nat) (hg : g = w.heap.size) :
    Calls Try.prog 39 #[.slice (some ⟨g, 0, none⟩) 4 4] (w.alloc (.cells #[.func (.func 40) #[deedV (a 0) (c 0) (f 0) (n 0)] #[], .func (.func 40) #[deedV (a 1) (c 1) (f 1) (n 1)] #[], .func (.func 40) #[deedV (a 2) (c 2) (f 2) (n 2)] #[], .func (.func 40) #[deedV (a 3) (c 3) (f 3) (n 3)] #[]] 53)) fun e w' => e = .returned (.tuple #[.int .i64 (firstAt (codesOf c f n 4)), .int .i64 (firstCode (codesOf c f n 4))]) ∧ Below w.heap.size w w' := by
  subst hg
  refine (First_any (codesOf c f n 4) w.heap.size 4 _ (by simp) (by simp [codesOf]) ?_).mono fun e w' ⟨he, hb⟩ => ⟨he, below_after hb⟩
  intro i h
  rw [codesOf_at]
  rw [codesOf_length] at h
  refine ⟨_, ?_, tells_tell a c n f i⟩
  match i, h with
  | 0, _ => simp [go_sem]
  | 1, _ => simp [go_sem]
  | 2, _ => simp [go_sem]
  | 3, _ => simp [go_sem]

set_option maxRecDepth 20000 in
theorem first_0 (a c n : Nat → Int) (f : Nat → Bool) (w : World) :
    Calls Try.prog 38 #[.agg #[.int .i64 (a 0), .int .i64 (c 0), .bool (f 0), .int .i64 (n 0), .int .i64 (a 1), .int .i64 (c 1), .bool (f 1), .int .i64 (n 1), .int .i64 (a 2), .int .i64 (c 2), .bool (f 2), .int .i64 (n 2), .int .i64 (a 3), .int .i64 (c 3), .bool (f 3), .int .i64 (n 3)], .int .i64 0] w fun e w' => e = .returned (.tuple #[.int .i64 (firstAt (codesOf c f n 0)), .int .i64 (firstCode (codesOf c f n 0))]) ∧ Below w.heap.size w w' := by
  have hmf : ∀ (fn : Fn) (first cap : Array Value) (w : World), (Instr.makeFunc fn first cap).run Try.prog w = .ok (.func fn first cap) w := fun _ _ _ _ => rfl
  go_enter Try.func38, Try.ntmps38
  go_wp2_with (go_at_call 39; (with_reducible refine (First_none _).mono ?_); rintro e w' ⟨rfl, rfl⟩)
  go_ret2
  exact ⟨by rfl, below_box _ _⟩

set_option maxRecDepth 20000 in
theorem first_1 (a c n : Nat → Int) (f : Nat → Bool) (w : World) :
    Calls Try.prog 38 #[.agg #[.int .i64 (a 0), .int .i64 (c 0), .bool (f 0), .int .i64 (n 0), .int .i64 (a 1), .int .i64 (c 1), .bool (f 1), .int .i64 (n 1), .int .i64 (a 2), .int .i64 (c 2), .bool (f 2), .int .i64 (n 2), .int .i64 (a 3), .int .i64 (c 3), .bool (f 3), .int .i64 (n 3)], .int .i64 1] w fun e w' => e = .returned (.tuple #[.int .i64 (firstAt (codesOf c f n 1)), .int .i64 (firstCode (codesOf c f n 1))]) ∧ Below w.heap.size w w' := by
  have hmf : ∀ (fn : Fn) (first cap : Array Value) (w : World), (Instr.makeFunc fn first cap).run Try.prog w = .ok (.func fn first cap) w := fun _ _ _ _ => rfl
  go_enter Try.func38, Try.ntmps38
  go_wp2_with (go_at_call 39; (with_reducible refine (First_1 a c n f _ _ (by simp)).mono ?_); rintro e w1 ⟨rfl, hb⟩)
  go_ret2
  exact ⟨rfl, below_trans (below_box _ _) hb⟩

set_option maxRecDepth 20000 in
theorem first_2 (a c n : Nat → Int) (f : Nat → Bool) (w : World) :
    Calls Try.prog 38 #[.agg #[.int .i64 (a 0), .int .i64 (c 0), .bool (f 0), .int .i64 (n 0), .int .i64 (a 1), .int .i64 (c 1), .bool (f 1), .int .i64 (n 1), .int .i64 (a 2), .int .i64 (c 2), .bool (f 2), .int .i64 (n 2), .int .i64 (a 3), .int .i64 (c 3), .bool (f 3), .int .i64 (n 3)], .int .i64 2] w fun e w' => e = .returned (.tuple #[.int .i64 (firstAt (codesOf c f n 2)), .int .i64 (firstCode (codesOf c f n 2))]) ∧ Below w.heap.size w w' := by
  have hmf : ∀ (fn : Fn) (first cap : Array Value) (w : World), (Instr.makeFunc fn first cap).run Try.prog w = .ok (.func fn first cap) w := fun _ _ _ _ => rfl
  go_enter Try.func38, Try.ntmps38
  go_wp2_with (go_at_call 39; (with_reducible refine (First_2 a c n f _ _ (by simp)).mono ?_); rintro e w1 ⟨rfl, hb⟩)
  go_ret2
  exact ⟨rfl, below_trans (below_box _ _) hb⟩

set_option maxRecDepth 20000 in
theorem first_3 (a c n : Nat → Int) (f : Nat → Bool) (w : World) :
    Calls Try.prog 38 #[.agg #[.int .i64 (a 0), .int .i64 (c 0), .bool (f 0), .int .i64 (n 0), .int .i64 (a 1), .int .i64 (c 1), .bool (f 1), .int .i64 (n 1), .int .i64 (a 2), .int .i64 (c 2), .bool (f 2), .int .i64 (n 2), .int .i64 (a 3), .int .i64 (c 3), .bool (f 3), .int .i64 (n 3)], .int .i64 3] w fun e w' => e = .returned (.tuple #[.int .i64 (firstAt (codesOf c f n 3)), .int .i64 (firstCode (codesOf c f n 3))]) ∧ Below w.heap.size w w' := by
  have hmf : ∀ (fn : Fn) (first cap : Array Value) (w : World), (Instr.makeFunc fn first cap).run Try.prog w = .ok (.func fn first cap) w := fun _ _ _ _ => rfl
  go_enter Try.func38, Try.ntmps38
  go_wp2_with (go_at_call 39; (with_reducible refine (First_3 a c n f _ _ (by simp)).mono ?_); rintro e w1 ⟨rfl, hb⟩)
  go_ret2
  exact ⟨rfl, below_trans (below_box _ _) hb⟩

set_option maxRecDepth 20000 in
theorem first_4 (a c n : Nat → Int) (f : Nat → Bool) (w : World) :
    Calls Try.prog 38 #[.agg #[.int .i64 (a 0), .int .i64 (c 0), .bool (f 0), .int .i64 (n 0), .int .i64 (a 1), .int .i64 (c 1), .bool (f 1), .int .i64 (n 1), .int .i64 (a 2), .int .i64 (c 2), .bool (f 2), .int .i64 (n 2), .int .i64 (a 3), .int .i64 (c 3), .bool (f 3), .int .i64 (n 3)], .int .i64 4] w fun e w' => e = .returned (.tuple #[.int .i64 (firstAt (codesOf c f n 4)), .int .i64 (firstCode (codesOf c f n 4))]) ∧ Below w.heap.size w w' := by
  have hmf : ∀ (fn : Fn) (first cap : Array Value) (w : World), (Instr.makeFunc fn first cap).run Try.prog w = .ok (.func fn first cap) w := fun _ _ _ _ => rfl
  go_enter Try.func38, Try.ntmps38
  go_wp2_with (go_at_call 39; (with_reducible refine (First_4 a c n f _ _ (by simp)).mono ?_); rintro e w1 ⟨rfl, hb⟩)
  go_ret2
  exact ⟨rfl, below_trans (below_box _ _) hb⟩

theorem first_any (a c n : Nat → Int) (f : Nat → Bool) (k : Nat) (hk : k ≤ 4) (w : World) :
    Calls Try.prog 38 #[.agg #[.int .i64 (a 0), .int .i64 (c 0), .bool (f 0), .int .i64 (n 0), .int .i64 (a 1), .int .i64 (c 1), .bool (f 1), .int .i64 (n 1), .int .i64 (a 2), .int .i64 (c 2), .bool (f 2), .int .i64 (n 2), .int .i64 (a 3), .int .i64 (c 3), .bool (f 3), .int .i64 (n 3)], .int .i64 k] w fun e w' => e = .returned (.tuple #[.int .i64 (firstAt (codesOf c f n k)), .int .i64 (firstCode (codesOf c f n k))]) ∧ Below w.heap.size w w' := by
  match k, hk with
  | 0, _ => exact first_0 a c n f w
  | 1, _ => exact first_1 a c n f w
  | 2, _ => exact first_2 a c n f w
  | 3, _ => exact first_3 a c n f w
  | 4, _ => exact first_4 a c n f w

/-- The cells of the four deeds. -/
def Deeds (a c n : Nat → Int) (f : Nat → Bool) (g : Nat) (w : World) : Prop :=
  ∀ j, j < 4 → w.cell? ⟨g, j * 4, none⟩ = some (.int .i64 (a j)) ∧ w.cell? ⟨g, j * 4 + 1, none⟩ = some (.int .i64 (c j)) ∧ w.cell? ⟨g, j * 4 + 2, none⟩ = some (.bool (f j)) ∧ w.cell? ⟨g, j * 4 + 3, none⟩ = some (.int .i64 (n j))

theorem deeds_box (a c n : Nat → Int) (f : Nat → Bool) (w : World) : Deeds a c n f w.heap.size (w.alloc (.cells #[.int .i64 (a 0), .int .i64 (c 0), .bool (f 0), .int .i64 (n 0), .int .i64 (a 1), .int .i64 (c 1), .bool (f 1), .int .i64 (n 1), .int .i64 (a 2), .int .i64 (c 2), .bool (f 2), .int .i64 (n 2), .int .i64 (a 3), .int .i64 (c 3), .bool (f 3), .int .i64 (n 3)] 49)) := by
  intro j h
  match j, h with
  | 0, _ => simp [go_sem]
  | 1, _ => simp [go_sem]
  | 2, _ => simp [go_sem]
  | 3, _ => simp [go_sem]

theorem Deeds.below {a c n : Nat → Int} {f : Nat → Bool} {g B : Nat} {w w' : World} (h : Deeds a c n f g w) (hb : Below B w w') (hg : g < B) : Deeds a c n f g w' := by
  intro j hj
  obtain ⟨h1, h2, h3, h4⟩ := h j hj
  exact ⟨by rw [cell_below hb hg]; exact h1, by rw [cell_below hb hg]; exact h2, by rw [cell_below hb hg]; exact h3, by rw [cell_below hb hg]; exact h4⟩

theorem codes_drop (c : Nat → Int) (f : Nat → Bool) (n : Nat → Int) (k j : Nat) (hj : j < k) : (codesOf c f n k).drop j = codeOf c f n j :: (codesOf c f n k).drop (j + 1) := by
  rw [List.drop_eq_getElem_cons (by rw [codesOf_length]; exact hj), codesOf_at]

/-- What the law's own search knows behind the deeds from j on. -/
def Behind (es : List Int) (j : Nat) (s6 s7 : Value) : Prop := s6 = .int .i64 ((firstAt (es.drop j) + j : Nat) : Int) ∧ s7 = .int .i64 (firstCode (es.drop j))

theorem behind_hit {c : Nat → Int} {f : Nat → Bool} {n : Nat → Int} {k j : Nat} (hj : j < k) {x : Int} (hx : codeOf c f n j = x) (h : x ≠ 0) : Behind (codesOf c f n k) j (.int .i64 j) (.int .i64 x) := by
  unfold Behind
  rw [codes_drop c f n k j hj, hx]
  simp [firstAt, firstCode, h]

theorem behind_miss {c : Nat → Int} {f : Nat → Bool} {n : Nat → Int} {k j : Nat} (hj : j < k) (hx : codeOf c f n j = 0) {s6 s7 : Value} (h : Behind (codesOf c f n k) (j + 1) s6 s7) : Behind (codesOf c f n k) j s6 s7 := by
  unfold Behind at *
  rw [codes_drop c f n k j hj, hx]
  obtain ⟨rfl, rfl⟩ := h
  refine ⟨?_, rfl⟩
  simp [firstAt]
  omega

theorem thrown_ne (c : Int) : thrownCode c ≠ 0 := by unfold thrownCode; split <;> omega

set_option maxHeartbeats 1000000 in
set_option maxRecDepth 20000 in
theorem trapFirst_walk (a c n : Nat → Int) (f : Nat → Bool) (b : UInt8) (w : World) :
    Calls Try.prog 9 #[.agg #[.int .i64 (a 0), .int .i64 (c 0), .bool (f 0), .int .i64 (n 0), .int .i64 (a 1), .int .i64 (c 1), .bool (f 1), .int .i64 (n 1), .int .i64 (a 2), .int .i64 (c 2), .bool (f 2), .int .i64 (n 2), .int .i64 (a 3), .int .i64 (c 3), .bool (f 3), .int .i64 (n 3)], .int .u8 b.toNat] w fun e w' => e = .returned (.bool true) ∧ Below w.heap.size w w' := by
  have hb0 := bytes_small b
  obtain ⟨k, hk, hmod⟩ : ∃ k : Nat, k ≤ 4 ∧ (b.toNat : Int) % 5 = (k : Int) := ⟨b.toNat % 5, by omega, by omega⟩
  have HD := Lib.hid (deeds_box a c n f w)
  go_enter Try.func9, Try.ntmps9
  go_wp2_with fail
  clear hmod hb0
  go_loopw [6, 7, 8] (fun s6 s7 s8 wr => ∃ (j : Nat) (i : Int), j ≤ k ∧ i = (j : Int) - 1 ∧ s8 = .int .i64 i ∧ Behind (codesOf c f n k) j s6 s7 ∧ Deeds a c n f w.heap.size wr ∧ Below w.heap.size w wr ∧ w.heap.size < wr.heap.size) (fun _ _ s8 _ => (intOf s8 + 1).toNat)
  case atStart => exact ⟨k, _, Nat.le_refl _, rfl, rfl, ⟨by rw [List.drop_of_length_le (by rw [codesOf_length]; omega)]; simp [firstAt], by rw [List.drop_of_length_le (by rw [codesOf_length]; omega)]; rfl⟩, HD.out, below_box _ _, by simp⟩
  case round =>
    obtain ⟨j, i, hj, hi, rfl, hbe, hd, hb, hz⟩ := hrel
    have HBE := Lib.hid hbe; clear hbe
    have HB := Lib.hid hb; clear hb
    cases j with
    | zero =>
      obtain rfl : i = -1 := by omega
      have hbe := HBE.out
      unfold Behind at hbe
      rw [List.drop_zero, Nat.add_zero] at hbe
      obtain ⟨rfl, rfl⟩ := hbe
      obtain ⟨p0, p1, p2, p3⟩ := hd 0 (by omega)
      obtain ⟨p4, p5, p6, p7⟩ := hd 1 (by omega)
      obtain ⟨p8, p9, p10, p11⟩ := hd 2 (by omega)
      obtain ⟨p12, p13, p14, p15⟩ := hd 3 (by omega)
      simp only [Nat.zero_mul, Nat.zero_add, Nat.one_mul, Nat.reduceMul, Nat.reduceAdd] at p0 p1 p2 p3 p4 p5 p6 p7 p8 p9 p10 p11 p12 p13 p14 p15
      clear hi hd HBE
      go_wp2_with (first | (go_at_call 38; (with_reducible refine (first_any a c n f k hk _).mono ?_); rintro e w1 ⟨rfl, hb1⟩) | (go_at_call 17; refine (lives01_any _).mono ?_; rintro e w2 ⟨rfl, hb2⟩))
      go_ret
      exact ⟨rfl, (HB.out.trans (hb1.mono HB.out.size)).trans (hb2.mono (Nat.le_trans HB.out.size hb1.size))⟩
    | succ j =>
      obtain rfl : i = (j : Int) := by omega
      clear hi
      have hlt : j < 4 := by omega
      obtain ⟨d0, d1, d2, d3⟩ := hd j hlt
      have HDS := Lib.hid hd; clear hd
      cases hf : f j
      case true =>
        rw [hf] at d2
        have HX : Hid (codeOf c f n j = thrownCode (c j)) := Lib.hid (by simp [codeOf, hf])
        clear hf
        go_wp2_with fail
        have hx := @InB.cells wr
        have hfd : ∀ (x y : Int) (w : World), (Instr.field 26 (.agg #[.int .i64 x, .int .i64 y]) 1).run Try.prog w = .ok (.int .i64 y) w := fun _ _ _ => by kernel_rfl
        refine wp_region_inb (by kernel_rfl) (by kernel_rfl) ?_; (repeat (first | go_big_quiet_skip | (go_big_quiet_want; go_big_quiet_op; first | go_big_quiet_on | (apply Exists.intro; refine ⟨fun x => ?_, ?_⟩; (· ((go_at_call 20; exact inb_call _ (Thrown_any _ _ _)))); go_big_quiet_on)))); refine wpQuiet_nil ?_; intro _ hw'; obtain ⟨⟨wq, hbq⟩, rfl⟩ := hw'
        go_wp2_with fail
        go_roundw
        case rel => exact ⟨j, _, by omega, rfl, rfl, behind_hit (by omega) HX.out (thrown_ne _), HDS.out.below hbq hz, HB.out.trans (hbq.mono HB.out.size), Nat.lt_of_lt_of_le hz hbq.size⟩
        case measure => simp [intOf]
      case false =>
        rw [hf] at d2
        have HX : Hid (codeOf c f n j = n j) := Lib.hid (by simp [codeOf, hf])
        clear hf
        by_cases hn : n j = 0
        · have hn1 : (n j != 0) = false := by simpa using hn
          have HN := Lib.hid hn; clear hn
          go_wp2_with fail
          go_roundw
          case rel => exact ⟨j, _, by omega, rfl, rfl, behind_miss (by omega) (by rw [HX.out, HN.out]) HBE.out, HDS.out, HB.out, hz⟩
          case measure => simp [intOf]
        · have hn1 : (n j != 0) = true := by simpa using hn
          have HN := Lib.hid hn; clear hn
          go_wp2_with fail
          go_quiet (fail)
          go_wp2_with fail
          go_roundw
          case rel => exact ⟨j, _, by omega, rfl, rfl, behind_hit (by omega) HX.out HN.out, HDS.out, below_drewN HB.out nq, hz⟩
          case measure => simp [intOf]

end Go.Proofs.Ytgdhemhapfpkiaa
