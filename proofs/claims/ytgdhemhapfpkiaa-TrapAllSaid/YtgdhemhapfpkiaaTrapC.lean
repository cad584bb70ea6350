/-
  Walks of package trap where the function that is called makes memory alone; the deeds of the statements.
-/
import Derived.Test.YtgdhemhapfpkiaaTrapVInt
import Derived.Conc.MuLone
import Derived.Test.YtgdhemhapfpkiaaQuietIn
namespace Go.Proofs.Ytgdhemhapfpkiaa
open Go.RowKit
set_option linter.unusedSimpArgs false
set_option linter.unusedVariables false

/-- A function that throws, and makes memory alone. -/
def ThrowsB (K : FuncId) (args : Array Value) (a c : Int) : Prop :=
  ∀ w, Calls Try.prog K args w fun e w' => e = .panicked [{ v := faultV a c, recovered := false }] ∧ Below w.heap.size w w'

/-- A function that gives v, and makes memory alone. -/
def GivesB (K : FuncId) (args : Array Value) (v : Value) : Prop :=
  ∀ w, Calls Try.prog K args w fun e w' => e = .returned v ∧ Below w.heap.size w w'

theorem ThrowsB.at_ {K : FuncId} {args : Array Value} {a c : Int} (h : ThrowsB K args a c) (B : Nat) {W w1 : World} (hb : Below W.heap.size W w1) : Throws K args a c B (Below W.heap.size W) w1 :=
  (h w1).mono fun _ _ ⟨he, hk⟩ => ⟨he, keeps_of_below hk, below_trans hb hk⟩

theorem GivesB.at_ {K : FuncId} {args : Array Value} {v : Value} (h : GivesB K args v) (B : Nat) {W w1 : World} (hb : Below W.heap.size W w1) : Gives K args v B (Below W.heap.size W) w1 :=
  (h w1).mono fun _ _ ⟨he, hk⟩ => ⟨he, keeps_of_below hk, below_trans hb hk⟩

theorem Catch_throwsB {K : FuncId} {first cap : Array Value} {a c : Int} (hcf : Enters K) (h : ThrowsB K (first ++ cap) a c) (w : World) :
    Calls Try.prog 15 #[.func (.func K) first cap] w fun e w' => e = .returned (.tuple #[.agg #[.int .i64 a, .int .i64 c], .bool true]) ∧ Below w.heap.size w w' :=
  (Catch_throws K first cap a c w.heap.size (Below w.heap.size w) w hcf (Nat.le_refl _) (stays_below _ _) fun w1 hb => h.at_ _ hb).mono fun _ _ ⟨he, _, hp⟩ => ⟨he, hp⟩

theorem Catch_givesB {K : FuncId} {first cap : Array Value} (hcf : Enters K) (h : GivesB K (first ++ cap) (.tuple #[])) (w : World) :
    Calls Try.prog 15 #[.func (.func K) first cap] w fun e w' => e = .returned (.tuple #[.agg #[.int .i64 0, .int .i64 0], .bool false]) ∧ Below w.heap.size w w' :=
  (Catch_gives K first cap w.heap.size (Below w.heap.size w) w hcf (Nat.le_refl _) (stays_below _ _) fun w1 hb => h.at_ _ hb).mono fun _ _ ⟨he, _, hp⟩ => ⟨he, hp⟩

theorem catch_throwsB {K : FuncId} {first cap : Array Value} {a c : Int} (hcf : Enters K) (h : ThrowsB K (first ++ cap) a c) (w : World) :
    Calls Try.prog 71 #[.func (.func K) first cap] w fun e w' => e = .returned (.tuple #[.agg #[.int .i64 a, .int .i64 c], .bool true]) ∧ Below w.heap.size w w' :=
  (catch_throws K first cap a c w.heap.size (Below w.heap.size w) w hcf (Nat.le_refl _) (stays_below _ _) fun w1 hb => h.at_ _ hb).mono fun _ _ ⟨he, _, hp⟩ => ⟨he, hp⟩

theorem catch_givesB {K : FuncId} {first cap : Array Value} (hcf : Enters K) (h : GivesB K (first ++ cap) (.tuple #[])) (w : World) :
    Calls Try.prog 71 #[.func (.func K) first cap] w fun e w' => e = .returned (.tuple #[.agg #[.int .i64 0, .int .i64 0], .bool false]) ∧ Below w.heap.size w w' :=
  (catch_gives K first cap w.heap.size (Below w.heap.size w) w hcf (Nat.le_refl _) (stays_below _ _) fun w1 hb => h.at_ _ hb).mono fun _ _ ⟨he, _, hp⟩ => ⟨he, hp⟩

theorem entersValueInt1 : Enters 78 := fun args w => MuLone.run_callFunc_enter Try.func78 (by kernel_rfl) rfl args w

theorem valueInt_throwsB {K : FuncId} {first cap : Array Value} {a c : Int} (hcf : Enters K) (h : ThrowsB K (first ++ cap) a c) (w : World) :
    Calls Try.prog 29 #[.func (.func K) first cap] w fun e w' => e = .returned (.tuple #[.int .i64 0, .agg #[.int .i64 a, .int .i64 c]]) ∧ Below w.heap.size w w' :=
  (valueInt_throws K first cap a c w.heap.size (Below w.heap.size w) w hcf entersValueInt1 (Nat.le_refl _) (stays_below _ _) fun w1 hb => h.at_ _ hb).mono fun _ _ ⟨he, _, hp⟩ => ⟨he, hp⟩

theorem valueInt_givesB {K : FuncId} {first cap : Array Value} {v : Int} (hcf : Enters K) (h : GivesB K (first ++ cap) (.int .i64 v)) (w : World) :
    Calls Try.prog 29 #[.func (.func K) first cap] w fun e w' => e = .returned (.tuple #[.int .i64 v, .agg #[.int .i64 0, .int .i64 0]]) ∧ Below w.heap.size w w' :=
  (valueInt_gives K first cap v w.heap.size (Below w.heap.size w) w hcf entersValueInt1 (Nat.le_refl _) (stays_below _ _) fun w1 hb => h.at_ _ hb).mono fun _ _ ⟨he, _, hp⟩ => ⟨he, hp⟩

theorem Catch_throwsV {K : FuncId} {first : Array Value} {a c : Int} (hcf : Enters K) (h : ThrowsB K first a c) (w : World) :
    Calls Try.prog 15 #[.func (.func K) first #[]] w fun e w' => e = .returned (.tuple #[.agg #[.int .i64 a, .int .i64 c], .bool true]) ∧ Below w.heap.size w w' :=
  Catch_throwsB hcf (by rw [Array.append_empty]; exact h) w

theorem Catch_givesV {K : FuncId} {first : Array Value} (hcf : Enters K) (h : GivesB K first (.tuple #[])) (w : World) :
    Calls Try.prog 15 #[.func (.func K) first #[]] w fun e w' => e = .returned (.tuple #[.agg #[.int .i64 0, .int .i64 0], .bool false]) ∧ Below w.heap.size w w' :=
  Catch_givesB hcf (by rw [Array.append_empty]; exact h) w

theorem catch_throwsV {K : FuncId} {first : Array Value} {a c : Int} (hcf : Enters K) (h : ThrowsB K first a c) (w : World) :
    Calls Try.prog 71 #[.func (.func K) first #[]] w fun e w' => e = .returned (.tuple #[.agg #[.int .i64 a, .int .i64 c], .bool true]) ∧ Below w.heap.size w w' :=
  catch_throwsB hcf (by rw [Array.append_empty]; exact h) w

theorem catch_givesV {K : FuncId} {first : Array Value} (hcf : Enters K) (h : GivesB K first (.tuple #[])) (w : World) :
    Calls Try.prog 71 #[.func (.func K) first #[]] w fun e w' => e = .returned (.tuple #[.agg #[.int .i64 0, .int .i64 0], .bool false]) ∧ Below w.heap.size w w' :=
  catch_givesB hcf (by rw [Array.append_empty]; exact h) w

theorem valueInt_throwsV {K : FuncId} {first : Array Value} {a c : Int} (hcf : Enters K) (h : ThrowsB K first a c) (w : World) :
    Calls Try.prog 29 #[.func (.func K) first #[]] w fun e w' => e = .returned (.tuple #[.int .i64 0, .agg #[.int .i64 a, .int .i64 c]]) ∧ Below w.heap.size w w' :=
  valueInt_throwsB hcf (by rw [Array.append_empty]; exact h) w

theorem valueInt_givesV {K : FuncId} {first : Array Value} {v : Int} (hcf : Enters K) (h : GivesB K first (.int .i64 v)) (w : World) :
    Calls Try.prog 29 #[.func (.func K) first #[]] w fun e w' => e = .returned (.tuple #[.int .i64 v, .agg #[.int .i64 0, .int .i64 0]]) ∧ Below w.heap.size w w' :=
  valueInt_givesB hcf (by rw [Array.append_empty]; exact h) w

theorem Catch_nil (w : World) :
    Calls Try.prog 15 #[.nilFunc] w fun e w' => e = .returned (.tuple #[.agg #[.int .i64 0, .int .i64 1], .bool true]) ∧ Below w.heap.size w w' := by
  go_enter Try.func15, Try.ntmps15
  go_wp2_with (go_at_call 71; refine (catch_nil _).mono ?_; rintro e w1 ⟨rfl, hb⟩; obtain ⟨hc, hf⟩ := bcell hb; have hz := hb.size; simp at hz; have hz2 : w.heap.size < w1.heap.size := by omega)
  refine bodyPost_ret (v := .tuple #[.agg #[.int .i64 0, .int .i64 1], .bool true]) ?_ rfl ⟨rfl, ?_⟩
  · simp [results, Try.results15, go_sem, hc, hz2]
  · exact ((below_after hb).setCell (by simp) _).setCell (by simp) _

/-- A deed, as a value. -/
abbrev deedV (a c : Int) (f : Bool) (n : Int) : Value := .agg #[.int .i64 a, .int .i64 c, .bool f, .int .i64 n]

theorem entersDo : Enters 19 := fun args w => MuLone.run_callFunc_enter Try.func19 (by kernel_rfl) rfl args w
theorem entersNumber : Enters 30 := fun args w => MuLone.run_callFunc_enter Try.func30 (by kernel_rfl) rfl args w
theorem entersTell : Enters 40 := fun args w => MuLone.run_callFunc_enter Try.func40 (by kernel_rfl) rfl args w
theorem entersMust : Enters 37 := fun args w => MuLone.run_callFunc_enter Try.func37 (by kernel_rfl) rfl args w
theorem entersInner : Enters 16 := fun args w => MuLone.run_callFunc_enter Try.func16 (by kernel_rfl) rfl args w

theorem do_throws (a c n : Int) : ThrowsB 19 #[deedV a c true n] a (thrownCode c) := by
  intro w
  go_enter Try.func19, Try.ntmps19
  go_wp2_with (go_at_call 72; refine (Throw_any _ _ _).mono ?_; rintro e w' ⟨rfl, rfl⟩)
  exact ⟨rfl, rfl, below_box _ _⟩

theorem do_gives (a c n : Int) : GivesB 19 #[deedV a c false n] (.tuple #[]) := by
  intro w
  go_enter Try.func19, Try.ntmps19
  go_wp2_with fail
  go_end0
  exact ⟨rfl, below_box _ _⟩

theorem number_throws (a c n : Int) : ThrowsB 30 #[deedV a c true n] a (thrownCode c) := by
  intro w
  go_enter Try.func30, Try.ntmps30
  go_wp2_with (go_at_call 79; refine (Check_no _ _ _).mono ?_; rintro e w' ⟨rfl, rfl⟩)
  exact ⟨rfl, rfl, below_box _ _⟩

theorem number_gives (a c n : Int) : GivesB 30 #[deedV a c false n] (.int .i64 n) := by
  intro w
  go_enter Try.func30, Try.ntmps30
  go_wp2_with (go_at_call 79; refine (Check_yes _ _ _).mono ?_; rintro e w' ⟨rfl, rfl⟩)
  go_ret
  exact ⟨rfl, below_box _ _⟩

theorem tell_throws (a c n : Int) : ThrowsB 40 #[deedV a c true n] a (thrownCode c) := by
  intro w
  go_enter Try.func40, Try.ntmps40
  go_wp2_with (go_at_call 19; refine (do_throws _ _ _ _).mono ?_; rintro e w' ⟨rfl, hb⟩)
  exact ⟨rfl, rfl, below_after hb⟩

theorem tell_gives (a c n : Int) : GivesB 40 #[deedV a c false n] (.int .i64 n) := by
  intro w
  go_enter Try.func40, Try.ntmps40
  go_wp2_with (go_at_call 19; refine (do_gives _ _ _ _).mono ?_; rintro e w' ⟨rfl, hb⟩; obtain ⟨hc, hf⟩ := bcell hb)

  go_ret
  exact ⟨rfl, below_after hb⟩

theorem Must_gives (v : Int) (w : World) :
    Calls Try.prog 83 #[.int .i64 v, .int .i64 0] w fun e w' => e = .returned (.int .i64 v) ∧ w = w' := by
  go_enter Try.func83, Try.ntmps83
  go_wp2_with fail
  go_ret
  exact ⟨rfl, rfl⟩

theorem Must_throws (v c : Int) (hc : c ≠ 0) (w : World) :
    Calls Try.prog 83 #[.int .i64 v, .int .i64 c] w fun e w' => e = .panicked [{ v := faultV 0 c, recovered := false }] ∧ w = w' := by
  have h1 : (c != 0) = true := by simpa using hc
  have H : Hid (thrownCode c = c) := Lib.hid (by simp [thrownCode, hc])
  clear hc
  go_enter Try.func83, Try.ntmps83
  go_wp2_with (go_at_call 98; refine (throw_any _ _ _).mono ?_; rintro e w' ⟨rfl, rfl⟩; rw [H.out])
  exact ⟨rfl, rfl, rfl⟩

theorem must_gives (a n : Int) (f : Bool) : GivesB 37 #[deedV a 0 f n] (.int .i64 n) := by
  intro w
  go_enter Try.func37, Try.ntmps37
  go_wp2_with (go_at_call 83; refine (Must_gives _ _).mono ?_; rintro e w' ⟨rfl, rfl⟩)
  go_ret
  exact ⟨rfl, below_box _ _⟩

theorem must_throws (a c n : Int) (f : Bool) (hc : c ≠ 0) : ThrowsB 37 #[deedV a c f n] 0 c := by
  intro w
  have H := Lib.hid hc
  clear hc
  go_enter Try.func37, Try.ntmps37
  go_wp2_with (go_at_call 83; refine (Must_throws _ _ H.out _).mono ?_; rintro e w' ⟨rfl, rfl⟩)
  exact ⟨rfl, rfl, below_box _ _⟩

theorem Thrown_any (a c : Int) (w : World) :
    Calls Try.prog 20 #[.int .i64 a, .int .i64 c] w fun e w' => e = .returned (.agg #[.int .i64 a, .int .i64 (thrownCode c)]) ∧ Below w.heap.size w w' := by
  by_cases h : c = 0
  · subst h
    go_enter Try.func20, Try.ntmps20
    go_wp2
    refine bodyPost_ret (v := .agg #[.int .i64 a, .int .i64 1]) ?_ rfl ⟨rfl, below_box _ _⟩
    simp [results, Try.results20, go_sem]
  · have e : (c == 0) = false := by simpa using h
    have H : Hid (thrownCode c = c) := Lib.hid (by simp [thrownCode, h])
    clear h
    go_enter Try.func20, Try.ntmps20
    go_wp2
    rw [H.out]
    refine bodyPost_ret (v := .agg #[.int .i64 a, .int .i64 c]) ?_ rfl ⟨rfl, below_box _ _⟩
    simp [results, Try.results20, go_sem]

end Go.Proofs.Ytgdhemhapfpkiaa
