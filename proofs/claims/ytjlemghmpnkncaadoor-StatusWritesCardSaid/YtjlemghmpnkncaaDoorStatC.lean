/-
  Walks of package status and its reference: classes and words.
-/
import Derived.Test.YtjlemghmpnkncaaDoorStatG
import Derived.Deep.DeepCutAuto
namespace Go.Proofs.YtjlemghmpnkncaaDoor
open Go.RowKit
set_option linter.unusedSimpArgs false
set_option linter.unusedVariables false

theorem Class_any (n : Int) (w : World) : Calls Tryd.prog 6 #[.int .i64 n] w fun e w' => e = .returned (.int .i64 (hundB n)) ∧ w = w' := by
  go_enter Tryd.func6, Tryd.ntmps6
  go_wp2_with (go_at_call 32; refine (hundreds_any _ _).mono ?_; rintro e w' ⟨rfl, rfl⟩)
  go_ret
  exact ⟨rfl, rfl⟩

theorem Ok_any (n : Int) (w : World) : Calls Tryd.prog 8 #[.int .i64 n] w fun e w' => e = .returned (.bool (hundB n == 2)) ∧ w = w' := by
  go_enter Tryd.func8, Tryd.ntmps8
  go_wp2_with (go_at_call 32; refine (hundreds_any _ _).mono ?_; rintro e w' ⟨rfl, rfl⟩)
  go_ret
  exact ⟨rfl, rfl⟩

theorem rClass_any (n : Int) (w : World) : Calls Tryd.prog 7 #[.int .i64 n] w fun e w' => e = .returned (.int .i64 (hundB n)) ∧ w = w' := by
  unfold hundB
  by_cases h : n < 100
  · rw [if_pos (.inl h)]
    have h1 : ¬ (99 < n) := by omega
    go_enter Tryd.func7, Tryd.ntmps7
    go_wp2_with fail
    go_ret
    exact ⟨rfl, rfl⟩
  · have h1 : 99 < n := by omega
    by_cases h2 : 999 < n
    · rw [if_pos (.inr h2)]
      have h3 : ¬ (n < 1000) := by omega
      go_enter Tryd.func7, Tryd.ntmps7
      go_wp2_with fail
      go_ret
      exact ⟨rfl, rfl⟩
    · rw [if_neg (by omega)]
      have h3 : n < 1000 := by omega
      go_enter Tryd.func7, Tryd.ntmps7
      go_wp2_with fail
      go_ret
      exact ⟨rfl, rfl⟩

/-- A number is one of some. -/
def hasI (xs : List Int) (n : Int) : Bool := xs.contains n

theorem take_has (xs : List Int) (n : Int) (k : Nat) (h : k < xs.length) : hasI (xs.take (k + 1)) n = (hasI (xs.take k) n || (n == xs[k])) := by
  unfold hasI
  rw [← List.take_append_getElem h, List.contains_append]
  congr 1
  simp [List.contains_cons]
  exact (Bool.beq_eq_decide_eq n xs[k]).symm

theorem hasI_mem {xs : List Int} {n : Int} (h : n ∈ xs) : hasI xs n = true := List.contains_iff_mem.2 h

theorem hasI_nil (n : Int) : hasI [] n = false := rfl

theorem index_ints (xs : List Int) (n : Int) (g : Nat) (w : World) (hl : xs.length ≤ 1000) (hc : ∀ i (h : i < xs.length), w.cell? ⟨g, i, none⟩ = some (.int .i64 xs[i])) :
    Calls Tryd.prog 54 #[.slice (some ⟨g, 0, none⟩) xs.length xs.length, .int .i64 n] w fun e w' => (∃ k : Int, e = .returned (.int .i64 k) ∧ decide (0 ≤ k) = hasI xs n) ∧ w = w' := by
  have HC := Lib.hid hc
  clear hc
  go_enter Tryd.func54, Tryd.ntmps54
  go_wp2
  go_loop [8] (fun i => ∃ k : Nat, k ≤ xs.length ∧ i = .int .i64 k ∧ hasI (xs.take k) n = false) (fun i => xs.length - (intOf i).toNat)
  case atStart => exact ⟨0, Nat.zero_le _, rfl, hasI_nil n⟩
  case round =>
    obtain ⟨k, hk, rfl, hp⟩ := hrel
    by_cases hlt : k < xs.length
    · have c0 := HC.out k hlt
      have ht := take_has xs n k hlt
      rw [hp, Bool.false_or] at ht
      have hin : xs[k] ∈ xs := List.getElem_mem _
      generalize xs[k] = x at *
      have HP := Lib.hid hp
      by_cases hx : n = x
      · subst hx
        have HI := Lib.hid hin
        clear hp ht hin
        go_wp2_with fail
        go_ret
        exact ⟨⟨k, rfl, by rw [hasI_mem HI.out]; exact decide_eq_true (by omega)⟩, rfl⟩
      · have hx2 : (n == x) = false := beq_eq_false_iff_ne.2 hx
        rw [hx2] at ht
        have HT := Lib.hid ht
        clear hp ht hin
        go_wp2_with fail
        go_round
        case rel => exact ⟨k + 1, by omega, by go_num, HT.out⟩
        case measure => simp [intOf]; omega
    · obtain rfl : k = xs.length := by omega
      rw [List.take_of_length_le (Nat.le_refl _)] at hp
      have HP := Lib.hid hp
      clear hp
      go_wp2_with fail
      go_ret
      exact ⟨⟨-1, rfl, by rw [HP.out]; rfl⟩, rfl⟩

theorem contains_ints (xs : List Int) (n : Int) (g : Nat) (w : World) (hl : xs.length ≤ 1000) (hc : ∀ i (h : i < xs.length), w.cell? ⟨g, i, none⟩ = some (.int .i64 xs[i])) :
    Calls Tryd.prog 33 #[.slice (some ⟨g, 0, none⟩) xs.length xs.length, .int .i64 n] w fun e w' => e = .returned (.bool (hasI xs n)) ∧ w = w' := by
  have HI := Lib.hid (index_ints xs n g w hl hc)
  clear hc
  generalize hasI xs n = q at *
  go_enter Tryd.func33, Tryd.ntmps33
  go_wp2_with fail
  refine HI.out.mono ?_
  rintro e w' ⟨⟨k, rfl, hk⟩, rfl⟩
  have HK := Lib.hid hk
  clear hk
  go_wp2_with fail
  go_ret
  exact ⟨ret_bool HK.out, rfl⟩

theorem one_ints (xs : List Int) (n : Int) (g : Nat) (w : World) (hl : xs.length ≤ 1000) (hc : ∀ i (h : i < xs.length), w.cell? ⟨g, i, none⟩ = some (.int .i64 xs[i])) :
    Calls Tryd.prog 34 #[.int .i64 n, .slice (some ⟨g, 0, none⟩) xs.length xs.length] w fun e w' => e = .returned (.bool (hasI xs n)) ∧ w = w' := by
  have HC := Lib.hid hc
  clear hc
  have HQ : Hid (hasI xs n = hasI xs n) := Lib.hid rfl
  go_enter Tryd.func34, Tryd.ntmps34
  go_wp2
  go_loop [5] (fun i => ∃ k : Nat, k ≤ xs.length ∧ i = .int .i64 k ∧ hasI (xs.take k) n = false) (fun i => xs.length - (intOf i).toNat)
  case atStart => exact ⟨0, Nat.zero_le _, rfl, hasI_nil n⟩
  case round =>
    obtain ⟨k, hk, rfl, hp⟩ := hrel
    by_cases hlt : k < xs.length
    · have c0 := HC.out k hlt
      have ht := take_has xs n k hlt
      rw [hp, Bool.false_or] at ht
      have hin : xs[k] ∈ xs := List.getElem_mem _
      generalize xs[k] = x at *
      by_cases hx : n = x
      · subst hx
        have HI := Lib.hid hin
        clear hp ht hin
        go_wp2_with fail
        go_ret
        exact ⟨ret_bool (hasI_mem HI.out).symm, rfl⟩
      · have hx2 : (n == x) = false := beq_eq_false_iff_ne.2 hx
        have hx3 : (x == n) = false := beq_eq_false_iff_ne.2 (Ne.symm hx)
        rw [hx2] at ht
        have HT := Lib.hid ht
        clear hp ht hin
        go_wp2_with fail
        go_round
        case rel => exact ⟨k + 1, by omega, by go_num, HT.out⟩
        case measure => simp [intOf]; omega
    · obtain rfl : k = xs.length := by omega
      rw [List.take_of_length_le (Nat.le_refl _)] at hp
      have HP := Lib.hid hp
      clear hp
      go_wp2_with fail
      go_ret
      exact ⟨ret_bool HP.out.symm, rfl⟩

def nulls : List Int := [101, 103, 204, 205, 304]
def redirs : List Int := [301, 302, 303, 307, 308]

theorem ints_cells (w : World) (a b c d e : Int) (t : TypeId) : ∀ i (h : i < [a, b, c, d, e].length), (w.alloc (.cells #[.int .i64 a, .int .i64 b, .int .i64 c, .int .i64 d, .int .i64 e] t)).cell? ⟨w.heap.size, i, none⟩ = some (.int .i64 [a, b, c, d, e][i]) := by
  intro i h
  rw [cell_of_row _ _ _ _ _ (0, 0) (heap_alloc_new w _)]
  match i, h with
  | 0, _ => rfl
  | 1, _ => rfl
  | 2, _ => rfl
  | 3, _ => rfl
  | 4, _ => rfl

theorem Null_any (n : Int) (w : World) : Calls Tryd.prog 9 #[.int .i64 n] w fun e w' => e = .returned (.bool (hasI nulls n)) ∧ Below w.heap.size w w' := by
  have HC := Lib.hid (contains_ints nulls n w.heap.size _ (by decide) (ints_cells w 101 103 204 205 304 3))
  generalize hasI nulls n = q at *
  go_enter Tryd.func9, Tryd.ntmps9
  go_wp2_with fail
  refine HC.out.mono ?_
  rintro e w' ⟨rfl, rfl⟩
  go_wp2_with fail
  go_ret
  exact ⟨rfl, below_box _ _⟩

theorem Redirect_any (n : Int) (w : World) : Calls Tryd.prog 11 #[.int .i64 n] w fun e w' => e = .returned (.bool (hasI redirs n)) ∧ Below w.heap.size w w' := by
  have HC := Lib.hid (contains_ints redirs n w.heap.size _ (by decide) (ints_cells w 301 302 303 307 308 3))
  generalize hasI redirs n = q at *
  go_enter Tryd.func11, Tryd.ntmps11
  go_wp2_with fail
  refine HC.out.mono ?_
  rintro e w' ⟨rfl, rfl⟩
  go_wp2_with fail
  go_ret
  exact ⟨rfl, below_box _ _⟩

theorem rNull_any (n : Int) (w : World) : Calls Tryd.prog 10 #[.int .i64 n] w fun e w' => e = .returned (.bool (hasI nulls n)) ∧ Below w.heap.size w w' := by
  have HC := Lib.hid (one_ints nulls n w.heap.size _ (by decide) (ints_cells w 101 103 204 205 304 3))
  generalize hasI nulls n = q at *
  go_enter Tryd.func10, Tryd.ntmps10
  go_wp2_with fail
  refine HC.out.mono ?_
  rintro e w' ⟨rfl, rfl⟩
  go_wp2_with fail
  go_ret
  exact ⟨rfl, below_box _ _⟩

theorem rRedirect_any (n : Int) (w : World) : Calls Tryd.prog 12 #[.int .i64 n] w fun e w' => e = .returned (.bool (hasI redirs n)) ∧ Below w.heap.size w w' := by
  have HC := Lib.hid (one_ints redirs n w.heap.size _ (by decide) (ints_cells w 301 302 303 307 308 3))
  generalize hasI redirs n = q at *
  go_enter Tryd.func12, Tryd.ntmps12
  go_wp2_with fail
  refine HC.out.mono ?_
  rintro e w' ⟨rfl, rfl⟩
  go_wp2_with fail
  go_ret
  exact ⟨rfl, below_box _ _⟩

end Go.Proofs.YtjlemghmpnkncaaDoor
