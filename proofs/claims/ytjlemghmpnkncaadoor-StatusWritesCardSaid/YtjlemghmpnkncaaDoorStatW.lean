/-
  Walks of package status and its reference: words; the law StatusClasses.
-/
import Derived.Test.YtjlemghmpnkncaaDoorStatC
import Derived.Test.YtjlemghmpnkncaaDoorLawStatusReads
namespace Go.Proofs.YtjlemghmpnkncaaDoor
open Go.RowKit
set_option linter.unusedSimpArgs false
set_option linter.unusedVariables false

def wordsT : ByteArray := ⟨#[111, 116, 104, 101, 114, 32, 105, 110, 102, 111, 114, 109, 97, 116, 105, 111, 110, 97, 108, 32, 111, 107, 32, 114, 101, 100, 105, 114, 101, 99, 116, 32, 99, 108, 105, 101, 110, 116, 32, 115, 101, 114, 118, 101, 114]⟩
def wOther : ByteArray := ⟨#[111, 116, 104, 101, 114]⟩
def wInfo : ByteArray := ⟨#[105, 110, 102, 111, 114, 109, 97, 116, 105, 111, 110, 97, 108]⟩
def wOk : ByteArray := ⟨#[111, 107]⟩
def wRedir : ByteArray := ⟨#[114, 101, 100, 105, 114, 101, 99, 116]⟩
def wClient : ByteArray := ⟨#[99, 108, 105, 101, 110, 116]⟩
def wServer : ByteArray := ⟨#[115, 101, 114, 118, 101, 114]⟩

def wordsB : List ByteArray := [wOther, wInfo, wOk, wRedir, wClient, wServer]

/-- The word of a class. -/
def wordW (c : Nat) : ByteArray := wordsB.getD c wOther

theorem fields_words : ((Lib.fields wordsT.data.toList).map fun l => Value.string ⟨l.toArray⟩) = wordsB.map Value.string := by kernel_rfl
theorem fields_count : (Lib.fields wordsT.data.toList).length = 6 := by kernel_rfl

theorem hundB_nat (n : Int) : ∃ c : Nat, c ≤ 9 ∧ hundB n = c := by
  unfold hundB
  split
  · exact ⟨0, by omega, rfl⟩
  · refine ⟨(n / 100).toNat, by omega, by omega⟩

theorem words_cells (w : World) (t : TypeId) : ∀ i, i < 6 → (w.alloc (.cells (wordsB.map Value.string).toArray t)).cell? ⟨w.heap.size, i, none⟩ = some (.string (wordW i)) := by
  intro i h
  rw [cell_of_row _ _ _ _ _ (0, 0) (heap_alloc_new w _)]
  match i, h with
  | 0, _ => rfl
  | 1, _ => rfl
  | 2, _ => rfl
  | 3, _ => rfl
  | 4, _ => rfl
  | 5, _ => rfl

theorem word_great {c : Nat} (h : 6 ≤ c) : wordW c = wOther := by
  unfold wordW
  rw [List.getD_eq_getElem?_getD, List.getElem?_eq_none (by exact h)]
  rfl

set_option maxRecDepth 20000 in
theorem Word_any (n : Int) (c : Nat) (hc : hundB n = c) (w : World) (hT : Tab w) :
    Calls Tryd.prog 14 #[.int .i64 n] w fun e w' => e = .returned (.string (wordW c)) ∧ Below w.heap.size w w' := by
  have hasc : ∀ (j : Nat) b, wordsT.data.toList[j]? = some b → b.toNat < 128 := fun j b h => by
    have ha : wordsT.data.toList.all (fun b => decide (b.toNat < 128)) = true := by decide
    exact of_decide_eq_true (List.all_eq_true.1 ha b (List.mem_of_getElem? h))
  have HF := Lib.hid (Tryd.strings_Fields wordsT w (by decide) hasc hT)
  rw [fields_words, fields_count] at HF
  have HH := Lib.hid (fun w => hundreds_any n w)
  rw [hc] at HH
  have HB := Lib.hid (below_box w (.cells (wordsB.map Value.string).toArray 9))
  unfold wordsT at HF
  by_cases h6 : c < 6
  · have hcell := words_cells w 9 c h6
    have h6i : (c : Int) < 6 := by omega
    have h0i : (0 : Int) ≤ (c : Int) := by omega
    clear hc hT hasc
    generalize wordW c = R at *
    go_enter Tryd.func14, Tryd.ntmps14
    go_wp2_with fail
    refine HF.out.mono ?_
    rintro e w1 ⟨rfl, rfl⟩
    generalize w.alloc (.cells (wordsB.map Value.string).toArray 9) = W at *
    go_wp2_with (go_at_call 32; refine Calls.mono (HH.out _) ?_; rintro e w' ⟨rfl, rfl⟩)
    go_ret
    exact ⟨rfl, HB.out⟩
  · rw [word_great (by omega)]
    have hcell : (w.alloc (.cells (wordsB.map Value.string).toArray 9)).cell? ⟨w.heap.size, 0, none⟩ = some (.string wOther) := words_cells w 9 0 (by decide)
    have h6i : ¬ ((c : Int) < 6) := by omega
    clear hc hT hasc
    generalize wOther = R at *
    go_enter Tryd.func14, Tryd.ntmps14
    go_wp2_with fail
    refine HF.out.mono ?_
    rintro e w1 ⟨rfl, rfl⟩
    generalize w.alloc (.cells (wordsB.map Value.string).toArray 9) = W at *
    go_wp2_with (go_at_call 32; refine Calls.mono (HH.out _) ?_; rintro e w' ⟨rfl, rfl⟩)
    go_ret
    exact ⟨rfl, HB.out⟩

def words10 : List ByteArray := [wOther, wInfo, wOk, wRedir, wClient, wServer, wOther, wOther, wOther, wOther]

theorem words10_cells (w : World) (t : TypeId) : ∀ i, i < 10 → (w.alloc (.cells (words10.map Value.string).toArray t)).cell? ⟨w.heap.size, i, none⟩ = some (.string (wordW i)) := by
  intro i h
  rw [cell_of_row _ _ _ _ _ (0, 0) (heap_alloc_new w _)]
  match i, h with
  | 0, _ => rfl
  | 1, _ => rfl
  | 2, _ => rfl
  | 3, _ => rfl
  | 4, _ => rfl
  | 5, _ => rfl
  | 6, _ => rfl
  | 7, _ => rfl
  | 8, _ => rfl
  | 9, _ => rfl

set_option maxRecDepth 20000 in
theorem rWord_any (n : Int) (c : Nat) (hc9 : c ≤ 9) (hc : hundB n = c) (w : World) :
    Calls Tryd.prog 15 #[.int .i64 n] w fun e w' => e = .returned (.string (wordW c)) ∧ Below w.heap.size w w' := by
  have HH := Lib.hid (fun w => rClass_any n w)
  rw [hc] at HH
  have HB := Lib.hid (below_box w (.cells (words10.map Value.string).toArray 9))
  have hcell := words10_cells w 9 c (by omega)
  have h6i : (c : Int) < 10 := by omega
  have h0i : (0 : Int) ≤ (c : Int) := by omega
  clear hc
  unfold words10 wOther wInfo wOk wRedir wClient wServer at hcell HB
  simp only [List.map_cons, List.map_nil] at hcell HB
  generalize wordW c = R at *
  go_enter Tryd.func15, Tryd.ntmps15
  go_wp2_with (go_at_call 7; refine Calls.mono (HH.out _) ?_; rintro e w' ⟨rfl, rfl⟩)
  go_ret
  exact ⟨rfl, HB.out⟩

theorem hundB_ok (n : Int) : (hundB n == 2) = (decide (200 ≤ n) && decide (n < 300)) := by
  rw [Bool.eq_iff_iff, beq_iff_eq, Bool.and_eq_true, decide_eq_true_eq, decide_eq_true_eq]
  unfold hundB
  split <;> omega

set_option maxRecDepth 20000 in
set_option maxHeartbeats 1000000 in
theorem statusClasses_walk (n : Int) (w : World) (hT : Tab w) :
    Calls Tryd.prog 3 #[.int .i64 n] w fun e w' => e = .returned (.bool true) ∧ Below w.heap.size w w' := by
  obtain ⟨c, hc9, hc⟩ := hundB_nat n
  have H1 := Lib.hid (fun w => Class_any n w)
  have H2 := Lib.hid (fun w => rClass_any n w)
  have H3 := Lib.hid (fun w => Ok_any n w)
  have H4 := Lib.hid (fun w => Null_any n w)
  have H5 := Lib.hid (fun w => rNull_any n w)
  have H6 := Lib.hid (fun w => Redirect_any n w)
  have H7 := Lib.hid (fun w => rRedirect_any n w)
  have H8 := Lib.hid (fun w => Partial_any n w)
  have H9 := Lib.hid (fun (w1 : World) (h : Below w.heap.size w w1) => Word_any n c hc w1 (hT.on h))
  have H10 := Lib.hid (fun w => rWord_any n c hc9 hc w)
  rw [hundB_ok] at H3
  clear hc hc9 hT
  generalize hundB n = hn at *
  generalize hasI nulls n = q1 at *
  generalize hasI redirs n = q2 at *
  generalize wordW c = W1 at *
  go_enter Tryd.func3, Tryd.ntmps3
  have hb := Below.refl w.heap.size w
  by_cases h1 : 200 ≤ n
  · by_cases h2 : n < 300
    · rw [decide_eq_true h1, decide_eq_true h2] at H3
      go_wp2_with (first | (go_at_call 6; (with_reducible refine (H1.out _).mono ?_); rintro e w' ⟨rfl, rfl⟩) | (go_at_call 7; (with_reducible refine (H2.out _).mono ?_); rintro e w' ⟨rfl, rfl⟩) | (go_at_call 8; (with_reducible refine (H3.out _).mono ?_); rintro e w' ⟨rfl, rfl⟩) | (go_at_call 9; (with_reducible refine (H4.out _).mono ?_); rintro e w' ⟨rfl, hb2⟩; replace hb := below_trans hb hb2; clear hb2) | (go_at_call 10; (with_reducible refine (H5.out _).mono ?_); rintro e w' ⟨rfl, hb2⟩; replace hb := below_trans hb hb2; clear hb2) | (go_at_call 11; (with_reducible refine (H6.out _).mono ?_); rintro e w' ⟨rfl, hb2⟩; replace hb := below_trans hb hb2; clear hb2) | (go_at_call 12; (with_reducible refine (H7.out _).mono ?_); rintro e w' ⟨rfl, hb2⟩; replace hb := below_trans hb hb2; clear hb2) | (go_at_call 13; (with_reducible refine (H8.out _).mono ?_); rintro e w' ⟨rfl, rfl⟩) | (go_at_call 14; (with_reducible refine (H9.out _ hb).mono ?_); rintro e w' ⟨rfl, hb2⟩; replace hb := below_trans hb hb2; clear hb2) | (go_at_call 15; (with_reducible refine (H10.out _).mono ?_); rintro e w' ⟨rfl, hb2⟩; replace hb := below_trans hb hb2; clear hb2) | (go_at_call 16; (with_reducible refine (lives25_any _).mono ?_); rintro e w' ⟨rfl, hb2⟩; replace hb := below_trans hb hb2; clear hb2))
      go_ret
      exact ⟨rfl, hb⟩
    · rw [decide_eq_true h1, decide_eq_false h2] at H3
      have hd2 : decide (n < 300) = false := decide_eq_false h2
      go_wp2_with (first | (go_at_call 6; (with_reducible refine (H1.out _).mono ?_); rintro e w' ⟨rfl, rfl⟩) | (go_at_call 7; (with_reducible refine (H2.out _).mono ?_); rintro e w' ⟨rfl, rfl⟩) | (go_at_call 8; (with_reducible refine (H3.out _).mono ?_); rintro e w' ⟨rfl, rfl⟩) | (go_at_call 9; (with_reducible refine (H4.out _).mono ?_); rintro e w' ⟨rfl, hb2⟩; replace hb := below_trans hb hb2; clear hb2) | (go_at_call 10; (with_reducible refine (H5.out _).mono ?_); rintro e w' ⟨rfl, hb2⟩; replace hb := below_trans hb hb2; clear hb2) | (go_at_call 11; (with_reducible refine (H6.out _).mono ?_); rintro e w' ⟨rfl, hb2⟩; replace hb := below_trans hb hb2; clear hb2) | (go_at_call 12; (with_reducible refine (H7.out _).mono ?_); rintro e w' ⟨rfl, hb2⟩; replace hb := below_trans hb hb2; clear hb2) | (go_at_call 13; (with_reducible refine (H8.out _).mono ?_); rintro e w' ⟨rfl, rfl⟩) | (go_at_call 14; (with_reducible refine (H9.out _ hb).mono ?_); rintro e w' ⟨rfl, hb2⟩; replace hb := below_trans hb hb2; clear hb2) | (go_at_call 15; (with_reducible refine (H10.out _).mono ?_); rintro e w' ⟨rfl, hb2⟩; replace hb := below_trans hb hb2; clear hb2) | (go_at_call 16; (with_reducible refine (lives25_any _).mono ?_); rintro e w' ⟨rfl, hb2⟩; replace hb := below_trans hb hb2; clear hb2))
      go_ret
      exact ⟨rfl, hb⟩
  · rw [decide_eq_false h1, Bool.false_and] at H3
    go_wp2_with (first | (go_at_call 6; (with_reducible refine (H1.out _).mono ?_); rintro e w' ⟨rfl, rfl⟩) | (go_at_call 7; (with_reducible refine (H2.out _).mono ?_); rintro e w' ⟨rfl, rfl⟩) | (go_at_call 8; (with_reducible refine (H3.out _).mono ?_); rintro e w' ⟨rfl, rfl⟩) | (go_at_call 9; (with_reducible refine (H4.out _).mono ?_); rintro e w' ⟨rfl, hb2⟩; replace hb := below_trans hb hb2; clear hb2) | (go_at_call 10; (with_reducible refine (H5.out _).mono ?_); rintro e w' ⟨rfl, hb2⟩; replace hb := below_trans hb hb2; clear hb2) | (go_at_call 11; (with_reducible refine (H6.out _).mono ?_); rintro e w' ⟨rfl, hb2⟩; replace hb := below_trans hb hb2; clear hb2) | (go_at_call 12; (with_reducible refine (H7.out _).mono ?_); rintro e w' ⟨rfl, hb2⟩; replace hb := below_trans hb hb2; clear hb2) | (go_at_call 13; (with_reducible refine (H8.out _).mono ?_); rintro e w' ⟨rfl, rfl⟩) | (go_at_call 14; (with_reducible refine (H9.out _ hb).mono ?_); rintro e w' ⟨rfl, hb2⟩; replace hb := below_trans hb hb2; clear hb2) | (go_at_call 15; (with_reducible refine (H10.out _).mono ?_); rintro e w' ⟨rfl, hb2⟩; replace hb := below_trans hb hb2; clear hb2) | (go_at_call 16; (with_reducible refine (lives25_any _).mono ?_); rintro e w' ⟨rfl, hb2⟩; replace hb := below_trans hb hb2; clear hb2))
    go_ret
    exact ⟨rfl, hb⟩

end Go.Proofs.YtjlemghmpnkncaaDoor
