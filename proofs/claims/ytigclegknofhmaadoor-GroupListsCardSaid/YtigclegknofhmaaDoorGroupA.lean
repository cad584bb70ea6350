/-
  Walks of package group: whether a type stands in a list; the table of white space.
-/
import Derived.Test.YtigclegknofhmaaDoorGroupF
import Derived.Test.YtigclegknofhmaaDoorShelf
namespace Go.Proofs.YtigclegknofhmaaDoor
open Go.RowKit
set_option linter.unusedSimpArgs false
set_option linter.unusedVariables false

/-- The library's table of white space. -/
def Tab (w : World) : Prop := Lib.TabIs Tryd.prog w "strings.asciiSpace" .u8 Lib.asciiSpaceTab

theorem tab_var : Tryd.prog.globalNamed "strings.asciiSpace" = some 0 := by kernel_rfl

theorem Tab.lt {w : World} (h : Tab w) : 0 < w.heap.size := by
  have hc := World.var?_cell tab_var h 0
  rw [Array.getElem?_eq_getElem (by simp [Lib.asciiSpaceTab])] at hc
  exact lt_of_cell hc

theorem Tab.on {w w' : World} (h : Tab w) (hb : Below w.heap.size w w') : Tab w' :=
  var?_below hb tab_var h.lt h

/-- A text of bytes below 128, which is not long. -/
def Asc (s : ByteArray) : Prop := s.size < 1000 ∧ ∀ (j : Nat) b, s.data.toList[j]? = some b → b.toNat < 128

def underB (t u kind subs : ByteArray) : Bool := decide (t = kind) && Lib.containsS ((Lib.fields subs.data.toList).map fun l => (⟨l.toArray⟩ : ByteArray)) u

theorem fields_len (s : ByteArray) : (Lib.fields s.data.toList).length ≤ s.size := by
  have h1 : ∀ (l cur : List UInt8), (Lib.fieldsGo cur l).length ≤ l.length + (if cur.isEmpty then 0 else 1) := by
    intro l
    induction l with
    | nil => intro cur; cases cur <;> simp [Lib.fieldsGo]
    | cons b r ih =>
      intro cur
      unfold Lib.fieldsGo
      split
      · split
        · have := ih []
          simp at this
          simp; omega
        · have := ih []
          simp at this
          simp; omega
      · have := ih (cur ++ [b])
        simp at this
        simp
        split <;> omega
  have := h1 s.data.toList []
  simp only [Lib.fields, List.isEmpty_nil, if_true] at this ⊢
  rw [Lib.size_eq]; omega

theorem under_calls (u subs : ByteArray) (w : World) (hT : Tab w) (hS : Asc subs) :
    Calls Tryd.prog 55 #[.string subs] w fun e w' => ∃ n, e = .returned (.slice (some ⟨w.heap.size, 0, none⟩) n n) ∧ Below w.heap.size w w' ∧
      ∀ w2, Below w'.heap.size w' w2 → Calls Tryd.prog 54 #[.slice (some ⟨w.heap.size, 0, none⟩) n n, .string u] w2 fun e w3 => e = .returned (.bool (Lib.containsS ((Lib.fields subs.data.toList).map fun l => (⟨l.toArray⟩ : ByteArray)) u)) ∧ w3 = w2 := by
  refine (Tryd.strings_Fields subs w (by have := hS.1; omega) hS.2 hT).mono ?_
  rintro e w' ⟨rfl, rfl⟩
  refine ⟨_, rfl, below_box _ _, fun w2 hb => ?_⟩
  have hl := fields_len subs
  have := hS.1
  have hc : ∀ j, j < ((Lib.fields subs.data.toList).map fun l => (⟨l.toArray⟩ : ByteArray)).length → w2.cell? ⟨w.heap.size, 0 + j, none⟩ = some (.string (((Lib.fields subs.data.toList).map fun l => (⟨l.toArray⟩ : ByteArray)).getD j ByteArray.empty)) := by
    intro j hj
    rw [cell_below hb (by simp), cell_of_row _ _ _ _ _ (0, 0) (heap_alloc_new w _)]
    simp at hj
    simp [hj]
  have h := Tryd.slices_Contains_string w.heap.size 0 (Lib.fields subs.data.toList).length (Lib.fields subs.data.toList).length ((Lib.fields subs.data.toList).map fun l => (⟨l.toArray⟩ : ByteArray)) u w2 (by simp) (by omega) hc
  rw [List.take_of_length_le (by simp)] at h
  exact h

set_option maxHeartbeats 1000000 in
theorem under_any (t u kind subs : ByteArray) (A : Option Addr) (n c : Nat) (w : World) (hT : Tab w) (hS : Asc subs) :
    Calls Tryd.prog 43 #[.agg #[.string t, .string u, .slice A n c], .string kind, .string subs] w fun e w' => e = .returned (.bool (underB t u kind subs)) ∧ Below w.heap.size w w' := by
  have HF := Lib.hid (fun (w1 : World) (hb : Below w.heap.size w w1) => under_calls u subs w1 (hT.on hb) hS)
  clear hT hS
  unfold underB
  generalize Lib.containsS ((Lib.fields subs.data.toList).map fun l => (⟨l.toArray⟩ : ByteArray)) u = R at *
  go_enter Tryd.func43, Tryd.ntmps43
  go_upto_region 1 with fail
  have HB : Hid (Below w.heap.size w (w.alloc (.cells #[.string t, .string u, .slice A n c] 24))) := Lib.hid (below_box _ _)
  have d0 : (w.alloc (.cells #[.string t, .string u, .slice A n c] 24)).cell? ⟨w.heap.size, 0, none⟩ = some (.string t) := by simp [go_sem]
  have d1 : (w.alloc (.cells #[.string t, .string u, .slice A n c] 24)).cell? ⟨w.heap.size, 1, none⟩ = some (.string u) := by simp [go_sem]
  have hz : w.heap.size < (w.alloc (.cells #[.string t, .string u, .slice A n c] 24)).heap.size := by simp
  generalize w.alloc (.cells #[.string t, .string u, .slice A n c] 24) = W at *
  have hbd : Below w.heap.size w W.drew := HB.out.drew
  by_cases hk : t = kind
  · subst hk
    refine wp_region_N 12 (fun w' => w'.cell? ⟨w.heap.size, 0, none⟩ = some (.string t) ∧ w'.cell? ⟨w.heap.size, 1, none⟩ = some (.string u)) (by kernel_rfl) (by kernel_rfl) ⟨d0, d1⟩ ?_
    (refine NJ.take (i := 0) (v := ?_) rfl rfl (by kernel_rfl) (by kernel_rfl) (by kernel_rfl) (by kernel_rfl) (fun _ _ _ h => h) (Or.inl ⟨by rfl, ?_⟩) ?_; rotate_left; (focus (intro wS hSw; (try dsimp only at hSw); go_simp; first | done | with_reducible rfl)); (try simp only [Act.put, List.getElem_toArray, List.getElem_cons_zero, List.getElem_cons_succ, List.setIfInBounds_toArray, List.set_cons_zero, List.set_cons_succ]))
    (refine NJ.take (i := 1) (v := ?_) rfl rfl (by kernel_rfl) (by kernel_rfl) (by kernel_rfl) (by kernel_rfl) (fun _ _ _ h => h) (Or.inl ⟨by rfl, ?_⟩) ?_; rotate_left; (focus (intro wS hSw; (try dsimp only at hSw); go_simp; first | done | with_reducible rfl)); (try simp only [Act.put, List.getElem_toArray, List.getElem_cons_zero, List.getElem_cons_succ, List.setIfInBounds_toArray, List.set_cons_zero, List.set_cons_succ]))
    (refine NJ.take (i := 2) (v := ?_) rfl rfl (by kernel_rfl) (by kernel_rfl) (by kernel_rfl) (by kernel_rfl) (fun _ _ _ h => h) (Or.inl ⟨by rfl, ?_⟩) ?_; rotate_left; (focus (intro wS hSw; (try dsimp only at hSw); go_simp; first | done | with_reducible rfl)); (try simp only [Act.put, List.getElem_toArray, List.getElem_cons_zero, List.getElem_cons_succ, List.setIfInBounds_toArray, List.set_cons_zero, List.set_cons_succ]))
    (refine NJ.take (i := 3) (v := ?_) rfl rfl (by kernel_rfl) (by kernel_rfl) (by kernel_rfl) (by kernel_rfl) (fun _ _ _ h => h) (Or.inl ⟨by rfl, ?_⟩) ?_; rotate_left; (focus (intro wS hSw; (try dsimp only at hSw); go_simp; first | done | with_reducible rfl)); (try simp only [Act.put, List.getElem_toArray, List.getElem_cons_zero, List.getElem_cons_succ, List.setIfInBounds_toArray, List.set_cons_zero, List.set_cons_succ]))
    (refine NJ.take (i := 4) (v := ?_) rfl rfl (by kernel_rfl) (by kernel_rfl) (by kernel_rfl) (by kernel_rfl) (fun _ _ _ h => h) (Or.inl ⟨by rfl, ?_⟩) ?_; rotate_left; (focus (intro wS hSw; (try dsimp only at hSw); go_simp; first | done | with_reducible rfl)); (try simp only [Act.put, List.getElem_toArray, List.getElem_cons_zero, List.getElem_cons_succ, List.setIfInBounds_toArray, List.set_cons_zero, List.set_cons_succ]))
    (refine NJ.take (i := 5) (v := ?_) rfl rfl (by kernel_rfl) (by kernel_rfl) (by kernel_rfl) (by kernel_rfl) (fun _ _ _ h => h) (Or.inl ⟨by rfl, ?_⟩) ?_; rotate_left; (focus (intro wS hSw; (try dsimp only at hSw); go_simp; first | done | with_reducible rfl)); (try simp only [Act.put, List.getElem_toArray, List.getElem_cons_zero, List.getElem_cons_succ, List.setIfInBounds_toArray, List.set_cons_zero, List.set_cons_succ]))
    (refine NJ.take (i := 7) (v := ?_) rfl rfl (by kernel_rfl) (by kernel_rfl) (by kernel_rfl) (by kernel_rfl) (fun _ _ _ h => h) (Or.inl ⟨by rfl, ?_⟩) ?_; rotate_left; (focus (intro wS hSw; (try dsimp only at hSw); go_simp; first | done | with_reducible rfl)); (try simp only [Act.put, List.getElem_toArray, List.getElem_cons_zero, List.getElem_cons_succ, List.setIfInBounds_toArray, List.set_cons_zero, List.set_cons_succ]))
    (refine NJ.take (i := 8) (v := ?_) rfl rfl (by kernel_rfl) (by kernel_rfl) (by kernel_rfl) (by kernel_rfl) (fun _ _ _ h => h) (Or.inl ⟨by rfl, ?_⟩) ?_; rotate_left; (focus (intro wS hSw; (try dsimp only at hSw); go_simp; first | done | with_reducible rfl)); (try simp only [Act.put, List.getElem_toArray, List.getElem_cons_zero, List.getElem_cons_succ, List.setIfInBounds_toArray, List.set_cons_zero, List.set_cons_succ]))
    refine NJ.step (i := 6) rfl rfl (by kernel_rfl) (fun hSat K hK => ?_)
    go_simp
    refine Calls.mono (HF.out _ hbd) ?_
    rintro e w1 ⟨m, rfl, hb1, hC⟩
    go_wp2_with fail
    refine hK.out _ _ ⟨by rw [cell_below hb1 (by simpa using hz)]; exact hSat.1, by rw [cell_below hb1 (by simpa using hz)]; exact hSat.2⟩ ?_
    clear hK hSat K
    (try simp only [Act.put, List.getElem_toArray, List.getElem_cons_zero, List.getElem_cons_succ, List.setIfInBounds_toArray, List.set_cons_zero, List.set_cons_succ])
    refine NJ.step (i := 9) rfl rfl (by kernel_rfl) (fun hSat K hK => ?_)
    go_simp
    refine Calls.mono (hC _ (Below.refl _ _)) ?_
    rintro e w2 ⟨rfl, rfl⟩
    go_wp2_with fail
    refine hK.out _ _ hSat ?_
    clear hK hSat K
    (try simp only [Act.put, List.getElem_toArray, List.getElem_cons_zero, List.getElem_cons_succ, List.setIfInBounds_toArray, List.set_cons_zero, List.set_cons_succ])
    (refine NJ.take (i := 10) (v := ?_) rfl rfl (by kernel_rfl) (by kernel_rfl) (by kernel_rfl) (by kernel_rfl) (fun _ _ _ h => h) (Or.inl ⟨by rfl, ?_⟩) ?_; rotate_left; (focus (intro wS hSw; (try dsimp only at hSw); go_simp; first | done | with_reducible rfl)); (try simp only [Act.put, List.getElem_toArray, List.getElem_cons_zero, List.getElem_cons_succ, List.setIfInBounds_toArray, List.set_cons_zero, List.set_cons_succ]))
    (refine NJ.take (i := 11) (v := ?_) rfl rfl (by kernel_rfl) (by kernel_rfl) (by kernel_rfl) (by kernel_rfl) (fun _ _ _ h => h) (Or.inl ⟨by rfl, ?_⟩) ?_; rotate_left; (focus (intro wS hSw; (try dsimp only at hSw); go_simp; first | done | with_reducible rfl)); (try simp only [Act.put, List.getElem_toArray, List.getElem_cons_zero, List.getElem_cons_succ, List.setIfInBounds_toArray, List.set_cons_zero, List.set_cons_succ]))
    refine NJ.done (by kernel_rfl) (fun hSat => ?_)
    clear hSat
    have hbe := below_trans hbd hb1
    go_wp2_with fail
    go_ret
    exact ⟨by simp, hbe⟩
  · have hq : (t.toList == kind.toList) = false := by
      rw [Lib.toList_data, Lib.toList_data]
      simp only [beq_eq_false_iff_ne, ne_eq]
      exact fun h => hk (bytes_ext h)
    refine wp_region_N 12 (fun w' => w'.cell? ⟨w.heap.size, 0, none⟩ = some (.string t) ∧ w'.cell? ⟨w.heap.size, 1, none⟩ = some (.string u)) (by kernel_rfl) (by kernel_rfl) ⟨d0, d1⟩ ?_
    (refine NJ.take (i := 0) (v := ?_) rfl rfl (by kernel_rfl) (by kernel_rfl) (by kernel_rfl) (by kernel_rfl) (fun _ _ _ h => h) (Or.inl ⟨by rfl, ?_⟩) ?_; rotate_left; (focus (intro wS hSw; (try dsimp only at hSw); go_simp; first | done | with_reducible rfl)); (try simp only [Act.put, List.getElem_toArray, List.getElem_cons_zero, List.getElem_cons_succ, List.setIfInBounds_toArray, List.set_cons_zero, List.set_cons_succ]))
    (refine NJ.take (i := 1) (v := ?_) rfl rfl (by kernel_rfl) (by kernel_rfl) (by kernel_rfl) (by kernel_rfl) (fun _ _ _ h => h) (Or.inl ⟨by rfl, ?_⟩) ?_; rotate_left; (focus (intro wS hSw; (try dsimp only at hSw); go_simp; first | done | with_reducible rfl)); (try simp only [Act.put, List.getElem_toArray, List.getElem_cons_zero, List.getElem_cons_succ, List.setIfInBounds_toArray, List.set_cons_zero, List.set_cons_succ]))
    (refine NJ.take (i := 2) (v := ?_) rfl rfl (by kernel_rfl) (by kernel_rfl) (by kernel_rfl) (by kernel_rfl) (fun _ _ _ h => h) (Or.inl ⟨by rfl, ?_⟩) ?_; rotate_left; (focus (intro wS hSw; (try dsimp only at hSw); go_simp; first | done | with_reducible rfl)); (try simp only [Act.put, List.getElem_toArray, List.getElem_cons_zero, List.getElem_cons_succ, List.setIfInBounds_toArray, List.set_cons_zero, List.set_cons_succ]))
    (refine NJ.take (i := 3) (v := ?_) rfl rfl (by kernel_rfl) (by kernel_rfl) (by kernel_rfl) (by kernel_rfl) (fun _ _ _ h => h) (Or.inl ⟨by rfl, ?_⟩) ?_; rotate_left; (focus (intro wS hSw; (try dsimp only at hSw); go_simp; first | done | with_reducible rfl)); (try simp only [Act.put, List.getElem_toArray, List.getElem_cons_zero, List.getElem_cons_succ, List.setIfInBounds_toArray, List.set_cons_zero, List.set_cons_succ]))
    (refine NJ.take (i := 4) (v := ?_) rfl rfl (by kernel_rfl) (by kernel_rfl) (by kernel_rfl) (by kernel_rfl) (fun _ _ _ h => h) (Or.inl ⟨by rfl, ?_⟩) ?_; rotate_left; (focus (intro wS hSw; (try dsimp only at hSw); go_simp; first | done | with_reducible rfl)); (try simp only [Act.put, List.getElem_toArray, List.getElem_cons_zero, List.getElem_cons_succ, List.setIfInBounds_toArray, List.set_cons_zero, List.set_cons_succ]))
    (refine NJ.take (i := 5) (v := undef) rfl rfl (by kernel_rfl) (by kernel_rfl) (by kernel_rfl) (by kernel_rfl) (fun _ _ _ h => h) (Or.inr ⟨by rfl, rfl⟩) ?_; (try simp only [Act.put, List.getElem_toArray, List.getElem_cons_zero, List.getElem_cons_succ, List.setIfInBounds_toArray, List.set_cons_zero, List.set_cons_succ]))
    (refine NJ.take (i := 6) (v := undef) rfl rfl (by kernel_rfl) (by kernel_rfl) (by kernel_rfl) (by kernel_rfl) (fun _ _ _ h => h) (Or.inr ⟨by rfl, rfl⟩) ?_; (try simp only [Act.put, List.getElem_toArray, List.getElem_cons_zero, List.getElem_cons_succ, List.setIfInBounds_toArray, List.set_cons_zero, List.set_cons_succ]))
    (refine NJ.take (i := 7) (v := undef) rfl rfl (by kernel_rfl) (by kernel_rfl) (by kernel_rfl) (by kernel_rfl) (fun _ _ _ h => h) (Or.inr ⟨by rfl, rfl⟩) ?_; (try simp only [Act.put, List.getElem_toArray, List.getElem_cons_zero, List.getElem_cons_succ, List.setIfInBounds_toArray, List.set_cons_zero, List.set_cons_succ]))
    (refine NJ.take (i := 8) (v := undef) rfl rfl (by kernel_rfl) (by kernel_rfl) (by kernel_rfl) (by kernel_rfl) (fun _ _ _ h => h) (Or.inr ⟨by rfl, rfl⟩) ?_; (try simp only [Act.put, List.getElem_toArray, List.getElem_cons_zero, List.getElem_cons_succ, List.setIfInBounds_toArray, List.set_cons_zero, List.set_cons_succ]))
    (refine NJ.take (i := 9) (v := undef) rfl rfl (by kernel_rfl) (by kernel_rfl) (by kernel_rfl) (by kernel_rfl) (fun _ _ _ h => h) (Or.inr ⟨by rfl, rfl⟩) ?_; (try simp only [Act.put, List.getElem_toArray, List.getElem_cons_zero, List.getElem_cons_succ, List.setIfInBounds_toArray, List.set_cons_zero, List.set_cons_succ]))
    (refine NJ.take (i := 10) (v := ?_) rfl rfl (by kernel_rfl) (by kernel_rfl) (by kernel_rfl) (by kernel_rfl) (fun _ _ _ h => h) (Or.inl ⟨by rfl, ?_⟩) ?_; rotate_left; (focus (intro wS hSw; (try dsimp only at hSw); go_simp; first | done | with_reducible rfl)); (try simp only [Act.put, List.getElem_toArray, List.getElem_cons_zero, List.getElem_cons_succ, List.setIfInBounds_toArray, List.set_cons_zero, List.set_cons_succ]))
    (refine NJ.take (i := 11) (v := ?_) rfl rfl (by kernel_rfl) (by kernel_rfl) (by kernel_rfl) (by kernel_rfl) (fun _ _ _ h => h) (Or.inl ⟨by rfl, ?_⟩) ?_; rotate_left; (focus (intro wS hSw; (try dsimp only at hSw); go_simp; first | done | with_reducible rfl)); (try simp only [Act.put, List.getElem_toArray, List.getElem_cons_zero, List.getElem_cons_succ, List.setIfInBounds_toArray, List.set_cons_zero, List.set_cons_succ]))
    refine NJ.done (by kernel_rfl) (fun hSat => ?_)
    clear hSat
    go_wp2_with fail
    go_ret
    exact ⟨by simp [hk], hbd⟩

end Go.Proofs.YtigclegknofhmaaDoor
