/-
  Lemmas of this claim, part 18: the texts GroupA, GroupB, one behind the other.
-/
import Derived.Test.YtcbhkcdphbffpaaGreatDoorM17
import Derived.Test.YtcbhkcdphbffpaaGreatDoorShelf

namespace Go.Proofs.YtcbhkcdphbffpaaGreatDoor
open Go.RowKit
set_option linter.unusedSimpArgs false
set_option linter.unusedVariables false

/-- The library's table of white space. -/
def Tab (w : World) : Prop := Lib.TabIs Tryz.prog w "strings.asciiSpace" .u8 Lib.asciiSpaceTab

theorem tab_var : Tryz.prog.globalNamed "strings.asciiSpace" = some 0 := by kernel_rfl

theorem Tab.lt {w : World} (h : Tab w) : 0 < w.heap.size := by
  have hc := World.var?_cell tab_var h 0
  rw [Array.getElem?_eq_getElem (by simp [Lib.asciiSpaceTab])] at hc
  exact lt_of_cell hc

theorem Tab.on {w w' : World} (h : Tab w) (hb : Below w.heap.size w w') : Tab w' :=
  var?_below hb tab_var h.lt h

/-- A text of bytes below 128, which is not long. -/
def Asc (s : ByteArray) : Prop := s.size < 1100 ∧ ∀ (j : Nat) b, s.data.toList[j]? = some b → b.toNat < 128

def underB (t u kind subs : ByteArray) : Bool := decide (t = kind) && Lib.containsS ((Lib.fields subs.data.toList).map fun l => (⟨l.toArray⟩ : ByteArray)) u

theorem fields_len (s : ByteArray) : (Lib.fields s.data.toList).length ≤ s.size := by
  have h1 : ∀ (l cur : List UInt8), (Lib.fieldsGo cur l).length ≤ l.length + (if cur.isEmpty then 0 else 1) := by
    intro l
    induction l with
    | nil => intro cur; cases cur <;> simp [Lib.fieldsGo]
    | cons b r ih =>
      intro cur
      unfold Lib.fieldsGo
      split
      · split
        · have := ih []
          simp at this
          simp; omega
        · have := ih []
          simp at this
          simp; omega
      · have := ih (cur ++ [b])
        simp at this
        simp
        split <;> omega
  have := h1 s.data.toList []
  simp only [Lib.fields, List.isEmpty_nil, if_true] at this ⊢
  rw [Lib.size_eq]; omega

theorem under_calls (u subs : ByteArray) (w : World) (hT : Tab w) (hS : Asc subs) :
    Calls Tryz.prog 44 #[.string subs] w fun e w' => ∃ n, e = .returned (.slice (some ⟨w.heap.size, 0, none⟩) n n) ∧ Below w.heap.size w w' ∧
      ∀ w2, Below w'.heap.size w' w2 → Calls Tryz.prog 74 #[.slice (some ⟨w.heap.size, 0, none⟩) n n, .string u] w2 fun e w3 => e = .returned (.bool (Lib.containsS ((Lib.fields subs.data.toList).map fun l => (⟨l.toArray⟩ : ByteArray)) u)) ∧ w3 = w2 := by
  refine (Tryz.strings_Fields subs w (by have := hS.1; omega) hS.2 hT).mono ?_
  rintro e w' ⟨rfl, rfl⟩
  refine ⟨_, rfl, below_box _ _, fun w2 hb => ?_⟩
  have hl := fields_len subs
  have := hS.1
  have hc : ∀ j, j < ((Lib.fields subs.data.toList).map fun l => (⟨l.toArray⟩ : ByteArray)).length → w2.cell? ⟨w.heap.size, 0 + j, none⟩ = some (.string (((Lib.fields subs.data.toList).map fun l => (⟨l.toArray⟩ : ByteArray)).getD j ByteArray.empty)) := by
    intro j hj
    rw [cell_below hb (by simp), cell_of_row _ _ _ _ _ (0, 0) (heap_alloc_new w _)]
    simp at hj
    simp [hj]
  have h := Tryz.slices_Contains_string w.heap.size 0 (Lib.fields subs.data.toList).length (Lib.fields subs.data.toList).length ((Lib.fields subs.data.toList).map fun l => (⟨l.toArray⟩ : ByteArray)) u w2 (by simp) (by omega) hc
  rw [List.take_of_length_le (by simp)] at h
  exact h

set_option maxHeartbeats 1000000 in
theorem under_any (t u kind subs : ByteArray) (A : Option Addr) (n c : Nat) (w : World) (hT : Tab w) (hS : Asc subs) :
    Calls Tryz.prog 50 #[.agg #[.string t, .string u, .slice A n c], .string kind, .string subs] w fun e w' => e = .returned (.bool (underB t u kind subs)) ∧ Below w.heap.size w w' := by
  have HF := Lib.hid (fun (w1 : World) (hb : Below w.heap.size w w1) => under_calls u subs w1 (hT.on hb) hS)
  clear hT hS
  unfold underB
  generalize Lib.containsS ((Lib.fields subs.data.toList).map fun l => (⟨l.toArray⟩ : ByteArray)) u = R at *
  go_enter Tryz.func50, Tryz.ntmps50
  go_upto_region 1 with fail
  have HB : Hid (Below w.heap.size w (w.alloc (.cells #[.string t, .string u, .slice A n c] 36))) := Lib.hid (below_box _ _)
  have d0 : (w.alloc (.cells #[.string t, .string u, .slice A n c] 36)).cell? ⟨w.heap.size, 0, none⟩ = some (.string t) := by simp [go_sem]
  have d1 : (w.alloc (.cells #[.string t, .string u, .slice A n c] 36)).cell? ⟨w.heap.size, 1, none⟩ = some (.string u) := by simp [go_sem]
  have hz : w.heap.size < (w.alloc (.cells #[.string t, .string u, .slice A n c] 36)).heap.size := by simp
  generalize w.alloc (.cells #[.string t, .string u, .slice A n c] 36) = W at *
  have hbd : Below w.heap.size w W.drew := HB.out.drew
  by_cases hk : t = kind
  · subst hk
    refine wp_region_N 12 (fun w' => w'.cell? ⟨w.heap.size, 0, none⟩ = some (.string t) ∧ w'.cell? ⟨w.heap.size, 1, none⟩ = some (.string u)) (by kernel_rfl) (by kernel_rfl) ⟨d0, d1⟩ ?_
    (refine NJ.take (i := 0) (v := ?_) rfl rfl (by kernel_rfl) (by kernel_rfl) (by kernel_rfl) (by kernel_rfl) (fun _ _ _ h => h) (Or.inl ⟨by rfl, ?_⟩) ?_; rotate_left; (focus (intro wS hSw; (try dsimp only at hSw); go_simp; first | done | with_reducible rfl)); (try simp only [Act.put, List.getElem_toArray, List.getElem_cons_zero, List.getElem_cons_succ, List.setIfInBounds_toArray, List.set_cons_zero, List.set_cons_succ]))
    (refine NJ.take (i := 1) (v := ?_) rfl rfl (by kernel_rfl) (by kernel_rfl) (by kernel_rfl) (by kernel_rfl) (fun _ _ _ h => h) (Or.inl ⟨by rfl, ?_⟩) ?_; rotate_left; (focus (intro wS hSw; (try dsimp only at hSw); go_simp; first | done | with_reducible rfl)); (try simp only [Act.put, List.getElem_toArray, List.getElem_cons_zero, List.getElem_cons_succ, List.setIfInBounds_toArray, List.set_cons_zero, List.set_cons_succ]))
    (refine NJ.take (i := 2) (v := ?_) rfl rfl (by kernel_rfl) (by kernel_rfl) (by kernel_rfl) (by kernel_rfl) (fun _ _ _ h => h) (Or.inl ⟨by rfl, ?_⟩) ?_; rotate_left; (focus (intro wS hSw; (try dsimp only at hSw); go_simp; first | done | with_reducible rfl)); (try simp only [Act.put, List.getElem_toArray, List.getElem_cons_zero, List.getElem_cons_succ, List.setIfInBounds_toArray, List.set_cons_zero, List.set_cons_succ]))
    (refine NJ.take (i := 3) (v := ?_) rfl rfl (by kernel_rfl) (by kernel_rfl) (by kernel_rfl) (by kernel_rfl) (fun _ _ _ h => h) (Or.inl ⟨by rfl, ?_⟩) ?_; rotate_left; (focus (intro wS hSw; (try dsimp only at hSw); go_simp; first | done | with_reducible rfl)); (try simp only [Act.put, List.getElem_toArray, List.getElem_cons_zero, List.getElem_cons_succ, List.setIfInBounds_toArray, List.set_cons_zero, List.set_cons_succ]))
    (refine NJ.take (i := 4) (v := ?_) rfl rfl (by kernel_rfl) (by kernel_rfl) (by kernel_rfl) (by kernel_rfl) (fun _ _ _ h => h) (Or.inl ⟨by rfl, ?_⟩) ?_; rotate_left; (focus (intro wS hSw; (try dsimp only at hSw); go_simp; first | done | with_reducible rfl)); (try simp only [Act.put, List.getElem_toArray, List.getElem_cons_zero, List.getElem_cons_succ, List.setIfInBounds_toArray, List.set_cons_zero, List.set_cons_succ]))
    (refine NJ.take (i := 5) (v := ?_) rfl rfl (by kernel_rfl) (by kernel_rfl) (by kernel_rfl) (by kernel_rfl) (fun _ _ _ h => h) (Or.inl ⟨by rfl, ?_⟩) ?_; rotate_left; (focus (intro wS hSw; (try dsimp only at hSw); go_simp; first | done | with_reducible rfl)); (try simp only [Act.put, List.getElem_toArray, List.getElem_cons_zero, List.getElem_cons_succ, List.setIfInBounds_toArray, List.set_cons_zero, List.set_cons_succ]))
    (refine NJ.take (i := 7) (v := ?_) rfl rfl (by kernel_rfl) (by kernel_rfl) (by kernel_rfl) (by kernel_rfl) (fun _ _ _ h => h) (Or.inl ⟨by rfl, ?_⟩) ?_; rotate_left; (focus (intro wS hSw; (try dsimp only at hSw); go_simp; first | done | with_reducible rfl)); (try simp only [Act.put, List.getElem_toArray, List.getElem_cons_zero, List.getElem_cons_succ, List.setIfInBounds_toArray, List.set_cons_zero, List.set_cons_succ]))
    (refine NJ.take (i := 8) (v := ?_) rfl rfl (by kernel_rfl) (by kernel_rfl) (by kernel_rfl) (by kernel_rfl) (fun _ _ _ h => h) (Or.inl ⟨by rfl, ?_⟩) ?_; rotate_left; (focus (intro wS hSw; (try dsimp only at hSw); go_simp; first | done | with_reducible rfl)); (try simp only [Act.put, List.getElem_toArray, List.getElem_cons_zero, List.getElem_cons_succ, List.setIfInBounds_toArray, List.set_cons_zero, List.set_cons_succ]))
    refine NJ.step (i := 6) rfl rfl (by kernel_rfl) (fun hSat K hK => ?_)
    go_simp
    refine Calls.mono (HF.out _ hbd) ?_
    rintro e w1 ⟨m, rfl, hb1, hC⟩
    go_wp2_with fail
    refine hK.out _ _ ⟨by rw [cell_below hb1 (by simpa using hz)]; exact hSat.1, by rw [cell_below hb1 (by simpa using hz)]; exact hSat.2⟩ ?_
    clear hK hSat K
    (try simp only [Act.put, List.getElem_toArray, List.getElem_cons_zero, List.getElem_cons_succ, List.setIfInBounds_toArray, List.set_cons_zero, List.set_cons_succ])
    refine NJ.step (i := 9) rfl rfl (by kernel_rfl) (fun hSat K hK => ?_)
    go_simp
    refine Calls.mono (hC _ (Below.refl _ _)) ?_
    rintro e w2 ⟨rfl, rfl⟩
    go_wp2_with fail
    refine hK.out _ _ hSat ?_
    clear hK hSat K
    (try simp only [Act.put, List.getElem_toArray, List.getElem_cons_zero, List.getElem_cons_succ, List.setIfInBounds_toArray, List.set_cons_zero, List.set_cons_succ])
    (refine NJ.take (i := 10) (v := ?_) rfl rfl (by kernel_rfl) (by kernel_rfl) (by kernel_rfl) (by kernel_rfl) (fun _ _ _ h => h) (Or.inl ⟨by rfl, ?_⟩) ?_; rotate_left; (focus (intro wS hSw; (try dsimp only at hSw); go_simp; first | done | with_reducible rfl)); (try simp only [Act.put, List.getElem_toArray, List.getElem_cons_zero, List.getElem_cons_succ, List.setIfInBounds_toArray, List.set_cons_zero, List.set_cons_succ]))
    (refine NJ.take (i := 11) (v := ?_) rfl rfl (by kernel_rfl) (by kernel_rfl) (by kernel_rfl) (by kernel_rfl) (fun _ _ _ h => h) (Or.inl ⟨by rfl, ?_⟩) ?_; rotate_left; (focus (intro wS hSw; (try dsimp only at hSw); go_simp; first | done | with_reducible rfl)); (try simp only [Act.put, List.getElem_toArray, List.getElem_cons_zero, List.getElem_cons_succ, List.setIfInBounds_toArray, List.set_cons_zero, List.set_cons_succ]))
    refine NJ.done (by kernel_rfl) (fun hSat => ?_)
    clear hSat
    have hbe := below_trans hbd hb1
    go_wp2_with fail
    go_ret
    exact ⟨by simp, hbe⟩
  · have hq : (t.toList == kind.toList) = false := by
      rw [Lib.toList_data, Lib.toList_data]
      simp only [beq_eq_false_iff_ne, ne_eq]
      exact fun h => hk (bytes_ext h)
    refine wp_region_N 12 (fun w' => w'.cell? ⟨w.heap.size, 0, none⟩ = some (.string t) ∧ w'.cell? ⟨w.heap.size, 1, none⟩ = some (.string u)) (by kernel_rfl) (by kernel_rfl) ⟨d0, d1⟩ ?_
    (refine NJ.take (i := 0) (v := ?_) rfl rfl (by kernel_rfl) (by kernel_rfl) (by kernel_rfl) (by kernel_rfl) (fun _ _ _ h => h) (Or.inl ⟨by rfl, ?_⟩) ?_; rotate_left; (focus (intro wS hSw; (try dsimp only at hSw); go_simp; first | done | with_reducible rfl)); (try simp only [Act.put, List.getElem_toArray, List.getElem_cons_zero, List.getElem_cons_succ, List.setIfInBounds_toArray, List.set_cons_zero, List.set_cons_succ]))
    (refine NJ.take (i := 1) (v := ?_) rfl rfl (by kernel_rfl) (by kernel_rfl) (by kernel_rfl) (by kernel_rfl) (fun _ _ _ h => h) (Or.inl ⟨by rfl, ?_⟩) ?_; rotate_left; (focus (intro wS hSw; (try dsimp only at hSw); go_simp; first | done | with_reducible rfl)); (try simp only [Act.put, List.getElem_toArray, List.getElem_cons_zero, List.getElem_cons_succ, List.setIfInBounds_toArray, List.set_cons_zero, List.set_cons_succ]))
    (refine NJ.take (i := 2) (v := ?_) rfl rfl (by kernel_rfl) (by kernel_rfl) (by kernel_rfl) (by kernel_rfl) (fun _ _ _ h => h) (Or.inl ⟨by rfl, ?_⟩) ?_; rotate_left; (focus (intro wS hSw; (try dsimp only at hSw); go_simp; first | done | with_reducible rfl)); (try simp only [Act.put, List.getElem_toArray, List.getElem_cons_zero, List.getElem_cons_succ, List.setIfInBounds_toArray, List.set_cons_zero, List.set_cons_succ]))
    (refine NJ.take (i := 3) (v := ?_) rfl rfl (by kernel_rfl) (by kernel_rfl) (by kernel_rfl) (by kernel_rfl) (fun _ _ _ h => h) (Or.inl ⟨by rfl, ?_⟩) ?_; rotate_left; (focus (intro wS hSw; (try dsimp only at hSw); go_simp; first | done | with_reducible rfl)); (try simp only [Act.put, List.getElem_toArray, List.getElem_cons_zero, List.getElem_cons_succ, List.setIfInBounds_toArray, List.set_cons_zero, List.set_cons_succ]))
    (refine NJ.take (i := 4) (v := ?_) rfl rfl (by kernel_rfl) (by kernel_rfl) (by kernel_rfl) (by kernel_rfl) (fun _ _ _ h => h) (Or.inl ⟨by rfl, ?_⟩) ?_; rotate_left; (focus (intro wS hSw; (try dsimp only at hSw); go_simp; first | done | with_reducible rfl)); (try simp only [Act.put, List.getElem_toArray, List.getElem_cons_zero, List.getElem_cons_succ, List.setIfInBounds_toArray, List.set_cons_zero, List.set_cons_succ]))
    (refine NJ.take (i := 5) (v := undef) rfl rfl (by kernel_rfl) (by kernel_rfl) (by kernel_rfl) (by kernel_rfl) (fun _ _ _ h => h) (Or.inr ⟨by rfl, rfl⟩) ?_; (try simp only [Act.put, List.getElem_toArray, List.getElem_cons_zero, List.getElem_cons_succ, List.setIfInBounds_toArray, List.set_cons_zero, List.set_cons_succ]))
    (refine NJ.take (i := 6) (v := undef) rfl rfl (by kernel_rfl) (by kernel_rfl) (by kernel_rfl) (by kernel_rfl) (fun _ _ _ h => h) (Or.inr ⟨by rfl, rfl⟩) ?_; (try simp only [Act.put, List.getElem_toArray, List.getElem_cons_zero, List.getElem_cons_succ, List.setIfInBounds_toArray, List.set_cons_zero, List.set_cons_succ]))
    (refine NJ.take (i := 7) (v := undef) rfl rfl (by kernel_rfl) (by kernel_rfl) (by kernel_rfl) (by kernel_rfl) (fun _ _ _ h => h) (Or.inr ⟨by rfl, rfl⟩) ?_; (try simp only [Act.put, List.getElem_toArray, List.getElem_cons_zero, List.getElem_cons_succ, List.setIfInBounds_toArray, List.set_cons_zero, List.set_cons_succ]))
    (refine NJ.take (i := 8) (v := undef) rfl rfl (by kernel_rfl) (by kernel_rfl) (by kernel_rfl) (by kernel_rfl) (fun _ _ _ h => h) (Or.inr ⟨by rfl, rfl⟩) ?_; (try simp only [Act.put, List.getElem_toArray, List.getElem_cons_zero, List.getElem_cons_succ, List.setIfInBounds_toArray, List.set_cons_zero, List.set_cons_succ]))
    (refine NJ.take (i := 9) (v := undef) rfl rfl (by kernel_rfl) (by kernel_rfl) (by kernel_rfl) (by kernel_rfl) (fun _ _ _ h => h) (Or.inr ⟨by rfl, rfl⟩) ?_; (try simp only [Act.put, List.getElem_toArray, List.getElem_cons_zero, List.getElem_cons_succ, List.setIfInBounds_toArray, List.set_cons_zero, List.set_cons_succ]))
    (refine NJ.take (i := 10) (v := ?_) rfl rfl (by kernel_rfl) (by kernel_rfl) (by kernel_rfl) (by kernel_rfl) (fun _ _ _ h => h) (Or.inl ⟨by rfl, ?_⟩) ?_; rotate_left; (focus (intro wS hSw; (try dsimp only at hSw); go_simp; first | done | with_reducible rfl)); (try simp only [Act.put, List.getElem_toArray, List.getElem_cons_zero, List.getElem_cons_succ, List.setIfInBounds_toArray, List.set_cons_zero, List.set_cons_succ]))
    (refine NJ.take (i := 11) (v := ?_) rfl rfl (by kernel_rfl) (by kernel_rfl) (by kernel_rfl) (by kernel_rfl) (fun _ _ _ h => h) (Or.inl ⟨by rfl, ?_⟩) ?_; rotate_left; (focus (intro wS hSw; (try dsimp only at hSw); go_simp; first | done | with_reducible rfl)); (try simp only [Act.put, List.getElem_toArray, List.getElem_cons_zero, List.getElem_cons_succ, List.setIfInBounds_toArray, List.set_cons_zero, List.set_cons_succ]))
    refine NJ.done (by kernel_rfl) (fun hSat => ?_)
    clear hSat
    go_wp2_with fail
    go_ret
    exact ⟨by simp [hk], hbd⟩

end Go.Proofs.YtcbhkcdphbffpaaGreatDoor

namespace Go.Proofs.YtcbhkcdphbffpaaGreatDoor
open Go.RowKit
set_option linter.unusedSimpArgs false
set_option linter.unusedVariables false

/-- A function that tells of a type by its two texts. -/
def Says (K : FuncId) (p : ByteArray → ByteArray → Bool) : Prop :=
  ∀ (t u : ByteArray) (A : Option Addr) (n c : Nat) (w : World), Tab w → t.size ≤ 1100 → u.size ≤ 1100 →
    Calls Tryz.prog K #[.agg #[.string t, .string u, .slice A n c]] w fun e w' => e = .returned (.bool (p t u)) ∧ Below w.heap.size w w'

theorem Says.at {K : FuncId} {p : ByteArray → ByteArray → Bool} (h : Says K p) {t u : ByteArray} {w W : World} (hT : Tab w) (ht : t.size ≤ 1100) (hu : u.size ≤ 1100) (A : Option Addr) (n c : Nat) (hB : Below w.heap.size w W) :
    ∀ w1, Below W.heap.size W w1 → Calls Tryz.prog K #[.agg #[.string t, .string u, .slice A n c]] w1 fun e w' => e = .returned (.bool (p t u)) ∧ Below w1.heap.size w1 w' :=
  fun w1 hb => h t u A n c w1 (hT.on (hB.trans (hb.mono hB.size))) ht hu

theorem under_at (kind subs : ByteArray) (hS : Asc subs) {t u : ByteArray} {w W : World} (hT : Tab w) (A : Option Addr) (n c : Nat) (hB : Below w.heap.size w W) :
    ∀ w1, Below W.heap.size W w1 → Calls Tryz.prog 50 #[.agg #[.string t, .string u, .slice A n c], .string kind, .string subs] w1 fun e w' => e = .returned (.bool (underB t u kind subs)) ∧ Below w1.heap.size w1 w' :=
  fun w1 hb => under_any t u kind subs A n c w1 (hT.on (hB.trans (hb.mono hB.size))) hS

theorem asc_of (s : ByteArray) (h : (decide (s.size < 1100) && s.data.toList.all fun b => decide (b.toNat < 128)) = true) : Asc s := by
  simp only [Bool.and_eq_true, decide_eq_true_eq, List.all_eq_true] at h
  exact ⟨h.1, fun j b hj => h.2 b (List.mem_of_getElem? hj)⟩

theorem box_on {w w' : World} {a b c : Value} {T : TypeId} (hb : Below (w.alloc (.cells #[a, b, c] T)).heap.size (w.alloc (.cells #[a, b, c] T)) w') :
    w'.cell? ⟨w.heap.size, 0, none⟩ = some a ∧ w'.cell? ⟨w.heap.size, 1, none⟩ = some b ∧ w'.cell? ⟨w.heap.size, 2, none⟩ = some c := by
  refine ⟨?_, ?_, ?_⟩ <;> (rw [cell_below hb (by simp)]; simp [go_sem])

def isB (a b : ByteArray) : Bool := decide (a = b)

theorem isB_eq (a b : ByteArray) : isB a b = (a.toList == b.toList) := by
  rw [Lib.toList_data, Lib.toList_data]
  unfold isB
  by_cases h : a = b
  · simp [h]
  · have hne : (a.data.toList == b.data.toList) = false := beq_eq_false_iff_ne.2 fun e => h (bytes_ext e)
    rw [hne]
    exact decide_eq_false h

/-- A type's two names. -/
def essB (t u : ByteArray) : ByteArray := t ++ ⟨#[47]⟩ ++ u

theorem essB_size (t u : ByteArray) : (essB t u).size = t.size + 1 + u.size := by
  unfold essB
  rw [ByteArray.size_append, ByteArray.size_append]
  rfl

set_option maxHeartbeats 1000000 in
theorem Essence_any (t u : ByteArray) (A : Option Addr) (n c : Nat) (w : World) (ht : t.size ≤ 1100) (hu : u.size ≤ 1100) :
    Calls Tryz.prog 56 #[.agg #[.string t, .string u, .slice A n c]] w fun e w' => e = .returned (.string (essB t u)) ∧ Below w.heap.size w w' := by
  have h1 : t.size + (⟨#[47]⟩ : ByteArray).size ≤ 9223372036854775807 := by rw [show (⟨#[47]⟩ : ByteArray).size = 1 from rfl]; omega
  have h2 : (t ++ (⟨#[47]⟩ : ByteArray)).size + u.size ≤ 9223372036854775807 := by rw [ByteArray.size_append, show (⟨#[47]⟩ : ByteArray).size = 1 from rfl]; omega
  have inner : ∀ w1 : World, Calls Tryz.prog 76 #[.agg #[.string t, .string u, .slice A n c]] w1 fun e w' => e = .returned (.string (essB t u)) ∧ Below w1.heap.size w1 w' := by
    intro w1
    go_enter Tryz.func76, Tryz.ntmps76
    go_wp2_with fail
    go_ret
    exact ⟨rfl, below_box _ _⟩
  have HI := Lib.hid inner
  clear inner
  go_enter Tryz.func56, Tryz.ntmps56
  go_wp2_with (go_at_call 76; refine (HI.out _).mono ?_; rintro e w' ⟨rfl, hb⟩)
  go_ret
  exact ⟨rfl, (below_box w _).trans (hb.mono (by simp))⟩

set_option maxHeartbeats 1000000 in
theorem is_any (t u s : ByteArray) (A : Option Addr) (n c : Nat) (w : World) (ht : t.size ≤ 1100) (hu : u.size ≤ 1100) :
    Calls Tryz.prog 51 #[.agg #[.string t, .string u, .slice A n c], .string s] w fun e w' => e = .returned (.bool (isB (essB t u) s)) ∧ Below w.heap.size w w' := by
  have HE := Lib.hid (fun (w1 : World) => Essence_any t u A n c w1 ht hu)
  rw [isB_eq]
  generalize essB t u = E at *
  go_enter Tryz.func51, Tryz.ntmps51
  go_wp2_with (go_at_call 56; refine (HE.out _).mono ?_; rintro e w' ⟨rfl, hb⟩)
  all_goals (go_ret; exact ⟨by simp_all, (below_box w _).trans (hb.mono (by simp))⟩)

def jsonB (t u : ByteArray) : Bool := Lib.hasSuffix u.data.toList [43, 106, 115, 111, 110] || underB t u ⟨#[97, 112, 112, 108, 105, 99, 97, 116, 105, 111, 110]⟩ ⟨#[106, 115, 111, 110]⟩ || underB t u ⟨#[116, 101, 120, 116]⟩ ⟨#[106, 115, 111, 110]⟩

set_option maxHeartbeats 4000000 in
set_option maxRecDepth 20000 in
theorem Json_says : Says 54 jsonB := by
  intro t u A n c w hT ht hu
  have H0 := Lib.hid (fun (w1 : World) => Tryz.strings_HasSuffix u ⟨#[43, 106, 115, 111, 110]⟩ w1 (by omega))
  rw [show (⟨#[43, 106, 115, 111, 110]⟩ : ByteArray).data.toList = [43, 106, 115, 111, 110] from rfl] at H0
  have H1 := Lib.hid (under_at ⟨#[97, 112, 112, 108, 105, 99, 97, 116, 105, 111, 110]⟩ ⟨#[106, 115, 111, 110]⟩ (asc_of _ (by decide)) (t := t) (u := u) hT A n c (below_box w (.cells #[.string t, .string u, .slice A n c] 36)))
  have H2 := Lib.hid (under_at ⟨#[116, 101, 120, 116]⟩ ⟨#[106, 115, 111, 110]⟩ (asc_of _ (by decide)) (t := t) (u := u) hT A n c (below_box w (.cells #[.string t, .string u, .slice A n c] 36)))
  unfold jsonB
  generalize Lib.hasSuffix u.data.toList [43, 106, 115, 111, 110] = b0 at *
  generalize underB t u ⟨#[97, 112, 112, 108, 105, 99, 97, 116, 105, 111, 110]⟩ ⟨#[106, 115, 111, 110]⟩ = b1 at *
  generalize underB t u ⟨#[116, 101, 120, 116]⟩ ⟨#[106, 115, 111, 110]⟩ = b2 at *
  go_enter Tryz.func54, Tryz.ntmps54
  go_upto_region 1 with fail
  have hb : Below (w.alloc (.cells #[.string t, .string u, .slice A n c] 36)).heap.size (w.alloc (.cells #[.string t, .string u, .slice A n c] 36)) (w.alloc (.cells #[.string t, .string u, .slice A n c] 36)) := Below.refl _ _
  cases b0 <;> cases b1 <;> cases b2 <;>
    (skip
     go_wp2_with (first | (go_at_call 75; (with_reducible refine Calls.mono (H0.out _) ?_); rintro e w' ⟨rfl, rfl⟩) | (go_at_call 50; (with_reducible refine Calls.mono (H1.out _ hb) ?_); rintro e w' ⟨rfl, hb2⟩; replace hb := below_trans hb hb2; clear hb2; obtain ⟨d0, d1, d2⟩ := box_on hb) | (go_at_call 50; (with_reducible refine Calls.mono (H2.out _ hb) ?_); rintro e w' ⟨rfl, hb2⟩; replace hb := below_trans hb hb2; clear hb2; obtain ⟨d0, d1, d2⟩ := box_on hb))
     go_ret
     exact ⟨rfl, (below_box w _).trans (hb.mono (by simp))⟩)

def xmlB (t u : ByteArray) : Bool := Lib.hasSuffix u.data.toList [43, 120, 109, 108] || underB t u ⟨#[116, 101, 120, 116]⟩ ⟨#[120, 109, 108]⟩ || underB t u ⟨#[97, 112, 112, 108, 105, 99, 97, 116, 105, 111, 110]⟩ ⟨#[120, 109, 108]⟩

set_option maxHeartbeats 4000000 in
set_option maxRecDepth 20000 in
theorem Xml_says : Says 55 xmlB := by
  intro t u A n c w hT ht hu
  have H0 := Lib.hid (fun (w1 : World) => Tryz.strings_HasSuffix u ⟨#[43, 120, 109, 108]⟩ w1 (by omega))
  rw [show (⟨#[43, 120, 109, 108]⟩ : ByteArray).data.toList = [43, 120, 109, 108] from rfl] at H0
  have H1 := Lib.hid (under_at ⟨#[116, 101, 120, 116]⟩ ⟨#[120, 109, 108]⟩ (asc_of _ (by decide)) (t := t) (u := u) hT A n c (below_box w (.cells #[.string t, .string u, .slice A n c] 36)))
  have H2 := Lib.hid (under_at ⟨#[97, 112, 112, 108, 105, 99, 97, 116, 105, 111, 110]⟩ ⟨#[120, 109, 108]⟩ (asc_of _ (by decide)) (t := t) (u := u) hT A n c (below_box w (.cells #[.string t, .string u, .slice A n c] 36)))
  unfold xmlB
  generalize Lib.hasSuffix u.data.toList [43, 120, 109, 108] = b0 at *
  generalize underB t u ⟨#[116, 101, 120, 116]⟩ ⟨#[120, 109, 108]⟩ = b1 at *
  generalize underB t u ⟨#[97, 112, 112, 108, 105, 99, 97, 116, 105, 111, 110]⟩ ⟨#[120, 109, 108]⟩ = b2 at *
  go_enter Tryz.func55, Tryz.ntmps55
  go_upto_region 1 with fail
  have hb : Below (w.alloc (.cells #[.string t, .string u, .slice A n c] 36)).heap.size (w.alloc (.cells #[.string t, .string u, .slice A n c] 36)) (w.alloc (.cells #[.string t, .string u, .slice A n c] 36)) := Below.refl _ _
  cases b0 <;> cases b1 <;> cases b2 <;>
    (skip
     go_wp2_with (first | (go_at_call 75; (with_reducible refine Calls.mono (H0.out _) ?_); rintro e w' ⟨rfl, rfl⟩) | (go_at_call 50; (with_reducible refine Calls.mono (H1.out _ hb) ?_); rintro e w' ⟨rfl, hb2⟩; replace hb := below_trans hb hb2; clear hb2; obtain ⟨d0, d1, d2⟩ := box_on hb) | (go_at_call 50; (with_reducible refine Calls.mono (H2.out _ hb) ?_); rintro e w' ⟨rfl, hb2⟩; replace hb := below_trans hb hb2; clear hb2; obtain ⟨d0, d1, d2⟩ := box_on hb))
     go_ret
     exact ⟨rfl, (below_box w _).trans (hb.mono (by simp))⟩)

def htmlB (t u : ByteArray) : Bool := underB t u ⟨#[116, 101, 120, 116]⟩ ⟨#[104, 116, 109, 108]⟩

set_option maxHeartbeats 4000000 in
set_option maxRecDepth 20000 in
theorem Html_says : Says 53 htmlB := by
  intro t u A n c w hT ht hu
  have H0 := Lib.hid (under_at ⟨#[116, 101, 120, 116]⟩ ⟨#[104, 116, 109, 108]⟩ (asc_of _ (by decide)) (t := t) (u := u) hT A n c (below_box w (.cells #[.string t, .string u, .slice A n c] 36)))
  unfold htmlB
  generalize underB t u ⟨#[116, 101, 120, 116]⟩ ⟨#[104, 116, 109, 108]⟩ = b0 at *
  go_enter Tryz.func53, Tryz.ntmps53
  go_upto_region 1 with fail
  have hb : Below (w.alloc (.cells #[.string t, .string u, .slice A n c] 36)).heap.size (w.alloc (.cells #[.string t, .string u, .slice A n c] 36)) (w.alloc (.cells #[.string t, .string u, .slice A n c] 36)) := Below.refl _ _
  cases b0 <;>
    (skip
     go_wp2_with (first | (go_at_call 50; (with_reducible refine Calls.mono (H0.out _ hb) ?_); rintro e w' ⟨rfl, hb2⟩; replace hb := below_trans hb hb2; clear hb2; obtain ⟨d0, d1, d2⟩ := box_on hb))
     go_ret
     exact ⟨rfl, (below_box w _).trans (hb.mono (by simp))⟩)

def scriptB (t u : ByteArray) : Bool := underB t u ⟨#[97, 112, 112, 108, 105, 99, 97, 116, 105, 111, 110]⟩ ⟨#[101, 99, 109, 97, 115, 99, 114, 105, 112, 116, 32, 106, 97, 118, 97, 115, 99, 114, 105, 112, 116, 32, 120, 45, 101, 99, 109, 97, 115, 99, 114, 105, 112, 116, 32, 120, 45, 106, 97, 118, 97, 115, 99, 114, 105, 112, 116, 32]⟩ || underB t u ⟨#[116, 101, 120, 116]⟩ ⟨#[101, 99, 109, 97, 115, 99, 114, 105, 112, 116, 32, 106, 97, 118, 97, 115, 99, 114, 105, 112, 116, 32, 120, 45, 101, 99, 109, 97, 115, 99, 114, 105, 112, 116, 32, 120, 45, 106, 97, 118, 97, 115, 99, 114, 105, 112, 116, 32, 106, 97, 118, 97, 115, 99, 114, 105, 112, 116, 49, 46, 48, 32, 106, 97, 118, 97, 115, 99, 114, 105, 112, 116, 49, 46, 49, 32, 106, 97, 118, 97, 115, 99, 114, 105, 112, 116, 49, 46, 50, 32, 106, 97, 118, 97, 115, 99, 114, 105, 112, 116, 49, 46, 51, 32, 106, 97, 118, 97, 115, 99, 114, 105, 112, 116, 49, 46, 52, 32, 106, 97, 118, 97, 115, 99, 114, 105, 112, 116, 49, 46, 53, 32, 106, 115, 99, 114, 105, 112, 116, 32, 108, 105, 118, 101, 115, 99, 114, 105, 112, 116]⟩

set_option maxHeartbeats 4000000 in
set_option maxRecDepth 20000 in
theorem Script_says : Says 49 scriptB := by
  intro t u A n c w hT ht hu
  have H0 := Lib.hid (under_at ⟨#[97, 112, 112, 108, 105, 99, 97, 116, 105, 111, 110]⟩ ⟨#[101, 99, 109, 97, 115, 99, 114, 105, 112, 116, 32, 106, 97, 118, 97, 115, 99, 114, 105, 112, 116, 32, 120, 45, 101, 99, 109, 97, 115, 99, 114, 105, 112, 116, 32, 120, 45, 106, 97, 118, 97, 115, 99, 114, 105, 112, 116, 32]⟩ (asc_of _ (by decide)) (t := t) (u := u) hT A n c (below_box w (.cells #[.string t, .string u, .slice A n c] 36)))
  have H1 := Lib.hid (under_at ⟨#[116, 101, 120, 116]⟩ ⟨#[101, 99, 109, 97, 115, 99, 114, 105, 112, 116, 32, 106, 97, 118, 97, 115, 99, 114, 105, 112, 116, 32, 120, 45, 101, 99, 109, 97, 115, 99, 114, 105, 112, 116, 32, 120, 45, 106, 97, 118, 97, 115, 99, 114, 105, 112, 116, 32, 106, 97, 118, 97, 115, 99, 114, 105, 112, 116, 49, 46, 48, 32, 106, 97, 118, 97, 115, 99, 114, 105, 112, 116, 49, 46, 49, 32, 106, 97, 118, 97, 115, 99, 114, 105, 112, 116, 49, 46, 50, 32, 106, 97, 118, 97, 115, 99, 114, 105, 112, 116, 49, 46, 51, 32, 106, 97, 118, 97, 115, 99, 114, 105, 112, 116, 49, 46, 52, 32, 106, 97, 118, 97, 115, 99, 114, 105, 112, 116, 49, 46, 53, 32, 106, 115, 99, 114, 105, 112, 116, 32, 108, 105, 118, 101, 115, 99, 114, 105, 112, 116]⟩ (asc_of _ (by decide)) (t := t) (u := u) hT A n c (below_box w (.cells #[.string t, .string u, .slice A n c] 36)))
  unfold scriptB
  generalize underB t u ⟨#[97, 112, 112, 108, 105, 99, 97, 116, 105, 111, 110]⟩ ⟨#[101, 99, 109, 97, 115, 99, 114, 105, 112, 116, 32, 106, 97, 118, 97, 115, 99, 114, 105, 112, 116, 32, 120, 45, 101, 99, 109, 97, 115, 99, 114, 105, 112, 116, 32, 120, 45, 106, 97, 118, 97, 115, 99, 114, 105, 112, 116, 32]⟩ = b0 at *
  generalize underB t u ⟨#[116, 101, 120, 116]⟩ ⟨#[101, 99, 109, 97, 115, 99, 114, 105, 112, 116, 32, 106, 97, 118, 97, 115, 99, 114, 105, 112, 116, 32, 120, 45, 101, 99, 109, 97, 115, 99, 114, 105, 112, 116, 32, 120, 45, 106, 97, 118, 97, 115, 99, 114, 105, 112, 116, 32, 106, 97, 118, 97, 115, 99, 114, 105, 112, 116, 49, 46, 48, 32, 106, 97, 118, 97, 115, 99, 114, 105, 112, 116, 49, 46, 49, 32, 106, 97, 118, 97, 115, 99, 114, 105, 112, 116, 49, 46, 50, 32, 106, 97, 118, 97, 115, 99, 114, 105, 112, 116, 49, 46, 51, 32, 106, 97, 118, 97, 115, 99, 114, 105, 112, 116, 49, 46, 52, 32, 106, 97, 118, 97, 115, 99, 114, 105, 112, 116, 49, 46, 53, 32, 106, 115, 99, 114, 105, 112, 116, 32, 108, 105, 118, 101, 115, 99, 114, 105, 112, 116]⟩ = b1 at *
  go_enter Tryz.func49, Tryz.ntmps49
  go_upto_region 1 with fail
  have hb : Below (w.alloc (.cells #[.string t, .string u, .slice A n c] 36)).heap.size (w.alloc (.cells #[.string t, .string u, .slice A n c] 36)) (w.alloc (.cells #[.string t, .string u, .slice A n c] 36)) := Below.refl _ _
  cases b0 <;> cases b1 <;>
    (skip
     go_wp2_with (first | (go_at_call 50; (with_reducible refine Calls.mono (H0.out _ hb) ?_); rintro e w' ⟨rfl, hb2⟩; replace hb := below_trans hb hb2; clear hb2; obtain ⟨d0, d1, d2⟩ := box_on hb) | (go_at_call 50; (with_reducible refine Calls.mono (H1.out _ hb) ?_); rintro e w' ⟨rfl, hb2⟩; replace hb := below_trans hb hb2; clear hb2; obtain ⟨d0, d1, d2⟩ := box_on hb))
     go_ret
     exact ⟨rfl, (below_box w _).trans (hb.mono (by simp))⟩)

def imageB (t u : ByteArray) : Bool := isB t ⟨#[105, 109, 97, 103, 101]⟩

def mediaB (t u : ByteArray) : Bool := isB t ⟨#[97, 117, 100, 105, 111]⟩ || isB t ⟨#[118, 105, 100, 101, 111]⟩ || underB t u ⟨#[97, 112, 112, 108, 105, 99, 97, 116, 105, 111, 110]⟩ ⟨#[111, 103, 103]⟩

def fontB (t u : ByteArray) : Bool := isB t ⟨#[102, 111, 110, 116]⟩ || underB t u ⟨#[97, 112, 112, 108, 105, 99, 97, 116, 105, 111, 110]⟩ ⟨#[102, 111, 110, 116, 45, 99, 102, 102, 32, 102, 111, 110, 116, 45, 111, 102, 102, 32, 102, 111, 110, 116, 45, 115, 102, 110, 116, 32, 102, 111, 110, 116, 45, 116, 116, 102, 32, 102, 111, 110, 116, 45, 119, 111, 102, 102, 32, 118, 110, 100, 46, 109, 115, 45, 102, 111, 110, 116, 111, 98, 106, 101, 99, 116, 32, 118, 110, 100, 46, 109, 115, 45, 111, 112, 101, 110, 116, 121, 112, 101]⟩

def zipB (t u : ByteArray) : Bool := Lib.hasSuffix u.data.toList [43, 122, 105, 112] || underB t u ⟨#[97, 112, 112, 108, 105, 99, 97, 116, 105, 111, 110]⟩ ⟨#[122, 105, 112]⟩

def archiveB (t u : ByteArray) : Bool := underB t u ⟨#[97, 112, 112, 108, 105, 99, 97, 116, 105, 111, 110]⟩ ⟨#[120, 45, 114, 97, 114, 45, 99, 111, 109, 112, 114, 101, 115, 115, 101, 100, 32, 122, 105, 112, 32, 120, 45, 103, 122, 105, 112]⟩

def scriptableB (t u : ByteArray) : Bool := xmlB t u || htmlB t u || underB t u ⟨#[97, 112, 112, 108, 105, 99, 97, 116, 105, 111, 110]⟩ ⟨#[112, 100, 102]⟩

def safeB (t u : ByteArray) : Bool := scriptB t u || underB t u ⟨#[116, 101, 120, 116]⟩ ⟨#[99, 115, 115]⟩ || isB (essB t u) ⟨#[105, 109, 97, 103, 101, 47, 115, 118, 103, 43, 120, 109, 108]⟩

set_option maxHeartbeats 4000000 in
set_option maxRecDepth 20000 in
theorem Safe_says : Says 27 safeB := by
  intro t u A n c w hT ht hu
  have H0 := Lib.hid (Script_says.at (t := t) (u := u) hT ht hu A n c (below_box w (.cells #[.string t, .string u, .slice A n c] 36)))
  have H1 := Lib.hid (under_at ⟨#[116, 101, 120, 116]⟩ ⟨#[99, 115, 115]⟩ (asc_of _ (by decide)) (t := t) (u := u) hT A n c (below_box w (.cells #[.string t, .string u, .slice A n c] 36)))
  have H2 := Lib.hid (fun (w1 : World) => is_any t u ⟨#[105, 109, 97, 103, 101, 47, 115, 118, 103, 43, 120, 109, 108]⟩ A n c w1 ht hu)
  unfold safeB
  generalize scriptB t u = b0 at *
  generalize underB t u ⟨#[116, 101, 120, 116]⟩ ⟨#[99, 115, 115]⟩ = b1 at *
  generalize isB (essB t u) ⟨#[105, 109, 97, 103, 101, 47, 115, 118, 103, 43, 120, 109, 108]⟩ = b2 at *
  go_enter Tryz.func27, Tryz.ntmps27
  go_upto_region 1 with fail
  have hb : Below (w.alloc (.cells #[.string t, .string u, .slice A n c] 36)).heap.size (w.alloc (.cells #[.string t, .string u, .slice A n c] 36)) (w.alloc (.cells #[.string t, .string u, .slice A n c] 36)) := Below.refl _ _
  cases b0 <;> cases b1 <;> cases b2 <;>
    (skip
     go_wp2_with (first | (go_at_call 49; (with_reducible refine Calls.mono (H0.out _ hb) ?_); rintro e w' ⟨rfl, hb2⟩; replace hb := below_trans hb hb2; clear hb2; obtain ⟨d0, d1, d2⟩ := box_on hb) | (go_at_call 50; (with_reducible refine Calls.mono (H1.out _ hb) ?_); rintro e w' ⟨rfl, hb2⟩; replace hb := below_trans hb hb2; clear hb2; obtain ⟨d0, d1, d2⟩ := box_on hb) | (go_at_call 51; (with_reducible refine Calls.mono (H2.out _) ?_); rintro e w' ⟨rfl, hb2⟩; replace hb := below_trans hb hb2; clear hb2; obtain ⟨d0, d1, d2⟩ := box_on hb))
     go_ret
     exact ⟨rfl, (below_box w _).trans (hb.mono (by simp))⟩)

def neverB (t u : ByteArray) : Bool := underB t u ⟨#[97, 112, 112, 108, 105, 99, 97, 116, 105, 111, 110]⟩ ⟨#[100, 97, 115, 104, 43, 120, 109, 108, 32, 103, 122, 105, 112, 32, 109, 115, 101, 120, 99, 101, 108, 32, 109, 115, 112, 111, 119, 101, 114, 112, 111, 105, 110, 116, 32, 109, 115, 119, 111, 114, 100, 32, 112, 100, 102, 32, 120, 45, 103, 122, 105, 112, 32, 120, 45, 112, 114, 111, 116, 111, 98, 117, 102, 32, 122, 105, 112, 32, 118, 110, 100, 46, 97, 112, 112, 108, 101, 46, 109, 112, 101, 103, 117, 114, 108, 32, 118, 110, 100, 46, 109, 115, 45, 101, 120, 99, 101, 108, 32, 118, 110, 100, 46, 109, 115, 45, 112, 111, 119, 101, 114, 112, 111, 105, 110, 116, 32, 118, 110, 100, 46, 109, 115, 45, 119, 111, 114, 100, 32, 118, 110, 100, 46, 111, 112, 101, 110, 120, 109, 108, 102, 111, 114, 109, 97, 116, 115, 45, 111, 102, 102, 105, 99, 101, 100, 111, 99, 117, 109, 101, 110, 116, 46, 119, 111, 114, 100, 112, 114, 111, 99, 101, 115, 115, 105, 110, 103, 109, 108, 46, 100, 111, 99, 117, 109, 101, 110, 116]⟩ || isB (essB t u) ⟨#[97, 117, 100, 105, 111, 47, 109, 112, 101, 103, 117, 114, 108]⟩ || underB t u ⟨#[116, 101, 120, 116]⟩ ⟨#[99, 115, 118, 32, 101, 118, 101, 110, 116, 45, 115, 116, 114, 101, 97, 109, 32, 118, 116, 116]⟩ || underB t u ⟨#[109, 117, 108, 116, 105, 112, 97, 114, 116]⟩ ⟨#[98, 121, 116, 101, 114, 97, 110, 103, 101, 115, 32, 115, 105, 103, 110, 101, 100]⟩

set_option maxHeartbeats 4000000 in
set_option maxRecDepth 20000 in
theorem Never_says : Says 28 neverB := by
  intro t u A n c w hT ht hu
  have H0 := Lib.hid (under_at ⟨#[97, 112, 112, 108, 105, 99, 97, 116, 105, 111, 110]⟩ ⟨#[100, 97, 115, 104, 43, 120, 109, 108, 32, 103, 122, 105, 112, 32, 109, 115, 101, 120, 99, 101, 108, 32, 109, 115, 112, 111, 119, 101, 114, 112, 111, 105, 110, 116, 32, 109, 115, 119, 111, 114, 100, 32, 112, 100, 102, 32, 120, 45, 103, 122, 105, 112, 32, 120, 45, 112, 114, 111, 116, 111, 98, 117, 102, 32, 122, 105, 112, 32, 118, 110, 100, 46, 97, 112, 112, 108, 101, 46, 109, 112, 101, 103, 117, 114, 108, 32, 118, 110, 100, 46, 109, 115, 45, 101, 120, 99, 101, 108, 32, 118, 110, 100, 46, 109, 115, 45, 112, 111, 119, 101, 114, 112, 111, 105, 110, 116, 32, 118, 110, 100, 46, 109, 115, 45, 119, 111, 114, 100, 32, 118, 110, 100, 46, 111, 112, 101, 110, 120, 109, 108, 102, 111, 114, 109, 97, 116, 115, 45, 111, 102, 102, 105, 99, 101, 100, 111, 99, 117, 109, 101, 110, 116, 46, 119, 111, 114, 100, 112, 114, 111, 99, 101, 115, 115, 105, 110, 103, 109, 108, 46, 100, 111, 99, 117, 109, 101, 110, 116]⟩ (asc_of _ (by decide)) (t := t) (u := u) hT A n c (below_box w (.cells #[.string t, .string u, .slice A n c] 36)))
  have H1 := Lib.hid (fun (w1 : World) => is_any t u ⟨#[97, 117, 100, 105, 111, 47, 109, 112, 101, 103, 117, 114, 108]⟩ A n c w1 ht hu)
  have H2 := Lib.hid (under_at ⟨#[116, 101, 120, 116]⟩ ⟨#[99, 115, 118, 32, 101, 118, 101, 110, 116, 45, 115, 116, 114, 101, 97, 109, 32, 118, 116, 116]⟩ (asc_of _ (by decide)) (t := t) (u := u) hT A n c (below_box w (.cells #[.string t, .string u, .slice A n c] 36)))
  have H3 := Lib.hid (under_at ⟨#[109, 117, 108, 116, 105, 112, 97, 114, 116]⟩ ⟨#[98, 121, 116, 101, 114, 97, 110, 103, 101, 115, 32, 115, 105, 103, 110, 101, 100]⟩ (asc_of _ (by decide)) (t := t) (u := u) hT A n c (below_box w (.cells #[.string t, .string u, .slice A n c] 36)))
  unfold neverB
  generalize underB t u ⟨#[97, 112, 112, 108, 105, 99, 97, 116, 105, 111, 110]⟩ ⟨#[100, 97, 115, 104, 43, 120, 109, 108, 32, 103, 122, 105, 112, 32, 109, 115, 101, 120, 99, 101, 108, 32, 109, 115, 112, 111, 119, 101, 114, 112, 111, 105, 110, 116, 32, 109, 115, 119, 111, 114, 100, 32, 112, 100, 102, 32, 120, 45, 103, 122, 105, 112, 32, 120, 45, 112, 114, 111, 116, 111, 98, 117, 102, 32, 122, 105, 112, 32, 118, 110, 100, 46, 97, 112, 112, 108, 101, 46, 109, 112, 101, 103, 117, 114, 108, 32, 118, 110, 100, 46, 109, 115, 45, 101, 120, 99, 101, 108, 32, 118, 110, 100, 46, 109, 115, 45, 112, 111, 119, 101, 114, 112, 111, 105, 110, 116, 32, 118, 110, 100, 46, 109, 115, 45, 119, 111, 114, 100, 32, 118, 110, 100, 46, 111, 112, 101, 110, 120, 109, 108, 102, 111, 114, 109, 97, 116, 115, 45, 111, 102, 102, 105, 99, 101, 100, 111, 99, 117, 109, 101, 110, 116, 46, 119, 111, 114, 100, 112, 114, 111, 99, 101, 115, 115, 105, 110, 103, 109, 108, 46, 100, 111, 99, 117, 109, 101, 110, 116]⟩ = b0 at *
  generalize isB (essB t u) ⟨#[97, 117, 100, 105, 111, 47, 109, 112, 101, 103, 117, 114, 108]⟩ = b1 at *
  generalize underB t u ⟨#[116, 101, 120, 116]⟩ ⟨#[99, 115, 118, 32, 101, 118, 101, 110, 116, 45, 115, 116, 114, 101, 97, 109, 32, 118, 116, 116]⟩ = b2 at *
  generalize underB t u ⟨#[109, 117, 108, 116, 105, 112, 97, 114, 116]⟩ ⟨#[98, 121, 116, 101, 114, 97, 110, 103, 101, 115, 32, 115, 105, 103, 110, 101, 100]⟩ = b3 at *
  go_enter Tryz.func28, Tryz.ntmps28
  go_upto_region 1 with fail
  have hb : Below (w.alloc (.cells #[.string t, .string u, .slice A n c] 36)).heap.size (w.alloc (.cells #[.string t, .string u, .slice A n c] 36)) (w.alloc (.cells #[.string t, .string u, .slice A n c] 36)) := Below.refl _ _
  cases b0 <;> cases b1 <;> cases b2 <;> cases b3 <;>
    (skip
     go_wp2_with (first | (go_at_call 50; (with_reducible refine Calls.mono (H0.out _ hb) ?_); rintro e w' ⟨rfl, hb2⟩; replace hb := below_trans hb hb2; clear hb2; obtain ⟨d0, d1, d2⟩ := box_on hb) | (go_at_call 51; (with_reducible refine Calls.mono (H1.out _) ?_); rintro e w' ⟨rfl, hb2⟩; replace hb := below_trans hb hb2; clear hb2; obtain ⟨d0, d1, d2⟩ := box_on hb) | (go_at_call 50; (with_reducible refine Calls.mono (H2.out _ hb) ?_); rintro e w' ⟨rfl, hb2⟩; replace hb := below_trans hb hb2; clear hb2; obtain ⟨d0, d1, d2⟩ := box_on hb) | (go_at_call 50; (with_reducible refine Calls.mono (H3.out _ hb) ?_); rintro e w' ⟨rfl, hb2⟩; replace hb := below_trans hb hb2; clear hb2; obtain ⟨d0, d1, d2⟩ := box_on hb))
     go_ret
     exact ⟨rfl, (below_box w _).trans (hb.mono (by simp))⟩)

def listedB (t u : ByteArray) : Bool := htmlB t u || jsonB t u || (xmlB t u && !(isB (essB t u) ⟨#[105, 109, 97, 103, 101, 47, 115, 118, 103, 43, 120, 109, 108]⟩))

set_option maxHeartbeats 4000000 in
set_option maxRecDepth 20000 in
theorem Listed_says : Says 30 listedB := by
  intro t u A n c w hT ht hu
  have H0 := Lib.hid (Html_says.at (t := t) (u := u) hT ht hu A n c (below_box w (.cells #[.string t, .string u, .slice A n c] 36)))
  have H1 := Lib.hid (Json_says.at (t := t) (u := u) hT ht hu A n c (below_box w (.cells #[.string t, .string u, .slice A n c] 36)))
  have H2 := Lib.hid (Xml_says.at (t := t) (u := u) hT ht hu A n c (below_box w (.cells #[.string t, .string u, .slice A n c] 36)))
  have H3 := Lib.hid (fun (w1 : World) => is_any t u ⟨#[105, 109, 97, 103, 101, 47, 115, 118, 103, 43, 120, 109, 108]⟩ A n c w1 ht hu)
  unfold listedB
  generalize htmlB t u = b0 at *
  generalize jsonB t u = b1 at *
  generalize xmlB t u = b2 at *
  generalize isB (essB t u) ⟨#[105, 109, 97, 103, 101, 47, 115, 118, 103, 43, 120, 109, 108]⟩ = b3 at *
  go_enter Tryz.func30, Tryz.ntmps30
  go_upto_region 1 with fail
  have hb : Below (w.alloc (.cells #[.string t, .string u, .slice A n c] 36)).heap.size (w.alloc (.cells #[.string t, .string u, .slice A n c] 36)) (w.alloc (.cells #[.string t, .string u, .slice A n c] 36)) := Below.refl _ _
  cases b0 <;> cases b1 <;> cases b2 <;> cases b3 <;>
    (skip
     go_wp2_with (first | (go_at_call 53; (with_reducible refine Calls.mono (H0.out _ hb) ?_); rintro e w' ⟨rfl, hb2⟩; replace hb := below_trans hb hb2; clear hb2; obtain ⟨d0, d1, d2⟩ := box_on hb) | (go_at_call 54; (with_reducible refine Calls.mono (H1.out _ hb) ?_); rintro e w' ⟨rfl, hb2⟩; replace hb := below_trans hb hb2; clear hb2; obtain ⟨d0, d1, d2⟩ := box_on hb) | (go_at_call 55; (with_reducible refine Calls.mono (H2.out _ hb) ?_); rintro e w' ⟨rfl, hb2⟩; replace hb := below_trans hb hb2; clear hb2; obtain ⟨d0, d1, d2⟩ := box_on hb) | (go_at_call 51; (with_reducible refine Calls.mono (H3.out _) ?_); rintro e w' ⟨rfl, hb2⟩; replace hb := below_trans hb hb2; clear hb2; obtain ⟨d0, d1, d2⟩ := box_on hb))
     go_ret
     exact ⟨rfl, (below_box w _).trans (hb.mono (by simp))⟩)

end Go.Proofs.YtcbhkcdphbffpaaGreatDoor
