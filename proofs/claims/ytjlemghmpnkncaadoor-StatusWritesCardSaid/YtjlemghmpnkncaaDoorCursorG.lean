/-
  Walks of package cursor: going by a text; no cursor at all; the reference's small functions.
-/
import Derived.Test.YtjlemghmpnkncaaDoorCursorE
import Derived.Test.YtjlemghmpnkncaaDoorShelf
namespace Go.Proofs.YtjlemghmpnkncaaDoor
open Go.RowKit
set_option linter.unusedSimpArgs false
set_option linter.unusedVariables false

/-- A text begins with another one. -/
def prefB (s p : ByteArray) : Bool := Lib.hasPrefix s.data.toList p.data.toList

theorem prefB_size {s p : ByteArray} (h : prefB s p = true) : p.size ≤ s.size := by
  unfold prefB Lib.hasPrefix at h
  rw [List.isPrefixOf_iff_prefix] at h
  rw [Lib.size_eq, Lib.size_eq]
  exact h.length_le

theorem prefB_eq (s p : ByteArray) (h : p.size ≤ s.size) : ((s.extract 0 p.size).toList == p.toList) = prefB s p := by
  unfold prefB Lib.hasPrefix
  rw [Bool.eq_iff_iff, beq_iff_eq, List.isPrefixOf_iff_prefix, Lib.toList_data, Lib.toList_data, ByteArray.data_extract, Array.toList_extract, List.extract_eq_take_drop, List.drop_zero, Nat.sub_zero, Lib.size_eq, List.prefix_iff_eq_take]
  exact eq_comm

theorem Skip_yes (p : ByteArray) (g : Nat) (s : ByteArray) (k : Nat) (w : World) (h : Cur w g s k) (hk : k ≤ s.size) (hs : s.size ≤ maxLen) (hp : prefB (restB s k) p = true) :
    Calls Tryd.prog 68 #[.pointer (some ⟨g, 0, none⟩), .string p] w fun e w' => e = .returned (.bool true) ∧ Moved g s (k + p.size) w w' := by
  have hz := prefB_size hp
  rw [restB_size s k hk] at hz
  have hs2 : s.size ≤ 9223372036854775807 := by unfold maxLen at hs; omega
  have hnn : ∀ w : World, (binOp .neq 55 (.pointer (some ⟨g, 0, none⟩)) (.pointer none)).run Tryd.prog w = .ok (.bool true) w := fun _ => by kernel_rfl
  have HC := Lib.hid (rest_any g s k w h hk hs)
  have HP : Hid (Lib.hasPrefix (restB s k).data.toList p.data.toList = true) := Lib.hid hp
  generalize restB s k = t at *
  have H := Lib.hid h
  clear h hp
  go_enter Tryd.func68, Tryd.ntmps68
  go_wp2_with fail
  refine HC.out.mono ?_
  rintro e w1 ⟨rfl, hd⟩
  have c1 := (hd.cur H.out).gone
  have f1 := (hd.cur H.out).free 1
  have HM := Lib.hid (moved_set H.out hd (k + p.size))
  clear hd
  go_wp2_with (go_at_call 97; refine (Tryd.strings_HasPrefix t p _).mono ?_; rintro e w' ⟨rfl, rfl⟩; rw [HP.out])
  go_ret
  exact ⟨rfl, by have := HM.out; simpa using this⟩

theorem Skip_no (p : ByteArray) (g : Nat) (s : ByteArray) (k : Nat) (w : World) (h : Cur w g s k) (hk : k ≤ s.size) (hs : s.size ≤ maxLen) (hp : prefB (restB s k) p = false) :
    Calls Tryd.prog 68 #[.pointer (some ⟨g, 0, none⟩), .string p] w fun e w' => e = .returned (.bool false) ∧ Moved g s k w w' := by
  have HC := Lib.hid (rest_any g s k w h hk hs)
  have HP : Hid (Lib.hasPrefix (restB s k).data.toList p.data.toList = false) := Lib.hid hp
  generalize restB s k = t at *
  have H := Lib.hid h
  clear h hp
  go_enter Tryd.func68, Tryd.ntmps68
  go_wp2_with fail
  refine HC.out.mono ?_
  rintro e w1 ⟨rfl, hd⟩
  have HM := Lib.hid (moved_drew H.out hd)
  clear hd
  go_wp2_with (go_at_call 97; refine (Tryd.strings_HasPrefix t p _).mono ?_; rintro e w' ⟨rfl, rfl⟩; rw [HP.out])
  go_ret
  exact ⟨rfl, HM.out⟩

theorem While_nil (g : Nat) (s : ByteArray) (w : World) (h : Cur w g s s.size) (hs : s.size ≤ maxLen) :
    Calls Tryd.prog 70 #[.pointer (some ⟨g, 0, none⟩), .nilFunc] w fun e w' => e = .returned (.string ⟨#[]⟩) ∧ Moved g s s.size w w' := by
  have HC := Lib.hid (rest_any g s s.size w h (Nat.le_refl _) hs)
  have hnn := fun (w : World) => run_neq_nil_func (P := Tryd.prog) w Tryd.underlying53
  have HE : Hid (s.extract s.size (s.size + 0) = ⟨#[]⟩) := Lib.hid (by
    apply ByteArray.ext
    rw [ByteArray.data_extract]
    simp)
  generalize restB s s.size = t at *
  have H := Lib.hid h
  clear h
  go_enter Tryd.func70, Tryd.ntmps70
  go_wp2_with fail
  refine HC.out.mono ?_
  rintro e w1 ⟨rfl, hd⟩
  have h1 := Lib.hid (hd.cur H.out)
  have HM := Lib.hid (moved_drew H.out hd)
  clear hd
  go_wp2_with fail
  refine wp_loop_rounds 1 ?_
  rw [rounds_succ]
  go_wp2_with fail
  refine (run_gives g s s.size 0 w1 h1.out (by omega) hs).mono ?_
  rintro e w2 ⟨rfl, hm2⟩
  rw [HE.out]
  go_wp2_with fail
  go_ret
  exact ⟨rfl, HM.out.trans hm2⟩

/-- A small letter. -/
def lowerC (b : UInt8) : Bool := decide (97 ≤ b.toNat) && decide (b.toNat ≤ 122)

end Go.Proofs.YtjlemghmpnkncaaDoor
