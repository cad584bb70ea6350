/-
  Gathered by wip/tools/gather.py: what the statements of this seat want of other texts.
-/
import Derived.Test.YtjlemghmpnkncaaDoorClassB
import Derived.Test.YtjlemghmpnkncaaDoorLastIn2
import Derived.Test.YtjlemghmpnkncaaDoorTrapA
import Derived.Deep.RegionWith
import Derived.Conc.MuLone
namespace Go.Proofs.YtjlemghmpnkncaaDoor
open Go.RowKit
set_option linter.unusedSimpArgs false
set_option linter.unusedVariables false

theorem take_snocB (s : ByteArray) (k : Nat) (h : k < s.size) : s.data.toList.take (k + 1) = s.data.toList.take k ++ [s[k]] := by
  rw [List.take_succ_eq_append_getElem (by rw [← Lib.size_eq]; exact h)]; rfl

theorem cnt_all (p : UInt8 → Bool) (l : List UInt8) : ((cnt p l : Int) == (l.length : Int)) = l.all p := by
  unfold cnt
  rw [Bool.eq_iff_iff, beq_iff_eq, List.all_eq_true]
  constructor
  · intro h
    exact List.length_filter_eq_length_iff.1 (by omega)
  · intro h
    rw [List.length_filter_eq_length_iff.2 h]

def quoL (l : List UInt8) : Bool := l.all isQuoted

theorem fnQuoted : FnPure 89 isQuoted :=
  ⟨fun args w => MuLone.run_callFunc_enter Tryd.func89 (by kernel_rfl) rfl args w, Quoted_any⟩

theorem All_list (K : FuncId) (p : UInt8 → Bool) (hK : FnPure K p) (s : ByteArray) (w : World) (hs : s.size ≤ maxLen) :
    Calls Tryd.prog 88 #[.string s, .func (.func K) #[] #[]] w fun e w' => e = .returned (.bool (s.data.toList.all p)) ∧ w = w' := by
  have HA := All_any K p hK s w hs
  have hc := cnt_all p s.data.toList
  rw [← Lib.size_eq] at hc
  rw [hc] at HA
  exact HA

set_option maxRecDepth 20000 in
theorem r10Quoted_any (s : ByteArray) (w : World) (hs : s.size ≤ maxLen) :
    Calls Tryd.prog 39 #[.string s] w fun e w' => e = .returned (.bool (quoL s.data.toList)) ∧ w = w' := by
  unfold maxLen at hs
  have HT : Hid (quoL s.data.toList = (s.data.toList.all isQuoted)) := Lib.hid rfl
  go_enter Tryd.func39, Tryd.ntmps39
  go_wp2
  go_loop [3] (fun i => ∃ k : Nat, k ≤ s.size ∧ i = .int .i64 k ∧ (s.data.toList.take k).all isQuoted = true) (fun i => s.size - (intOf i).toNat)
  case atStart => exact ⟨0, Nat.zero_le _, rfl, rfl⟩
  case round =>
    obtain ⟨k, hk, rfl, hp⟩ := hrel
    have HP := Lib.hid hp
    clear hp
    by_cases hlt : k < s.size
    · have hidx := fun w => index_byte 9 Tryd.underlying9 s k hlt w
      have HS := Lib.hid (take_snocB s k hlt)
      have HC := Lib.hid (fun w => rQuoted_any s[k] w)
      have HD : Hid (isQuoted s[k] = false → s.data.toList.all isQuoted = false) := Lib.hid (fun h => by
        rw [List.all_eq_false]
        exact ⟨s[k], by rw [getElem_data s k hlt]; exact List.getElem_mem _, by rw [h]; simp⟩)
      generalize s[k] = x at *
      cases hx : isQuoted x
      · have HX := Lib.hid hx
        clear hx
        go_wp2_with (go_at_call 61; refine (HC.out _).mono ?_; rintro e w' ⟨rfl, rfl⟩; rw [HX.out])
        go_ret
        exact ⟨ret_bool (by rw [HT.out, HD.out HX.out]), rfl⟩
      · have HX := Lib.hid hx
        clear hx
        go_wp2_with (go_at_call 61; refine (HC.out _).mono ?_; rintro e w' ⟨rfl, rfl⟩; rw [HX.out])
        go_round
        case rel => exact ⟨k + 1, by omega, by go_num, by rw [HS.out, List.all_append, HP.out]; simp [HX.out]⟩
        case measure => simp [intOf]; omega
    · obtain rfl : k = s.size := by omega
      have HP2 : Hid (s.data.toList.all isQuoted = true) := Lib.hid (by have := HP.out; rwa [List.take_of_length_le (by rw [← Lib.size_eq]; exact Nat.le_refl _)] at this)
      clear HP
      go_wp2
      all_goals go_ret
      all_goals exact ⟨ret_bool (by rw [HT.out, HP2.out]), rfl⟩

theorem Must_gives (v : Int) (w : World) :
    Calls Tryd.prog 95 #[.int .i64 v, .int .i64 0] w fun e w' => e = .returned (.int .i64 v) ∧ w = w' := by
  go_enter Tryd.func95, Tryd.ntmps95
  go_wp2_with fail
  go_ret
  exact ⟨rfl, rfl⟩

end Go.Proofs.YtjlemghmpnkncaaDoor
