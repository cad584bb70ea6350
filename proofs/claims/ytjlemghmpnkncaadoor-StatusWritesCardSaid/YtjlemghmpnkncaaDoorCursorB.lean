/-
  Walks of package cursor: what takes, and runs.
-/
import Derived.Test.YtjlemghmpnkncaaDoorCursorA
import Derived.Conc.MuLone
namespace Go.Proofs.YtjlemghmpnkncaaDoor
open Go.RowKit
set_option linter.unusedSimpArgs false
set_option linter.unusedVariables false

theorem Cur.alloc {w : World} {g : Nat} {s : ByteArray} {k : Nat} (h : Cur w g s k) (o : Obj) : Cur (w.alloc o) g s k := (Below.heap_alloc w o g h.lt).trans h

theorem Moved.alloc {g : Nat} {s : ByteArray} {k : Nat} {w w' : World} (h : Moved g s k w w') (o : Obj) : Moved g s k w (w'.alloc o) := ⟨h.1.alloc o, h.2.alloc o⟩

theorem Moved.trans {g : Nat} {s : ByteArray} {k k2 : Nat} {w w1 w2 : World} (h : Moved g s k w w1) (h2 : Moved g s k2 w1 w2) : Moved g s k2 w w2 := ⟨h2.1, h.2.trans h2.2⟩

theorem moved_drew {g : Nat} {s : ByteArray} {k : Nat} {w w1 : World} (h : Cur w g s k) (hd : Drew w w1) : Moved g s k w w1 := by
  obtain ⟨m, rfl⟩ := hd
  exact ⟨h.drewN m, (But.refl _ _).drewN m⟩

theorem extract_at (s : ByteArray) (k j : Nat) (hk : k < s.size) (hj : 0 < (s.extract k j).size) : (s.extract k j)[0] = s[k] := by
  simp [ByteArray.getElem_extract]

theorem Take_gives (g : Nat) (s : ByteArray) (k n : Nat) (w : World) (h : Cur w g s k) (hn : k + n ≤ s.size) (hs : s.size ≤ maxLen) :
    Calls Tryd.prog 94 #[.pointer (some ⟨g, 0, none⟩), .int .i64 n] w fun e w' => e = .returned (.string (s.extract k (k + n))) ∧ Moved g s (k + n) w w' := by
  go_enter Tryd.func94, Tryd.ntmps94
  go_wp2_with (go_at_call 112; refine (take_gives g s k n w h hn hs).mono ?_; rintro e w' ⟨rfl, hd⟩)
  go_ret
  exact ⟨rfl, hd⟩

theorem Take_throws (g : Nat) (s : ByteArray) (k : Nat) (n : Int) (w : World) (h : Cur w g s k) (hk : k ≤ s.size) (hn : n < 0 ∨ (s.size : Int) - k < n) (hs : s.size ≤ maxLen) :
    Calls Tryd.prog 94 #[.pointer (some ⟨g, 0, none⟩), .int .i64 n] w fun e w' => e = .panicked [{ v := faultV k (if n < 0 then 9 else 8), recovered := false }] ∧ Drew w w' := by
  have HC := Lib.hid (take_throws g s k n w h hk hn hs)
  generalize (if n < 0 then (9 : Int) else 8) = c at *
  clear hn
  go_enter Tryd.func94, Tryd.ntmps94
  go_wp2_with (go_at_call 112; refine HC.out.mono ?_; rintro e w' ⟨rfl, hd⟩)
  exact ⟨rfl, rfl, hd⟩

theorem run_gives (g : Nat) (s : ByteArray) (k n : Nat) (w : World) (h : Cur w g s k) (hn : k + n ≤ s.size) (hs : s.size ≤ maxLen) :
    Calls Tryd.prog 99 #[.pointer (some ⟨g, 0, none⟩), .int .i64 n] w fun e w' => e = .returned (.string (s.extract k (k + n))) ∧ Moved g s (k + n) w w' := by
  have hz := restB_size s k (by omega)
  have hm : (restB s k).size ≤ 9223372036854775807 := by unfold maxLen at hs; omega
  have hs2 : s.size ≤ 9223372036854775807 := by unfold maxLen at hs; omega
  have HC := Lib.hid (rest_any g s k w h (by omega) hs)
  have HT := Lib.hid (restB_take s k n hn)
  have hlt : n ≤ (restB s k).size := by omega
  have hnn : ∀ w : World, (binOp .neq 55 (.pointer (some ⟨g, 0, none⟩)) (.pointer none)).run Tryd.prog w = .ok (.bool true) w := fun _ => by kernel_rfl
  generalize restB s k = t at *
  clear hz
  have H := Lib.hid h
  clear h
  go_enter Tryd.func99, Tryd.ntmps99
  go_wp2_with fail
  refine HC.out.mono ?_
  rintro e w1 ⟨rfl, hd⟩
  have c1 := (hd.cur H.out).gone
  have f1 := (hd.cur H.out).free 1
  have HM := Lib.hid (moved_set H.out hd (k + n))
  clear hd
  go_wp2_with fail
  go_ret
  exact ⟨ret_string HT.out, by have := HM.out; simpa using this⟩

theorem Rest_gives (g : Nat) (s : ByteArray) (k : Nat) (w : World) (h : Cur w g s k) (hk : k ≤ s.size) (hs : s.size ≤ maxLen) :
    Calls Tryd.prog 72 #[.pointer (some ⟨g, 0, none⟩)] w fun e w' => e = .returned (.string (restB s k)) ∧ Moved g s s.size w w' := by
  have hz := restB_size s k hk
  have hm : (restB s k).size ≤ 9223372036854775807 := by unfold maxLen at hs; omega
  have HZ := Lib.hid hz; clear hz
  go_enter Tryd.func72, Tryd.ntmps72
  go_wp2_with fail
  refine (rest_any g s k w h hk hs).mono ?_
  rintro e w1 ⟨rfl, hd⟩
  have h1 := hd.cur h
  have hmv := moved_drew h hd
  have HC := Lib.hid (run_gives g s k (s.size - k) w1 h1 (by omega) hs)
  go_wp2_with fail
  refine HC.out.mono ?_
  rintro e w2 ⟨rfl, hm2⟩
  go_wp2_with fail
  go_ret
  rw [show k + (s.size - k) = s.size by omega] at *
  exact ⟨rfl, hmv.trans hm2⟩

theorem While_gives (K : FuncId) (p : UInt8 → Bool) (hK : FnPure K p) (g : Nat) (s : ByteArray) (k : Nat) (w : World) (h : Cur w g s k) (hk : k ≤ s.size) (hs : s.size ≤ maxLen) :
    Calls Tryd.prog 70 #[.pointer (some ⟨g, 0, none⟩), .func (.func K) #[] #[]] w fun e w' => e = .returned (.string (s.extract k (k + spanN p (restB s k).data.toList))) ∧ Moved g s (k + spanN p (restB s k).data.toList) w w' := by
  have hz := restB_size s k hk
  have hm : (restB s k).size ≤ 9223372036854775807 := by unfold maxLen at hs; omega
  have HC := Lib.hid (rest_any g s k w h hk hs)
  obtain ⟨hcf, hK2⟩ := hK
  have HK := Lib.hid hK2; clear hK2
  have hnn := fun (w : World) => run_neq_func_nil (P := Tryd.prog) w Tryd.underlying53 (.func K) #[] #[]
  generalize restB s k = t at *
  have hz1 : k + t.size ≤ s.size := by omega
  clear hz
  have H := Lib.hid h
  clear h
  go_enter Tryd.func70, Tryd.ntmps70
  go_wp2_with fail
  refine HC.out.mono ?_
  rintro e w1 ⟨rfl, hd⟩
  have h1 := Lib.hid (hd.cur H.out)
  have HM := Lib.hid (moved_drew H.out hd)
  clear hd
  go_wp2_with fail
  go_loop [5] (fun i => ∃ n : Nat, n ≤ t.size ∧ i = .int .i64 n ∧ AllTo p t n) (fun i => t.size - (intOf i).toNat)
  case atStart => exact ⟨0, Nat.zero_le _, rfl, fun j _ h => by omega⟩
  case round =>
    obtain ⟨n, hn, rfl, hp⟩ := hrel
    have HP := Lib.hid hp; clear hp
    by_cases hlt : n < t.size
    · cases hb : p t[n]
      · have HB := Lib.hid hb; clear hb
        have HS := Lib.hid (spanN_of p t n hn HP.out fun _ => HB.out)
        go_wp2_with fail
        refine (HK.out _ _).mono ?_
        rintro e w' ⟨rfl, rfl⟩
        rw [HB.out]
        go_wp2_with fail
        refine (run_gives g s k n w1 h1.out (by omega) hs).mono ?_
        rintro e w2 ⟨rfl, hm2⟩
        go_wp2_with fail
        go_ret
        rw [HS.out]
        exact ⟨rfl, HM.out.trans hm2⟩
      · have HB := Lib.hid hb; clear hb
        go_wp2_with fail
        refine (HK.out _ _).mono ?_
        rintro e w' ⟨rfl, rfl⟩
        rw [HB.out]
        go_wp2_with fail
        go_round
        case rel => exact ⟨n + 1, by omega, by go_num, allTo_step HP.out hlt HB.out⟩
        case measure => simp [intOf]; omega
    · obtain rfl : n = t.size := by omega
      have HS := Lib.hid (spanN_of p t t.size (Nat.le_refl _) HP.out fun h => absurd h hlt)
      go_wp2_with fail
      refine (run_gives g s k t.size w1 h1.out (by omega) hs).mono ?_
      rintro e w2 ⟨rfl, hm2⟩
      go_wp2_with fail
      go_ret
      rw [HS.out]
      exact ⟨rfl, HM.out.trans hm2⟩

/-- What a byte is that stops nothing. -/
def goesOn (stops : ByteArray) (b : UInt8) : Bool := !stops.data.toList.contains b

theorem indexByte_neg (stops : ByteArray) (b : UInt8) (r : Bool) (h : goesOn stops b = r) : decide (Lib.indexByte stops.data.toList b < 0) = r := by
  have h1 := indexByte_has stops.data.toList b
  subst h
  unfold goesOn
  rw [Bool.eq_iff_iff, decide_eq_true_eq, Bool.not_eq_true', ← Bool.not_eq_true, ← h1]
  omega

end Go.Proofs.YtjlemghmpnkncaaDoor
