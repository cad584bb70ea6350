/-
  Walks of the reference of package class: a text with small letters.
-/
import Derived.Test.YtjlemghmpnkncaaClassB
namespace Go.Proofs.Ytjlemghmpnkncaa
open Go.RowKit
set_option linter.unusedSimpArgs false
set_option linter.unusedVariables false

theorem infoU8 : (Try.prog.info? 5).map (fun i => (i.zero, i.size, i.bytes)) = some (some (.int .u8 0), 1, 1) := by kernel_rfl

/-- The first k bytes of a text, made small, as values. -/
def lowVals (s : ByteArray) (k : Nat) : List Value := ((lowerL s.data.toList).take k).map fun b => Value.int .u8 (b.toNat : Int)

theorem lowVals_step (s : ByteArray) (k : Nat) (hk : k < s.size) (x : Int) (hx : x = ((lowOf s[k]).toNat : Int)) : lowVals s (k + 1) = lowVals s k ++ [.int .u8 x] := by
  unfold lowVals
  rw [List.take_succ_eq_append_getElem (by rw [lowerL_length]; exact hk), List.map_append, lowerL_at s k hk, hx]
  rfl

theorem ownsBytes_back {P : Program} {w : World} {base : Nat} {e : TypeId} {v : Value} {n : Nat} {s : ByteArray} (h : w.ownsRow base e 1 v n (lowVals s n)) (hn : n = s.size) (hv : v ≠ .slice none 0 0) (src dst : TypeId)
    (hs : P.underlying src = some (.slice e)) (he : P.underlying e = some (.int .u8)) (hd : P.underlying dst = some .string) :
    (convert src dst v).run P w = .ok (.string (lowerB s)) w := by
  subst hn
  obtain ⟨hl, h2⟩ := h
  rcases h2 with ⟨h2, _⟩ | ⟨g, cap, cur, rfl, hg, hh, hc1, hc2, hc3, hc4⟩
  · exact absurd h2 hv
  · have hlen : s.size = (lowerL s.data.toList).length := by rw [lowerL_length]
    have := run_convert_bytes_back (P := P) w src dst e ⟨g, 0, none⟩ cap (lowerL s.data.toList) hs he hd (by
      intro j hj
      have hw : w.ownsRow base e 1 (.slice (some ⟨g, 0, none⟩) s.size cap) s.size (lowVals s s.size) := ⟨hl, .inr ⟨g, cap, cur, rfl, hg, hh, hc1, hc2, hc3, hc4⟩⟩
      have hc := hw.cellAt j (by rw [Nat.mul_one, hlen]; exact hj)
      rw [show (⟨g, 0, none⟩ : Addr).add j = ⟨g, j, none⟩ from by rw [Addr.add_lit, Nat.zero_add], hc]
      unfold lowVals
      rw [List.take_of_length_le (by omega), List.getElem?_map, List.getElem?_eq_getElem hj]
      rfl)
    rw [← hlen] at this
    exact this

set_option maxHeartbeats 1000000 in
set_option maxRecDepth 20000 in
theorem rLower_any (s : ByteArray) (w : World) (hs : s.size ≤ maxLen) (hreach : s.size ≤ 140737488355328) :
    Calls Try.prog 90 #[.string s] w fun e w' => e = .returned (.string (lowerB s)) ∧ Below w.heap.size w w' := by
  unfold maxLen at hs
  have HR := Lib.hid hreach; clear hreach
  obtain ⟨i0, hi, hz0, hz1, hz2⟩ := info_parts infoU8
  have HI := Lib.hid hi; have HZ0 := Lib.hid hz0; have HZ1 := Lib.hid hz1; have HZ2 := Lib.hid hz2
  clear hi hz0 hz1 hz2
  go_enter Try.func90, Try.ntmps90
  go_wp2
  go_loopw [3, 4, 5] (fun v i b wr => ∃ k : Nat, k ≤ s.size ∧ i = .int .i64 k ∧ wr.ownsRow w.heap.size 5 1 v k (lowVals s k) ∧ v ≠ .slice none 0 0 ∧ Below w.heap.size w wr) (fun _ i _ _ => s.size - (intOf i).toNat)
  case atStart => exact ⟨0, Nat.zero_le _, rfl, by simpa [lowVals] using World.ownsRow_lit (base := w.heap.size) (e := 5) (size := 1) w #[] 0 (Nat.le_refl _) (Nat.zero_le _) rfl, by simp, (Below.refl _ _).alloc (Nat.le_refl _) _⟩
  case round =>
    obtain ⟨k, hk, rfl, hown, hv, hb⟩ := hrel
    have HO := Lib.hid hown; have HV := Lib.hid hv; have HB := Lib.hid hb
    clear hown hv hb
    by_cases hlt : k < s.size
    · have HST := Lib.hid (lowVals_step s k hlt)
      have hidx := index_byte (P := Try.prog) 9 Try.underlying9 s k hlt
      generalize hx : s[k] = x at *
      have HX := Lib.hid hx; clear hx
      have hxb := bytes_small x
      go_wp2_with (at_builtin; refine wpList_append_own _ rfl _ _ 119 rfl w.heap.size 5 i0 (.int .u8 0) 1 1 Try.underlying119 HI.out HZ0.out HZ1.out HZ2.out rfl (by decide) _ _ _ rfl (HO.out.alloc _) ⟨wr.heap.size, 0, none⟩ 1 1 [.int .u8 _] rfl rfl (cell_one_new _ _ _) (by intro u hu; simp at hu; subst hu; rfl) (by unfold maxLen; omega) (by have := HR.out; omega) (by simp; exact Nat.le_succ_of_le HB.out.size) ?_)
      all_goals
        intro v' w1 hown' hg hne
        have HO2 := Lib.hid (show w1.ownsRow w.heap.size 5 1 v' (k + 1) (lowVals s (k + 1)) by first | (rw [HST.out ((x.toNat : Int) + 32) (by rw [lowOf_toNat x]; split <;> omega)]; exact hown') | (rw [HST.out (x.toNat : Int) (by rw [lowOf_toNat x]; split <;> omega)]; exact hown'))
        have HB2 := Lib.hid ((HB.out.alloc HB.out.size _).grown hg (by simp; exact Nat.le_succ_of_le HB.out.size) (fun g e => (HO.out.lt g e).1))
        have HN2 := Lib.hid hne
        clear hown' hg hne
        go_wp2
        go_roundw
        case rel => exact ⟨k + 1, by omega, by go_num, HO2.out, HN2.out, HB2.out⟩
        case measure => simp [intOf]; omega
    · obtain rfl : k = s.size := by omega
      have hback := ownsBytes_back (P := Try.prog) HO.out rfl HV.out 119 9 Try.underlying119 Try.underlying5 Try.underlying9
      go_wp2
      go_ret
      exact ⟨rfl, HB.out⟩

end Go.Proofs.Ytjlemghmpnkncaa
