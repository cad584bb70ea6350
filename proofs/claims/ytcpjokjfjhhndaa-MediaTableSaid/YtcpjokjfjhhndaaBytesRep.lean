/-
  Walk of bytes.Repeat at one byte.
-/
import Derived.Test.YtcpjokjfjhhndaaTabB
import Derived.Test.YtcpjokjfjhhndaaShelf
import Derived.Lib.SlBuf
import Derived.Lib.MakeNoZero
namespace Go.Proofs.Ytcpjokjfjhhndaa
open Go.RowKit
set_option linter.unusedSimpArgs false
set_option linter.unusedVariables false

theorem sizeU8 : (Try.prog.info? 5).map (·.size) = some 1 := by kernel_rfl

/-- A copy of the buffer's own head behind what is filled. -/
theorem copy_self {P : Program} (w0 wr : World) (h N : Nat) (acc : List UInt8) (c cap : Nat) (t ty e : TypeId) (hu : P.underlying t = some (.slice e)) (hs : (P.info? e).map (·.size) = some 1)
    (hb : Lib.Buf w0 wr h N acc) (hc : c ≤ acc.length) (hlt : acc.length < N) :
    ∃ wr', (Builtin.copy_ #[t, t] ty #[.slice (some ⟨h, acc.length, none⟩) (N - acc.length) (N - acc.length), .slice (some ⟨h, 0, none⟩) c cap]).run P wr = .ok (.int .i64 (min c (N - acc.length) : Nat)) wr' ∧ Lib.Buf w0 wr' h N (acc ++ acc.take (min c (N - acc.length))) := by
  have hlen : (acc.take (min c (N - acc.length))).length = min c (N - acc.length) := by rw [List.length_take]; omega
  have hr := run_copy_cells (P := P) wr t t ty e h acc.length (N - acc.length) (N - acc.length) ⟨h, 0, none⟩ c cap ((acc.take (min c (N - acc.length))).map fun x => Value.int .u8 (x.toNat : Int)) hu hs (by rw [List.length_map, hlen])
    (fun j u hj => by
      rw [List.getElem?_map] at hj
      obtain ⟨x, hx, rfl⟩ := Option.map_eq_some_iff.1 hj
      rw [Addr.add_lit, Nat.zero_add]
      rw [List.getElem?_take] at hx
      split at hx
      · exact hb.holds j x hx
      · cases hx)
    (fun j hj => by rw [List.length_map, hlen] at hj; exact hb.there _ (by omega)) (fun j hj => by rw [List.length_map, hlen] at hj; exact hb.free _ (by omega))
    (fun u hu' => by obtain ⟨x, _, rfl⟩ := List.mem_map.1 hu'; rfl)
  rw [List.length_map, hlen] at hr
  refine ⟨_, hr, ?_⟩
  generalize hL : acc.take (min c (N - acc.length)) = l at *
  have hfit : acc.length + l.length ≤ N := by omega
  have hin := World.cell?_setCells_in h (l.map fun x => Value.int .u8 (x.toNat : Int)) acc.length wr (fun j hj => by rw [List.length_map] at hj; exact hb.there _ (by omega))
  have hout := World.cell?_setCells_out h (l.map fun x => Value.int .u8 (x.toNat : Int)) acc.length wr
  refine ⟨?_, ?_, ?_, ?_, by rw [List.length_append]; exact hfit⟩
  · exact Lib.below_setCells h (Nat.le_refl _) _ _ hb.below
  · intro j hj
    by_cases h1 : acc.length ≤ j ∧ j < acc.length + l.length
    · obtain ⟨d, rfl⟩ : ∃ d, j = acc.length + d := ⟨j - acc.length, by omega⟩
      rw [hin d (by rw [List.length_map]; omega)]
      rfl
    · rw [hout ⟨h, j, none⟩ (fun _ _ => by rw [List.length_map]; show j < _ ∨ _ ≤ j; omega)]
      exact hb.there j hj
  · intro j hj
    rw [World.frozen?_setCells]
    exact hb.free j hj
  · intro j x hx
    by_cases h1 : j < acc.length
    · rw [List.getElem?_append_left h1] at hx
      rw [hout ⟨h, j, none⟩ (fun _ _ => Or.inl h1)]
      exact hb.holds j x hx
    · rw [List.getElem?_append_right (by omega)] at hx
      obtain ⟨d, rfl⟩ : ∃ d, j = acc.length + d := ⟨j - acc.length, by omega⟩
      rw [Nat.add_sub_cancel_left] at hx
      have hd : d < l.length := (List.getElem?_eq_some_iff.1 hx).1
      rw [hin d (by rw [List.length_map]; exact hd)]
      simp [List.getElem_map, (List.getElem?_eq_some_iff.1 hx).2]

theorem buf_drew {w wr : World} {h N : Nat} {acc : List UInt8} (hb : Lib.Buf w wr h N acc) : Lib.Buf w wr.drew h N acc :=
  ⟨hb.below.drew, hb.there, hb.free, hb.holds, hb.fits⟩

/-- A new row of so many bytes 255. -/
def GivesFull (n : Nat) (w : World) (e : Ending) (w' : World) : Prop :=
  ∃ g, e = .returned (.slice (some ⟨g, 0, none⟩) n n) ∧ w.heap.size ≤ g ∧ g < w'.heap.size ∧ (∀ j, j < n → w'.cell? ⟨g, j, none⟩ = some (.int .u8 255)) ∧ Below w.heap.size w w'

set_option maxHeartbeats 1000000 in
set_option maxRecDepth 20000 in
theorem bytesRepeat_any (n gs : Nat) (w : World) (h1 : 1 ≤ n) (hn : n ≤ 1000) (hc : w.cell? ⟨gs, 0, none⟩ = some (.int .u8 255)) :
    Calls Try.prog 99 #[.slice (some ⟨gs, 0, none⟩) 1 1, .int .i64 n] w (GivesFull n w) := by
  have CM : Hid (∀ w : World, Calls Try.prog 104 #[.int .u64 1, .int .u64 n] w fun e w' => e = .returned (.tuple #[.int .u64 0, .int .u64 n]) ∧ w = w') := Lib.hid (fun w => by
    have := Try.bits_Mul 1 n (by decide) (by omega) w
    rw [Nat.one_mul, show n / 18446744073709551616 = 0 by omega, show n % 18446744073709551616 = n by omega] at this
    exact this.mono fun e w' ⟨he, hw⟩ => ⟨he, hw.symm⟩)
  have HC := Lib.hid hc
  clear hc
  obtain ⟨cs, hrunM, hle, _⟩ := Lib.run_makeNoZero (P := Try.prog) w #[3] 68 5 Try.underlying68 n (by omega)
  have hcall : (callFunc 105 #[.int .i64 (n : Int)]).run Try.prog w = .ok (.value (.slice (some ⟨w.heap.size, 0, none⟩) n cs.size)) ((w.alloc (.cells cs 5)).drewN 2) := by
    rw [run_callFunc_extern Try.func105 (by kernel_rfl) (by kernel_rfl) (by kernel_rfl) (e := Extern.BytealgMakeNoZero.makeNoZero #[3] #[68]) (by kernel_rfl), hrunM]
    rfl
  clear hrunM
  have i0 : (0 : Int) ≤ (n : Int) := by omega
  have i1 : (n : Int) ≤ (cs.size : Int) := by omega
  have B0 := Lib.Buf.start w cs 5 n 2 hle
  have hc0 : ((w.alloc (.cells cs 5)).drewN 2).cell? ⟨gs, 0, none⟩ = some (.int .u8 255) := Lib.Below.cellOf B0.below HC.out (Nat.le_refl _)
  obtain ⟨w1, hr1, B1⟩ := Lib.copy_part (P := Try.prog) w _ w.heap.size n [] [255] (.slice (some ⟨gs, 0, none⟩) 1 1) 68 3 5 Try.underlying68 sizeU8 (Nat.le_refl _) B0 ⟨some ⟨gs, 0, none⟩, 1, rfl, by simp, by
    intro a ha j x hx
    simp at ha
    subst ha
    cases j with
    | zero => simp at hx; subst hx; exact HC.out
    | succ j => simp at hx⟩ (by simp; omega)
  rw [List.length_nil, Lib.tailV_zero] at hr1
  rw [List.nil_append] at B1
  have HB1 := Lib.hid B1
  have HR1 := Lib.hid hr1
  clear B0 B1 hc0 hr1
  go_enter Try.func99, Try.ntmps99
  go_upto_region 17 with (go_at_call 104; refine (CM.out _).mono ?_; rintro e w' ⟨rfl, rfl⟩)
  go_wp2_with (refine Lib.wpList_copy_run (o := ⟨some 60, _, _, _, _, _⟩) _ rfl _ _ 68 68 rfl _ _ rfl rfl HR1.out ?_)
  go_loopw [10] (fun b wr => ∃ k : Nat, 1 ≤ k ∧ k ≤ n ∧ b = .int .i64 k ∧ Lib.Buf w wr w.heap.size n (List.replicate k 255)) (fun b _ => n - (intOf b).toNat)
  case atStart => exact ⟨1, Nat.le_refl _, h1, rfl, HB1.out⟩
  case round =>
    obtain ⟨k, hk1, hkn, rfl, hB⟩ := hrel
    have HB := Lib.hid hB
    clear hB HB1 HR1
    by_cases hlt : k < n
    · have hne : ¬ n = k := by omega
      have hmin : min (k : Int) (n : Int) = k := by omega
      have HMIN := Lib.hid hmin
      clear hmin
      obtain ⟨w2, hr2, hB2⟩ := copy_self (P := Try.prog) w wr.drew w.heap.size n (List.replicate k 255) k n 68 3 5 Try.underlying68 sizeU8 (buf_drew HB.out) (by simp) (by simpa using hlt)
      rw [List.length_replicate] at hr2 hB2
      have hm1 : ((min k (n - k) : Nat) : Int) = ((min k (n - k) : Nat) : Int) := rfl
      obtain ⟨m, hm⟩ : ∃ m, min k (n - k) = m := ⟨_, rfl⟩
      rw [hm] at hr2 hB2
      have hmk : m ≤ k := by omega
      have hmn : m ≤ n - k := by omega
      have hm0 : 0 < m := by omega
      rw [List.take_replicate, List.replicate_append_replicate, show min m k = m by omega] at hB2
      have HB2 := Lib.hid hB2
      have hk0 : (0 : Int) ≤ (k : Int) := by omega
      have hkn' : (k : Int) ≤ (n : Int) := by omega
      clear hm hB2 hm1
      go_upto_region 20 with fail
      rw [HMIN.out]
      go_region
      all_goals go_wp2_with fail
      all_goals go_roundw
      all_goals first
        | exact ⟨k + m, by omega, by omega, by go_num, HB2.out⟩
        | (simp [intOf]; omega)
    · obtain rfl : k = n := by omega
      go_wp2_with fail
      go_ret
      have hB := HB.out
      refine ⟨w.heap.size, rfl, Nat.le_refl _, ?_, fun j hj => ?_, hB.below⟩
      · have := hB.there 0 (by omega)
        cases hc : wr.cell? ⟨w.heap.size, 0, none⟩
        · rw [hc] at this; cases this
        · exact lt_of_cell hc
      · have := hB.holds j 255 (by rw [List.getElem?_replicate, if_pos hj])
        exact this

end Go.Proofs.Ytcpjokjfjhhndaa
