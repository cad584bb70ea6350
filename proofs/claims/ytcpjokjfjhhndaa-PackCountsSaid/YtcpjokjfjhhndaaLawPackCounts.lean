/-
  The law PackCounts: its walk.
-/
import Derived.Test.YtcpjokjfjhhndaaPackD
namespace Go.Proofs.Ytcpjokjfjhhndaa
open Go.RowKit
set_option linter.unusedSimpArgs false
set_option linter.unusedVariables false

/-- Rows of three texts that came in. -/
def TripsIn (w : World) (A : Option Addr) (l : List Trip) : Prop :=
  l = [] ∨ ∃ b off, A = some ⟨b, off, none⟩ ∧ b < w.heap.size ∧ ∀ i (h : i < l.length), w.cell? ⟨b, off + i * 3, none⟩ = some (.string l[i].a) ∧ w.cell? ⟨b, off + i * 3 + 1, none⟩ = some (.string l[i].b) ∧
    w.cell? ⟨b, off + i * 3 + 2, none⟩ = some (.string l[i].c)

def Trip.held (t : Trip) : Prop := t.a.size ≤ maxLen ∧ t.b.size ≤ maxLen ∧ t.c.size ≤ maxLen

theorem TripsIn.below {w w' : World} {A : Option Addr} {l : List Trip} (h : TripsIn w A l) (hb : Below w.heap.size w w') : TripsIn w' A l := by
  rcases h with h | ⟨b, off, hA, hlt, hc⟩
  · exact .inl h
  · refine .inr ⟨b, off, hA, Nat.lt_of_lt_of_le hlt hb.size, fun i hi => ?_⟩
    obtain ⟨h1, h2, h3⟩ := hc i hi
    exact ⟨(cell_below hb hlt).trans h1, (cell_below hb hlt).trans h2, (cell_below hb hlt).trans h3⟩

set_option maxHeartbeats 2000000 in
set_option maxRecDepth 20000 in
theorem packCounts_walk (l : List Trip) (A : Option Addr) (c : Nat) (w : World) (hl : ∀ i (h : i < l.length), l[i].held) (hn : l.length ≤ maxLen) (hA : TripsIn w A l) :
    Calls Try.prog 12 #[.slice A l.length c] w fun e w' => e = .returned (.bool true) ∧ Below w.heap.size w w' := by
  unfold maxLen at hn
  have HL := Lib.hid hl
  have HA := Lib.hid hA
  clear hl hA
  obtain ⟨n, hnn⟩ : ∃ n, min l.length 8 = n := ⟨_, rfl⟩
  have hn8 : n ≤ 8 := by omega
  have hnl : n ≤ l.length := by omega
  have hnx : n < 8 → n = l.length := by omega
  have HNX := Lib.hid hnx
  clear hnn hnx
  go_enter Try.func12, Try.ntmps12
  go_wp2_with fail
  go_loopw [3, 4, 5] (fun s m i wr => ∃ k : Nat, k ≤ n ∧ i = .int .i64 k ∧ m = .int .i64 k ∧ s = .string (joinM (l.take k)) ∧ Below w.heap.size w wr) (fun _ _ i _ => n - (intOf i).toNat)
  case atStart => exact ⟨0, Nat.zero_le _, rfl, rfl, by simp [joinM], Below.refl _ _⟩
  case round =>
    obtain ⟨k, hk, rfl, rfl, rfl, hb⟩ := hrel
    have HB := Lib.hid hb
    have hz := joinM_size (l.take k)
    rw [List.length_take] at hz
    clear hb
    by_cases hlt : k < n
    · rcases HA.out with hnil | ⟨b, off, rfl, hb0, hcs⟩
      · rw [hnil] at hnl; simp at hnl; omega
      obtain ⟨c0, c1, c2⟩ := hcs k (by omega)
      obtain ⟨s0, s1, s2⟩ := HL.out k (by omega)
      have q0 := (cell_below HB.out hb0).trans c0
      have q1 := (cell_below HB.out hb0).trans c1
      have q2 := (cell_below HB.out hb0).trans c2
      have HS := Lib.hid (joinM_take l k (by omega))
      have x1 := cutB_size l[k].a 40
      have x2 := cutB_size l[k].b 40
      have x3 := cutB_size l[k].c 300
      have hsz : (tripM l[k]).size ≤ 410 := by unfold tripM; rw [member_size]; omega
      have C1 := Lib.hid (fun w => Cut_any l[k].a 40 w s0 (by decide))
      have C2 := Lib.hid (fun w => Cut_any l[k].b 40 w s1 (by decide))
      have C3 := Lib.hid (fun w => Cut_any l[k].c 300 w s2 (by decide))
      have CM : Hid (∀ w : World, Calls Try.prog 55 #[.string (cutB l[k].a 40), .string (cutB l[k].b 40), .string (cutB l[k].c 300)] w fun e w' => e = .returned (.string (tripM l[k])) ∧ Below w.heap.size w w') := Lib.hid (fun w => Member_any _ _ _ w (by omega) (by omega) (by omega))
      clear hcs c0 c1 c2 x1 x2 x3 s0 s1 s2
      generalize tripM l[k] = tm at *
      generalize cutB l[k].a 40 = xa at *
      generalize cutB l[k].b 40 = xb at *
      generalize cutB l[k].c 300 = xc at *
      generalize l[k] = t at *
      generalize joinM (l.take k) = s at *
      have hbw := HB.out.size
      have i0 : (0 : Int) ≤ (k : Int) := by omega
      have i1 : (k : Int) < (l.length : Int) := by omega
      go_upto_region 5 with fail
      have hx := @InB.cells wr
      have hb1 : b < wr.heap.size := by omega
      refine wp_region_inb (by kernel_rfl) (by kernel_rfl) ?_; (repeat (first | go_big_quiet_skip | (go_big_quiet_want; go_big_quiet_op; first | go_big_quiet_on | (apply Exists.intro; refine ⟨fun x => ?_, ?_⟩; (· (first | (go_at_call 16; (with_reducible exact inb_same _ (C1.out _))) | (go_at_call 16; (with_reducible exact inb_same _ (C2.out _))) | (go_at_call 16; (with_reducible exact inb_same _ (C3.out _))) | (go_at_call 55; (with_reducible exact inb_call _ (CM.out _))))); go_big_quiet_on)))); refine wpQuiet_nil ?_; intro _ hw'; obtain ⟨⟨wq, hbq⟩, rfl⟩ := hw'
      have HB2 := Lib.hid hbq
      clear hbq q0 q1 q2 hx
      go_wp2_with fail
      go_roundw
      case rel => exact ⟨k + 1, by omega, by go_num, by go_num, by rw [HS.out], HB.out.trans (HB2.out.mono HB.out.size)⟩
      case measure => simp [intOf]; omega
    · obtain rfl : k = n := by omega
      obtain ⟨j1, j2⟩ := joinM_mem (l.take k) ⟨#[]⟩
      obtain ⟨j3, j4⟩ := joinM_mem (l.take k) ⟨#[120]⟩
      have e0 : joinM (l.take k) ++ (⟨#[]⟩ : ByteArray) = joinM (l.take k) := ByteArray.append_empty
      have m1 : memN ⟨#[]⟩ = 0 ∧ memE ⟨#[]⟩ = true ∧ memN ⟨#[120]⟩ = 0 ∧ memE ⟨#[120]⟩ = false := by decide +kernel
      rw [e0] at j1 j2
      rw [m1.1, Nat.add_zero, List.length_take, Nat.min_eq_left hnl] at j1
      rw [m1.2.1] at j2
      rw [m1.2.2.1, Nat.add_zero, List.length_take, Nat.min_eq_left hnl] at j3
      rw [m1.2.2.2] at j4
      have M1 := Lib.hid (fun w => Members_any (joinM (l.take k)) w (by omega))
      have hz2 : (joinM (l.take k) ++ (⟨#[120]⟩ : ByteArray)).size = (joinM (l.take k)).size + 1 := by rw [ByteArray.size_append]; rfl
      have M2 := Lib.hid (fun w => Members_any (joinM (l.take k) ++ ⟨#[120]⟩) w (by omega))
      rw [j1, j2, Bool.and_true] at M1
      rw [j3, j4, Bool.and_false] at M2
      have hnx := HNX.out
      clear j1 j2 j3 j4 e0 m1 hz2
      have hb := HB.out
      clear HNX HB HL HA
      generalize joinM (l.take k) = s at *
      have hk8 : (k = 8) ∨ (k < 8 ∧ (k : Int) = l.length) := by omega
      rcases hk8 with rfl | ⟨h8, hkl⟩
      · clear hnx
        go_wp2_with (first | (go_at_call 53; (with_reducible refine (M1.out _).mono ?_); rintro e w' ⟨rfl, hb2⟩; replace hb := below_trans hb (hb2.below _); clear hb2) | (go_at_call 53; (with_reducible refine (M2.out _).mono ?_); rintro e w' ⟨rfl, hb2⟩; replace hb := below_trans hb (hb2.below _); clear hb2) | (go_at_call 50; (with_reducible refine (lives15_any _).mono ?_); rintro e w' ⟨rfl, hb2⟩; replace hb := below_trans hb hb2; clear hb2))
        all_goals go_ret
        all_goals exact ⟨rfl, hb⟩
      · obtain rfl : k = l.length := by omega
        clear hnx hkl
        by_cases h0 : 0 < l.length
        · rw [decide_eq_true h0] at M1
          go_wp2_with (first | (go_at_call 53; (with_reducible refine (M1.out _).mono ?_); rintro e w' ⟨rfl, hb2⟩; replace hb := below_trans hb (hb2.below _); clear hb2) | (go_at_call 53; (with_reducible refine (M2.out _).mono ?_); rintro e w' ⟨rfl, hb2⟩; replace hb := below_trans hb (hb2.below _); clear hb2) | (go_at_call 50; (with_reducible refine (lives15_any _).mono ?_); rintro e w' ⟨rfl, hb2⟩; replace hb := below_trans hb hb2; clear hb2))
          go_ret
          exact ⟨rfl, hb⟩
        · rw [decide_eq_false h0] at M1
          go_wp2_with (first | (go_at_call 53; (with_reducible refine (M1.out _).mono ?_); rintro e w' ⟨rfl, hb2⟩; replace hb := below_trans hb (hb2.below _); clear hb2) | (go_at_call 53; (with_reducible refine (M2.out _).mono ?_); rintro e w' ⟨rfl, hb2⟩; replace hb := below_trans hb (hb2.below _); clear hb2) | (go_at_call 50; (with_reducible refine (lives15_any _).mono ?_); rintro e w' ⟨rfl, hb2⟩; replace hb := below_trans hb hb2; clear hb2))
          go_ret
          exact ⟨rfl, hb⟩

end Go.Proofs.Ytcpjokjfjhhndaa
