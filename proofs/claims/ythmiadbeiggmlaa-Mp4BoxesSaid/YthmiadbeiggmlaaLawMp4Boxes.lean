/-
  The law Mp4Boxes: its walk.
-/
import Derived.Test.YthmiadbeiggmlaaBoxJoin
import Derived.Test.YthmiadbeiggmlaaLawMp4
namespace Go.Proofs.Ythmiadbeiggmlaa
open Go.RowKit
set_option linter.unusedSimpArgs false
set_option linter.unusedVariables false

/-- Rows of two texts that came in. -/
def DuosIn (w : World) (A : Option Addr) (l : List Duo) : Prop :=
  l = [] ∨ ∃ b off, A = some ⟨b, off, none⟩ ∧ b < w.heap.size ∧ ∀ i (h : i < l.length), w.cell? ⟨b, off + i * 2, none⟩ = some (.string l[i].a) ∧ w.cell? ⟨b, off + i * 2 + 1, none⟩ = some (.string l[i].b)

def Duo.held (t : Duo) : Prop := t.a.size ≤ 140737488351232 ∧ t.b.size ≤ 140737488351232

theorem DuosIn.below {w w' : World} {A : Option Addr} {l : List Duo} (h : DuosIn w A l) (hb : Below w.heap.size w w') : DuosIn w' A l := by
  rcases h with h | ⟨b, off, hA, hlt, hc⟩
  · exact .inl h
  · refine .inr ⟨b, off, hA, Nat.lt_of_lt_of_le hlt hb.size, fun i hi => ?_⟩
    obtain ⟨h1, h2⟩ := hc i hi
    exact ⟨(cell_below hb hlt).trans h1, (cell_below hb hlt).trans h2⟩

set_option maxHeartbeats 4000000 in
set_option maxRecDepth 20000 in
theorem mp4Boxes_walk (s : ByteArray) (l : List Duo) (A : Option Addr) (c : Nat) (w : World) (hs : s.size ≤ maxLen) (hl : ∀ i (h : i < l.length), l[i].held) (hn : l.length ≤ maxLen) (hA : DuosIn w A l) :
    Calls Try.prog 10 #[.string s, .slice A l.length c] w fun e w' => e = .returned (.bool true) ∧ Below w.heap.size w w' := by
  unfold maxLen at hn
  have C1 : Hid (∀ (w : World), Calls Try.prog 11 #[.string s, .int .i64 300] w fun e w' => e = .returned (.string (cutB s 300)) ∧ w = w') := Lib.hid (fun w => Cut_any s 300 w hs (by decide))
  have hx := cutB_size s 300
  generalize cutB s 300 = x at *
  have hbl := boxL_length x
  have SM := Lib.hid (fun w => same16_any x w (by omega) (by omega))
  clear hbl hx
  have HL := Lib.hid hl
  have HA := Lib.hid hA
  clear hl hA
  obtain ⟨n, hnn⟩ : ∃ n, min l.length 6 = n := ⟨_, rfl⟩
  have hn6 : n ≤ 6 := by omega
  have hnl : n ≤ l.length := by omega
  have hnx : n < 6 → n = l.length := by omega
  have HNX := Lib.hid hnx
  clear hnn hnx
  have hb := Below.refl w.heap.size w
  go_enter Try.func10, Try.ntmps10
  go_wp2_with (first | (go_at_call 11; (with_reducible refine (C1.out _).mono ?_); rintro e w' ⟨rfl, rfl⟩) | (go_at_call 48; (with_reducible refine (SM.out _).mono ?_); rintro e w' ⟨rfl, hb2⟩; replace hb := below_trans hb hb2; clear hb2))
  obtain ⟨W1, rfl⟩ : ∃ W1 : World, W1 = w' := ⟨_, rfl⟩
  have HB0 := Lib.hid hb
  clear hb SM C1
  go_loopw [5, 6] (fun s i wr => ∃ k : Nat, k ≤ n ∧ i = .int .i64 k ∧ s = .string (joinB (l.take k)) ∧ Below w.heap.size w wr) (fun _ i _ => n - (intOf i).toNat)
  case atStart => exact ⟨0, Nat.zero_le _, rfl, by simp [joinB], HB0.out⟩
  case round =>
    obtain ⟨k, hk, rfl, rfl, hb⟩ := hrel
    have HB := Lib.hid hb
    have hz := joinB_size (l.take k)
    rw [List.length_take] at hz
    clear hb
    by_cases hlt : k < n
    · rcases HA.out with hnil | ⟨b, off, rfl, hb0, hcs⟩
      · rw [hnil] at hnl; simp at hnl; omega
      obtain ⟨c0, c1⟩ := hcs k (by omega)
      obtain ⟨s0, s1⟩ := HL.out k (by omega)
      have q0 := (cell_below HB.out hb0).trans c0
      have q1 := (cell_below HB.out hb0).trans c1
      have HS := Lib.hid (joinB_take l k (by omega))
      have x1 := name_size l[k]
      have x2 := cutB_size l[k].b 60
      have hsz := (duoB_size l[k]).2
      have hfz : (l[k].a ++ four).size ≤ maxLen := by
        rw [ByteArray.size_append, show four.size = 4 from rfl]
        unfold maxLen
        omega
      have hadd : l[k].a.size + 4 ≤ 9223372036854775807 := by omega
      have C1 : Hid (∀ w : World, Calls Try.prog 11 #[.string (l[k].a ++ ⟨#[32, 32, 32, 32]⟩), .int .i64 4] w fun e w' => e = .returned (.string (cutB (l[k].a ++ four) 4)) ∧ w = w') := Lib.hid (fun w => Cut_any (l[k].a ++ four) 4 w hfz (by decide))
      have C2 : Hid (∀ w : World, Calls Try.prog 11 #[.string l[k].b, .int .i64 60] w fun e w' => e = .returned (.string (cutB l[k].b 60)) ∧ w = w') := Lib.hid (fun w => Cut_any l[k].b 60 w (by unfold maxLen; omega) (by decide))
      have CM : Hid (∀ w : World, Calls Try.prog 49 #[.string (cutB (l[k].a ++ four) 4), .string (cutB l[k].b 60)] w fun e w' => e = .returned (.string (duoB l[k])) ∧ Below w.heap.size w w') := Lib.hid (fun w => Box_any _ _ w (by omega) (by omega))
      clear hcs c0 c1 x1 x2 s0 s1 hfz
      generalize duoB l[k] = db at *
      generalize cutB (l[k].a ++ four) 4 = xa at *
      generalize cutB l[k].b 60 = xb at *
      generalize l[k] = t at *
      generalize joinB (l.take k) = u at *
      have hb := HB.out
      go_wp2_with (first | (go_at_call 11; (with_reducible refine (C1.out _).mono ?_); rintro e w' ⟨rfl, rfl⟩) | (go_at_call 11; (with_reducible refine (C2.out _).mono ?_); rintro e w' ⟨rfl, rfl⟩) | (go_at_call 49; (with_reducible refine (CM.out _).mono ?_); rintro e w' ⟨rfl, hb2⟩; replace hb := below_trans hb hb2; clear hb2))
      go_roundw
      case rel => exact ⟨k + 1, by omega, by go_num, by rw [HS.out], hb⟩
      case measure => simp [intOf]; omega
    · obtain rfl : k = n := by omega
      obtain ⟨j1, j2⟩ := joinB_boxes (l.take k)
      rw [List.length_take, Nat.min_eq_left hnl] at j1
      have hz2 : (joinB (l.take k)).size ≤ 1000 := by omega
      have B1 := fun w => Boxes_any (joinB (l.take k)) w (by omega)
      have S1 := Lib.hid (fun w => same16_any (joinB (l.take k)) w (by omega) (by omega))
      rw [j2] at B1
      generalize hbl : boxL (joinB (l.take k)) = bl at *
      have B2 := Lib.hid B1
      clear B1 j2 hz hbl
      generalize joinB (l.take k) = u at *
      have hb := HB.out
      have hlen : bl.length = k := j1
      have HLEN := Lib.hid hlen
      by_cases h6 : 6 < l.length
      · obtain rfl : k = 6 := by have := HNX.out; omega
        clear hlen j1 HNX HB HL HA
        go_wp2_with fail
        refine (B2.out _).mono ?_
        rintro e w1 ⟨A1, c1, rfl, _, hb1⟩
        rw [HLEN.out]
        replace hb := below_trans hb hb1
        clear hb1
        go_wp2_with (first | (go_at_call 48; (with_reducible refine (S1.out _).mono ?_); rintro e w' ⟨rfl, hb2⟩; replace hb := below_trans hb hb2; clear hb2) | (go_at_call 31; (with_reducible refine (lives16_any _).mono ?_); rintro e w' ⟨rfl, hb2⟩; replace hb := below_trans hb hb2; clear hb2))
        go_ret
        exact ⟨rfl, hb⟩
      · obtain rfl : k = l.length := by have := HNX.out; omega
        clear hlen j1 HNX HB HL HA
        go_wp2_with fail
        refine (B2.out _).mono ?_
        rintro e w1 ⟨A1, c1, rfl, _, hb1⟩
        rw [HLEN.out]
        replace hb := below_trans hb hb1
        clear hb1
        go_wp2_with (first | (go_at_call 48; (with_reducible refine (S1.out _).mono ?_); rintro e w' ⟨rfl, hb2⟩; replace hb := below_trans hb hb2; clear hb2) | (go_at_call 31; (with_reducible refine (lives16_any _).mono ?_); rintro e w' ⟨rfl, hb2⟩; replace hb := below_trans hb hb2; clear hb2))
        go_ret
        exact ⟨rfl, hb⟩

end Go.Proofs.Ythmiadbeiggmlaa
