/-
  Walks of the patterns' reference; what package mask exports of one pattern.
-/
import Derived.Test.YtcpjokjfjhhndaaMaskA
namespace Go.Proofs.Ytcpjokjfjhhndaa
open Go.RowKit
set_option linter.unusedSimpArgs false
set_option linter.unusedVariables false

theorem Match_any (s b m k t : ByteArray) (w : World) (hs : s.size ≤ maxLen) (hb : b.size ≤ maxLen) (hm : m.size ≤ maxLen) :
    Calls Try.prog 22 #[.string s, patV b m k t] w fun e w' => e = .returned (.bool (matchB s b m k)) ∧ Below w.heap.size w w' := by
  go_enter Try.func22, Try.ntmps22
  go_wp2_with (go_at_call 65; refine (match_any _ _ _ _ _ _ hs hb hm).mono ?_; rintro e w1 ⟨rfl, hb1⟩)
  go_ret
  exact ⟨rfl, below_after hb1⟩

set_option maxHeartbeats 400000 in
theorem Open_any (s b m k t : ByteArray) (w : World) (hs : s.size ≤ maxLen) (hb : b.size ≤ maxLen) (hm : m.size ≤ maxLen) :
    Calls Try.prog 23 #[.string s, patV b m k t] w fun e w' => e = .returned (.bool (openB s b m k)) ∧ Below w.heap.size w w' := by
  cases hg : goodM b m
  · have H : Hid (openB s b m k = false) := Lib.hid (by simp [openB, hg])
    have HG := Lib.hid hg; clear hg
    go_enter Try.func23, Try.ntmps23
    go_wp2_with (go_at_call 66; refine (good_mask _ _ _ _ _ hb hm).mono ?_; rintro e w1 ⟨rfl, hb1⟩; rw [HG.out])
    go_ret
    exact ⟨ret_bool H.out.symm, below_after hb1⟩
  · have hmm := goodM_eq hg
    have H : Hid (openB s b m k = (agreeL (restM s k).data.toList b.data.toList m.data.toList && decide ((restM s k).size < b.size))) := Lib.hid (by rw [openB, hg, openL_eq]; rfl)
    have HG := Lib.hid hg; clear hg
    have HM := Lib.hid hmm; clear hmm
    have hb2 : b.size ≤ 9223372036854775807 := by unfold maxLen at hb; omega
    have hts := restM_le s k
    have hs2 : s.size ≤ 9223372036854775807 := by unfold maxLen at hs; omega
    go_enter Try.func23, Try.ntmps23
    go_wp2_with fail
    refine (good_mask _ _ _ _ _ hb hm).mono ?_
    rintro e w1 ⟨rfl, hb1⟩
    rw [HG.out]
    obtain ⟨hc1, hf1⟩ := bcell hb1
    have hz1 : w.heap.size < w1.heap.size := by have := hb1.size; simp at this; omega
    go_wp2_with fail
    refine (fits_any s b m k t _ hs hb HM.out).mono ?_
    rintro e w2 ⟨n, rfl, hn, hb2⟩
    have p0 : w2.cell? ⟨w.heap.size, 0, none⟩ = some (.string b) := by rw [cell_below hb2 hz1, hc1 _ _ (by simp)]; simp [go_sem]
    have HB := Lib.hid (below_trans (below_after hb1) hb2)
    clear hb1 hb2 hc1 hf1
    generalize restM s k = q at *
    generalize agreeL q.data.toList b.data.toList m.data.toList = a at *
    cases a
    · clear hn
      go_wp2_with fail
      go_ret
      exact ⟨ret_bool (by rw [H.out]; rfl), HB.out⟩
    · have hn2 := hn rfl
      subst hn2
      clear hn
      have e : decide ((((min q.size b.size : Nat) : Int)) < (b.size : Int)) = decide (q.size < b.size) := by
        rw [Bool.eq_iff_iff, decide_eq_true_eq, decide_eq_true_eq]; omega
      have E := Lib.hid e; clear e
      generalize ((min q.size b.size : Nat) : Int) = z at *
      go_wp2_with fail
      go_ret
      exact ⟨ret_bool (by rw [H.out, ← E.out]; simp), HB.out⟩

theorem rGood_mask (b m k t : ByteArray) (w : World) (hb : b.size ≤ maxLen) (hm : m.size ≤ maxLen) :
    Calls Try.prog 25 #[patV b m k t] w fun e w' => e = .returned (.bool (goodM b m)) ∧ Below w.heap.size w w' := by
  unfold maxLen at hb hm
  go_enter Try.func25, Try.ntmps25
  go_wp2
  all_goals go_ret
  all_goals exact ⟨ret_bool (by unfold goodM; exact (by (try simp only [Bool.not_eq_true', Bool.not_eq_false', Bool.and_eq_true, Bool.or_eq_true, Bool.and_eq_false_iff, Bool.or_eq_false_iff, beq_iff_eq, beq_eq_false_iff_ne, bne_iff_ne, bne_eq_false_iff_eq, decide_eq_true_eq, decide_eq_false_iff_not, ne_eq, Int.not_le, Int.not_lt] at *); first | done | rfl | exact decide_eq_decide.2 (by omega) | exact (decide_eq_false (by omega)).symm | exact (decide_eq_true (by omega)).symm | exact decide_eq_false (by omega) | exact decide_eq_true (by omega) | (rw [Bool.eq_iff_iff]; simp only [Bool.or_eq_true, Bool.and_eq_true, beq_iff_eq, bne_iff_ne, ne_eq, decide_eq_true_eq, Bool.not_eq_true, Bool.false_eq_true, true_iff, false_iff, iff_true, iff_false] <;> omega))), below_box _ _⟩

theorem hasB_eq (k : ByteArray) (x : UInt8) : hasB k x = k.data.toList.contains x := rfl

set_option maxHeartbeats 400000 in
theorem rBegins_any (s b m k t : ByteArray) (w : World) (hs : s.size ≤ maxLen) (hk : k.size ≤ maxLen) :
    Calls Try.prog 27 #[.string s, patV b m k t] w fun e w' => e = .returned (.int .i64 (aheadN s k)) ∧ Below w.heap.size w w' := by
  have hs2 := hs
  unfold maxLen at hs2
  have hw := Lib.hid (below_box w (.cells #[.string b, .string m, .string k, .string t] 25))
  go_enter Try.func27, Try.ntmps27
  go_wp2_with fail
  go_loopw [5] (fun i wr => ∃ n : Nat, n ≤ s.size ∧ i = .int .i64 n ∧ AllTo (fun x => k.data.toList.contains x) s n ∧ Drew (w.alloc (.cells #[.string b, .string m, .string k, .string t] 25)) wr) (fun i _ => s.size - (intOf i).toNat)
  case atStart => exact ⟨0, Nat.zero_le _, rfl, fun j _ h => by omega, Drew.refl _⟩
  case round =>
    obtain ⟨n, hn, rfl, hp, nd, rfl⟩ := hrel
    have HP := Lib.hid hp; clear hp
    by_cases hlt : n < s.size
    · have hidx := index_byte (P := Try.prog) 9 Try.underlying9 s n hlt
      have HH := fun (w : World) => Has_any k s[n] w hk
      cases hb : k.data.toList.contains s[n]
      · have HS := Lib.hid (show aheadN s k = n from spanN_of (fun x => k.data.toList.contains x) s n hn HP.out fun _ => hb)
        rw [show hasB k s[n] = false from hb] at HH
        have HC := Lib.hid HH
        clear hb HH
        generalize s[n] = x at *
        go_wp2_with fail
        go_quiet ((go_at_call 69; exact quiet_add_left (HC.out _)))
        go_wp2_with fail
        go_ret
        exact ⟨ret_int (by rw [HS.out]), below_drewN (below_drewN hw.out _) _⟩
      · have HS := Lib.hid (allTo_step HP.out hlt hb)
        rw [show hasB k s[n] = true from hb] at HH
        have HC := Lib.hid HH
        clear hb HH
        generalize s[n] = x at *
        go_wp2_with fail
        go_quiet ((go_at_call 69; exact quiet_add_left (HC.out _)))
        go_wp2_with fail
        go_roundw
        case rel => exact ⟨n + 1, by omega, by go_num, HS.out, ⟨_, rfl⟩⟩
        case measure => simp [intOf]; omega
    · obtain rfl : n = s.size := by omega
      have HS := Lib.hid (show aheadN s k = s.size from spanN_of (fun x => k.data.toList.contains x) s s.size (Nat.le_refl _) HP.out fun h => absurd h hlt)
      go_wp2_with fail
      go_ret
      exact ⟨ret_int (by rw [HS.out]), below_drewN hw.out _⟩

theorem quo_bound (x p : Nat) (hx : x ≤ 255) (hp : 1 ≤ p) : 0 ≤ (x : Int) / (p : Int) ∧ (x : Int) / (p : Int) ≤ 255 := by
  have e : (x : Int) / (p : Int) = ((x / p : Nat) : Int) := (Int.natCast_ediv x p).symm
  have h : x / p ≤ x := Nat.div_le_self _ _
  rw [e]
  exact ⟨Int.natCast_nonneg _, Int.ofNat_le.2 (Nat.le_trans h hx)⟩

theorem bit_eq (a p : Nat) (ha : a ≤ 255) (hp : 1 ≤ p) (r : Bool) (h : decide (a / p % 2 = 1) = r) : ((wrap64 ((a : Int) / (p : Int))).tmod 2 == 1) = r := by
  obtain ⟨h1, h2⟩ := quo_bound a p ha hp
  rw [IntWalk.wrap64_in _ ⟨by omega, by omega⟩, Int.tmod_eq_emod_of_nonneg h1]
  rw [← h, Bool.eq_iff_iff, beq_iff_eq, decide_eq_true_eq]
  have e : (a : Int) / (p : Int) % 2 = ((a / p % 2 : Nat) : Int) := by rw [Int.natCast_emod, Int.natCast_ediv]; rfl
  rw [e]; exact ⟨fun h => by omega, fun h => by omega⟩

theorem andTo_both {a b k p : Nat} (hp : p = 2 ^ k) (h1 : decide (a / p % 2 = 1) = true) (h2 : decide (b / p % 2 = 1) = true) : andTo a b (k + 1) = andTo a b k + p := by
  subst hp
  rw [decide_eq_true_eq] at h1 h2
  rw [andTo_step, h1, h2]; omega

theorem andTo_left {a b k p : Nat} (hp : p = 2 ^ k) (h1 : decide (a / p % 2 = 1) = false) : andTo a b (k + 1) = andTo a b k := by
  subst hp
  rw [decide_eq_false_iff_not] at h1
  rw [andTo_step, show a / 2 ^ k % 2 = 0 by omega]; simp

theorem andTo_right {a b k p : Nat} (hp : p = 2 ^ k) (h2 : decide (b / p % 2 = 1) = false) : andTo a b (k + 1) = andTo a b k := by
  subst hp
  rw [decide_eq_false_iff_not] at h2
  rw [andTo_step, show b / 2 ^ k % 2 = 0 by omega]; simp

/-- What the loop over the bits knows. -/
def AndRel (a b k p o : Nat) : Prop := p = 2 ^ k ∧ o = andTo a b k

set_option maxHeartbeats 400000 in
theorem and_any (a b : UInt8) (w : World) :
    Calls Try.prog 70 #[.int .u8 a.toNat, .int .u8 b.toNat] w fun e w' => e = .returned (.int .u8 (a &&& b).toNat) ∧ w = w' := by
  have ha := bytes_small a
  have hb := bytes_small b
  have HF := Lib.hid (andTo_byte a b)
  generalize a.toNat = x at *
  generalize b.toNat = y at *
  go_enter Try.func70, Try.ntmps70
  go_wp2_with fail
  go_loop [5, 6, 7] (fun s5 s6 s7 => ∃ k p o : Nat, k ≤ 8 ∧ 1 ≤ p ∧ p ≤ 256 ∧ o < p ∧ s7 = .int .i64 k ∧ s6 = .int .i64 p ∧ s5 = .int .i64 o ∧ AndRel x y k p o) (fun _ _ s7 => 8 - (intOf s7).toNat)
  case atStart => exact ⟨0, 1, 0, by omega, by omega, by omega, by omega, rfl, rfl, rfl, rfl, (andTo_zero _ _).symm⟩
  case round =>
    obtain ⟨k, p, o, hk, hp1, hp2, ho, rfl, rfl, rfl, hr⟩ := hrel
    have HR := Lib.hid hr; clear hr
    by_cases hlt : k < 8
    · have hpp : 2 * p ≤ 256 := by
        rw [HR.out.1]
        have := (pow_le_256 (k := k + 1) (by omega)).2
        rw [Nat.pow_succ] at this
        omega
      have h2p : 2 * p = 2 ^ (k + 1) := by rw [HR.out.1, Nat.pow_succ]; omega
      have H2P := Lib.hid h2p; clear h2p
      have e1 : ((2 * (p : Int))) = ((2 * p : Nat) : Int) := by omega
      have E1 := Lib.hid e1; clear e1
      cases hx : decide (x / p % 2 = 1)
      · have q1 := bit_eq x p (by omega) hp1 _ hx
        have HS := Lib.hid (andTo_left (b := y) HR.out.1 hx)
        clear hx
        go_wp2_with fail
        go_round
        case rel => exact ⟨k + 1, 2 * p, o, by omega, by omega, by omega, by omega, by go_num, by first | rfl | rw [E1.out], rfl, H2P.out, by rw [HS.out]; exact HR.out.2⟩
        case measure => simp [intOf]; omega
      · cases hy : decide (y / p % 2 = 1)
        · have q1 := bit_eq x p (by omega) hp1 _ hx
          have q2 := bit_eq y p (by omega) hp1 _ hy
          have HS := Lib.hid (andTo_right (a := x) HR.out.1 hy)
          clear hx hy
          go_wp2_with fail
          go_round
          case rel => exact ⟨k + 1, 2 * p, o, by omega, by omega, by omega, by omega, by go_num, by first | rfl | rw [E1.out], rfl, H2P.out, by rw [HS.out]; exact HR.out.2⟩
          case measure => simp [intOf]; omega
        · have q1 := bit_eq x p (by omega) hp1 _ hx
          have q2 := bit_eq y p (by omega) hp1 _ hy
          have HS := Lib.hid (andTo_both HR.out.1 hx hy)
          clear hx hy
          go_wp2_with fail
          go_round
          case rel => exact ⟨k + 1, 2 * p, o + p, by omega, by omega, by omega, by omega, by go_num, by first | rfl | rw [E1.out], by go_num, H2P.out, by rw [HS.out, HR.out.2]⟩
          case measure => simp [intOf]; omega
    · obtain rfl : k = 8 := by omega
      have ho2 : o ≤ 255 := by omega
      go_wp2_with fail
      go_ret
      exact ⟨ret_int (by rw [HR.out.2, HF.out]; simp), rfl⟩

theorem neq_and (x y z : UInt8) : ((((x &&& y).toNat : Int)) != (z.toNat : Int)) = !decide ((x &&& y) = z) := by
  rw [Bool.eq_iff_iff]
  simp only [bne_iff_ne, ne_eq, Bool.not_eq_true', decide_eq_false_iff_not]
  rw [← UInt8.toNat_inj]
  omega

set_option maxHeartbeats 1000000 in
theorem rIs_any (s b m k t : ByteArray) (w : World) (hs : s.size ≤ maxLen) (hb : b.size ≤ maxLen) (hk : k.size ≤ maxLen) (hm : m.size = b.size) :
    Calls Try.prog 29 #[.string s, patV b m k t] w fun e w' =>
      e = .returned (.tuple #[.bool (agreeL (restM s k).data.toList b.data.toList m.data.toList), .bool (agreeL (restM s k).data.toList b.data.toList m.data.toList && decide (b.size ≤ (restM s k).size))]) ∧ Below w.heap.size w w' := by
  have hle := aheadN_le s k
  have htl := restM_le s k
  have hs2 : s.size ≤ 9223372036854775807 := by unfold maxLen at hs; omega
  have hb2 : b.size ≤ 9223372036854775807 := by unfold maxLen at hb; omega
  generalize ht : restM s k = q at *
  have HT := Lib.hid ht
  have HM := Lib.hid hm
  clear ht hm
  go_enter Try.func29, Try.ntmps29
  go_upto_region 2 with fail
  go_wp2_with fail
  refine (rBegins_any s b m k _ _ hs hk).mono ?_
  rintro e w1 ⟨rfl, hb1⟩
  obtain ⟨hc1, hf1⟩ := bcell hb1
  have hz1 : w.heap.size < w1.heap.size := by have := hb1.size; simp at this; omega
  have p0 : w1.cell? ⟨w.heap.size, 0, none⟩ = some (.string b) := by rw [hc1 _ _ (by simp)]; simp [go_sem]
  have p1 : w1.cell? ⟨w.heap.size, 1, none⟩ = some (.string m) := by rw [hc1 _ _ (by simp)]; simp [go_sem]
  have HB1 := Lib.hid (below_after hb1)
  clear hb1 hc1 hf1
  go_upto_region 2 with fail
  rw [show s.extract (aheadN s k) s.size = q from HT.out]
  go_wp2_with fail
  go_loopw [6] (fun i wr => ∃ n : Nat, n ≤ q.size ∧ n ≤ b.size ∧ i = .int .i64 n ∧ AgreeTo q b m n ∧ Drew w1 wr) (fun i _ => b.size - (intOf i).toNat)
  case atStart => exact ⟨0, Nat.zero_le _, Nat.zero_le _, rfl, agreeTo_zero _ _ _, Drew.refl _⟩
  case round =>
    obtain ⟨n, hn1, hn2, rfl, ha, nd, rfl⟩ := hrel
    have HA := Lib.hid ha; clear ha
    by_cases h2 : n < b.size
    · by_cases h1 : n < q.size
      · have h3 : n < m.size := by rw [HM.out]; exact h2
        have hx := index_byte (P := Try.prog) 9 Try.underlying9 q n h1
        have hy := index_byte (P := Try.prog) 9 Try.underlying9 m n h3
        have hz := index_byte (P := Try.prog) 9 Try.underlying9 b n h2
        have hq := neq_and q[n] m[n] b[n]
        by_cases he : (q[n] &&& m[n]) = b[n]
        · have HS := Lib.hid (agreeTo_step HA.out h1 h2 h3 he)
          have HQ : Hid ((!decide ((q[n] &&& m[n]) = b[n])) = false) := Lib.hid (by simp [he])
          rw [HQ.out] at hq
          have HN := Lib.hid hq
          clear he HQ hq
          generalize q[n] = x at *
          generalize m[n] = y at *
          generalize b[n] = z at *
          have HC := fun (w : World) => and_any x y w
          have hq := HN.out
          clear HN
          generalize (x &&& y) = v at *
          have HC2 := Lib.hid HC
          clear HC
          go_wp2_with fail
          go_quiet ((go_at_call 70; exact quiet_add_left (HC2.out _)))
          go_wp2_with fail
          go_roundw
          case rel => exact ⟨n + 1, by omega, by omega, by go_num, HS.out, ⟨_, rfl⟩⟩
          case measure => simp [intOf]; omega
        · have HS := Lib.hid (agree_miss HM.out h1 h2 h3 he)
          have HQ : Hid ((!decide ((q[n] &&& m[n]) = b[n])) = true) := Lib.hid (by simp [he])
          rw [HQ.out] at hq
          have HN := Lib.hid hq
          clear he HQ hq
          generalize q[n] = x at *
          generalize m[n] = y at *
          generalize b[n] = z at *
          have HC := fun (w : World) => and_any x y w
          have hq := HN.out
          clear HN
          generalize (x &&& y) = v at *
          have HC2 := Lib.hid HC
          clear HC
          go_wp2_with fail
          go_quiet ((go_at_call 70; exact quiet_add_left (HC2.out _)))
          go_wp2_with fail
          go_ret2
          exact ⟨by rw [HS.out] <;> rfl, below_drewN (below_drewN HB1.out _) _⟩
      · have HS : Hid (agreeL q.data.toList b.data.toList m.data.toList = true) := Lib.hid ((agree_of q b m HM.out).2 (by rw [show min q.size b.size = n by omega]; exact HA.out))
        have hd : decide ((b.size : Int) ≤ (q.size : Int)) = false := decide_eq_false (by omega)
        have HD : Hid (decide (b.size ≤ q.size) = false) := Lib.hid (decide_eq_false (by omega))
        go_wp2_with fail
        go_quiet (fail)
        go_wp2_with fail
        go_ret2
        exact ⟨by rw [HS.out, HD.out] <;> rfl, below_drewN (below_drewN HB1.out _) _⟩
    · have HS : Hid (agreeL q.data.toList b.data.toList m.data.toList = true) := Lib.hid ((agree_of q b m HM.out).2 (by rw [show min q.size b.size = n by omega]; exact HA.out))
      have hd : decide ((b.size : Int) ≤ (q.size : Int)) = true := decide_eq_true (by omega)
      have HD : Hid (decide (b.size ≤ q.size) = true) := Lib.hid (decide_eq_true (by omega))
      go_wp2_with fail
      go_quiet (fail)
      go_wp2_with fail
      go_ret2
      exact ⟨by rw [HS.out, HD.out] <;> rfl, below_drewN (below_drewN HB1.out _) _⟩

theorem rMatch_any (s b m k t : ByteArray) (w : World) (hs : s.size ≤ maxLen) (hb : b.size ≤ maxLen) (hm : m.size ≤ maxLen) (hk : k.size ≤ maxLen) :
    Calls Try.prog 28 #[.string s, patV b m k t] w fun e w' => e = .returned (.bool (matchB s b m k)) ∧ Below w.heap.size w w' := by
  cases hg : goodM b m
  · have H : Hid (matchB s b m k = false) := Lib.hid (by simp [matchB, hg])
    have HG := Lib.hid hg; clear hg
    go_enter Try.func28, Try.ntmps28
    go_wp2_with (go_at_call 25; refine (rGood_mask _ _ _ _ _ hb hm).mono ?_; rintro e w1 ⟨rfl, hb1⟩; rw [HG.out])
    go_ret
    exact ⟨ret_bool H.out.symm, below_after hb1⟩
  · have hmm := goodM_eq hg
    have H : Hid (matchB s b m k = (agreeL (restM s k).data.toList b.data.toList m.data.toList && decide (b.size ≤ (restM s k).size))) := Lib.hid (by rw [matchB, hg, matchL_eq]; rfl)
    have HG := Lib.hid hg; clear hg
    have HM := Lib.hid hmm; clear hmm
    go_enter Try.func28, Try.ntmps28
    go_wp2_with fail
    refine (rGood_mask _ _ _ _ _ hb hm).mono ?_
    rintro e w1 ⟨rfl, hb1⟩
    rw [HG.out]
    obtain ⟨hc1, hf1⟩ := bcell hb1
    go_wp2_with fail
    refine (rIs_any s b m k t _ hs hb hk HM.out).mono ?_
    rintro e w2 ⟨rfl, hb2⟩
    have HB := Lib.hid (below_trans (below_after hb1) hb2)
    clear hb1 hb2 hc1 hf1
    generalize (decide (b.size ≤ (restM s k).size)) = d at *
    generalize agreeL (restM s k).data.toList b.data.toList m.data.toList = a at *
    cases a <;> cases d
    all_goals
      go_wp2_with fail
      go_ret
      exact ⟨ret_bool (by rw [H.out]; rfl), HB.out⟩

end Go.Proofs.Ytcpjokjfjhhndaa
