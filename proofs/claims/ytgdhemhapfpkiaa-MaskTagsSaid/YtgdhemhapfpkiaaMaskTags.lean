/-
  Walks: the reference's pattern of a tag, and where a tag ends.
-/
import Derived.Test.YtgdhemhapfpkiaaMaskFind
import Derived.Test.YtgdhemhapfpkiaaClassC
import Derived.Deep.AppendLies
namespace Go.Proofs.Ytgdhemhapfpkiaa
open Go.RowKit
set_option linter.unusedSimpArgs false
set_option linter.unusedVariables false

/-- Bytes as values. -/
def rowU (l : List UInt8) : List Value := l.map fun x => Value.int .u8 (x.toNat : Int)

theorem rowU_step (f : UInt8 → UInt8) (s : ByteArray) (k : Nat) (hk : k < s.size) (x : Int) (hx : x = ((f s[k]).toNat : Int)) : rowU ((s.data.toList.map f).take (k + 1)) = rowU ((s.data.toList.map f).take k) ++ [.int .u8 x] := by
  unfold rowU
  have hk' : k < s.data.toList.length := by rw [← Lib.size_eq]; exact hk
  rw [List.take_succ_eq_append_getElem (by simpa using hk'), List.map_append, List.getElem_map, hx, getElem_data s k hk]
  rfl

theorem ownsRowU_back {P : Program} {w : World} {base : Nat} {e : TypeId} {g n c : Nat} (l : List UInt8) (h : w.ownsRow base e 1 (.slice (some ⟨g, 0, none⟩) n c) n (rowU l)) (hn : n = l.length) (src dst : TypeId)
    (hs : P.underlying src = some (.slice e)) (he : P.underlying e = some (.int .u8)) (hd : P.underlying dst = some .string) :
    (convert src dst (.slice (some ⟨g, 0, none⟩) n c)).run P w = .ok (.string ⟨l.toArray⟩) w := by
  subst hn
  exact run_convert_bytes_back (P := P) w src dst e ⟨g, 0, none⟩ c l hs he hd (by
    intro j hj
    have hc := h.cellAt j (by rw [Nat.mul_one]; exact hj)
    rw [show (⟨g, 0, none⟩ : Addr).add j = ⟨g, j, none⟩ from by rw [Addr.add_lit, Nat.zero_add], hc]
    unfold rowU
    rw [List.getElem?_map, List.getElem?_eq_getElem hj]
    rfl)

/-- What the reference's Tag has made so far: two rows of its own. -/
def TagRows (B : Nat) (e : TypeId) (s : ByteArray) (k g1 c1 g2 c2 : Nat) (wr : World) : Prop :=
  g1 ≠ g2 ∧ wr.ownsRow B e 1 (.slice (some ⟨g1, 0, none⟩) k c1) k (rowU ((s.data.toList.map tagOf).take k)) ∧ wr.ownsRow B e 1 (.slice (some ⟨g2, 0, none⟩) k c2) k (rowU ((s.data.toList.map maskOf).take k))

theorem tagRows_start (w : World) (B : Nat) (e : TypeId) (s : ByteArray) (hB : B ≤ w.heap.size) : TagRows B e s 0 w.heap.size 0 (w.heap.size + 1) 0 ((w.alloc (.cells #[] e)).alloc (.cells #[] e)) := by
  refine ⟨by omega, ?_, ?_⟩
  · have := (World.ownsRow_lit (base := B) (e := e) (size := 1) w #[] 0 hB (Nat.zero_le _) rfl).alloc (.cells #[] e)
    simpa [rowU] using this
  · have := World.ownsRow_lit (base := B) (e := e) (size := 1) (w.alloc (.cells #[] e)) #[] 0 (by simp; omega) (Nat.zero_le _) rfl
    simpa [rowU] using this

theorem ownBlock_slice (g n c : Nat) : (Value.slice (some ⟨g, 0, none⟩) n c).ownBlock = some g := rfl

theorem ne_some {a b : Nat} (h : a ≠ b) : (some a : Option Nat) ≠ some b := fun e => h (Option.some.inj e)

theorem tag_yes (x : UInt8) (h : isLetter x = true) (h2 : 97 ≤ x.toNat) : (tagOf x).toNat = x.toNat - 32 := by
  revert h h2
  refine all_u8 (p := fun x => isLetter x = true → 97 ≤ x.toNat → (tagOf x).toNat = x.toNat - 32) ?_ x
  decide +kernel

theorem tag_great (x : UInt8) (h : isLetter x = true) (h2 : x.toNat < 97) : tagOf x = x := by
  revert h h2
  refine all_u8 (p := fun x => isLetter x = true → x.toNat < 97 → tagOf x = x) ?_ x
  decide +kernel

theorem tag_no (x : UInt8) (h : isLetter x = false) : tagOf x = x := by unfold tagOf; rw [h]; rfl
theorem mask_yes (x : UInt8) (h : isLetter x = true) : maskOf x = 223 := by unfold maskOf; rw [h]; rfl
theorem mask_no (x : UInt8) (h : isLetter x = false) : maskOf x = 255 := by unfold maskOf; rw [h]; rfl

/-- Between the two appends of a round. -/
theorem tagRows_mid {wr w1 : World} {B k g1 c1 g2 c2 g3 : Nat} {e : TypeId} {l1 l2 : List Value} {b1 b2 : Value}
    (hr1 : wr.ownsRow (B + 1) e 1 (.slice (some ⟨g1, 0, none⟩) k c1) k l1) (hr2 : wr.ownsRow (B + 1) e 1 (.slice (some ⟨g2, 0, none⟩) k c2) k l2) (hne : g1 ≠ g2) (hB : B < wr.heap.size)
    (hg : (wr.alloc (.cells #[b1] e)).grownBy w1 (Value.slice (some ⟨g1, 0, none⟩) k c1).ownBlock) (hat : (Value.slice (some ⟨g1, 0, none⟩) k c1).ownBlock = some g3 ∨ g3 = (wr.alloc (.cells #[b1] e)).heap.size) (hlt : g3 < w1.heap.size) :
    (w1.alloc (.cells #[b2] e)).ownsRow (B + 1) e 1 (.slice (some ⟨g2, 0, none⟩) k c2) k l2 ∧ (∀ j u, ([b2] : List Value)[j]? = some u → (w1.alloc (.cells #[b2] e)).cell? ((⟨w1.heap.size, 0, none⟩ : Addr).add j) = some u) ∧
    B + 1 ≤ (w1.alloc (.cells #[b2] e)).heap.size ∧ g3 ≠ g2 ∧ g3 < w1.heap.size := by
  have h2 := (hr2.lt g2 rfl).2
  have hs := hg.size
  simp at hs
  refine ⟨((hr2.alloc _).kept hg (.inr (ne_some (Ne.symm hne)))).alloc _, cell_one_new w1 b2 e, by simp; omega, ?_, hlt⟩
  rcases hat with h | h
  · rw [ownBlock_slice] at h
    have := Option.some.inj h
    omega
  · simp at h
    omega

/-- Behind the two appends of a round. -/
theorem tagRows_end {w1 w2 : World} {B k g2 c2 g3 c3 g4 c4 : Nat} {e : TypeId} {s : ByteArray} {n1 n2 : List Value} {b2 : Value}
    (e1 : rowU ((s.data.toList.map tagOf).take (k + 1)) = n1) (e2 : rowU ((s.data.toList.map maskOf).take (k + 1)) = n2)
    (h1 : w1.ownsRow B e 1 (.slice (some ⟨g3, 0, none⟩) (k + 1) c3) (k + 1) n1) (h2 : w2.ownsRow B e 1 (.slice (some ⟨g4, 0, none⟩) (k + 1) c4) (k + 1) n2)
    (hg : (w1.alloc (.cells #[b2] e)).grownBy w2 (Value.slice (some ⟨g2, 0, none⟩) k c2).ownBlock) (hat : (Value.slice (some ⟨g2, 0, none⟩) k c2).ownBlock = some g4 ∨ g4 = (w1.alloc (.cells #[b2] e)).heap.size)
    (hne : g3 ≠ g2) (hlt : g3 < w1.heap.size) : TagRows B e s (k + 1) g3 c3 g4 c4 w2 := by
  refine ⟨?_, ?_, ?_⟩
  · rcases hat with h | h
    · rw [ownBlock_slice] at h
      have := Option.some.inj h
      omega
    · simp at h
      omega
  · rw [e1]
    exact (h1.alloc _).kept hg (.inr (ne_some hne))
  · rw [e2]; exact h2

theorem tagRows_kept {w wr w1 w2 : World} {k c1 g1 g2 c2 : Nat} {e : TypeId} {o : Obj} {l1 l2 : List Value} {b1 b2 : Value} (hrow : wr.heap[w.heap.size]? = some o) (hb : Below w.heap.size w wr)
    (hr1 : wr.ownsRow (w.heap.size + 1) e 1 (.slice (some ⟨g1, 0, none⟩) k c1) k l1) (hr2 : wr.ownsRow (w.heap.size + 1) e 1 (.slice (some ⟨g2, 0, none⟩) k c2) k l2)
    (hg1 : (wr.alloc (.cells #[b1] e)).grownBy w1 (Value.slice (some ⟨g1, 0, none⟩) k c1).ownBlock) (hg2 : (w1.alloc (.cells #[b2] e)).grownBy w2 (Value.slice (some ⟨g2, 0, none⟩) k c2).ownBlock) (hB : w.heap.size < wr.heap.size) :
    w2.heap[w.heap.size]? = some o ∧ Below w.heap.size w w2 := by
  have h1 : w.heap.size + 1 ≤ g1 ∧ g1 < wr.heap.size := hr1.lt g1 rfl
  have h2 : w.heap.size + 1 ≤ g2 ∧ g2 < wr.heap.size := hr2.lt g2 rfl
  have s1 := hg1.size
  have s2 := hg2.size
  simp at s1 s2
  refine ⟨?_, ?_⟩
  · rw [hg2.block w.heap.size (by simp; omega) (ne_some (show w.heap.size ≠ g2 by omega)), Below.heap_alloc _ _ _ (by omega), hg1.block w.heap.size (by simp; omega) (ne_some (show w.heap.size ≠ g1 by omega)), Below.heap_alloc _ _ _ (by omega)]
    exact hrow
  · refine Below.grown (Below.alloc (Below.grown (hb.alloc (by omega) _) hg1 (by simp; omega) ?_) (by omega) _) hg2 (by simp; omega) ?_
    · intro j hj
      have : g1 = j := Option.some.inj hj
      omega
    · intro j hj
      have : g2 = j := Option.some.inj hj
      omega

set_option maxHeartbeats 1000000 in
set_option maxRecDepth 20000 in
theorem rTag_any (s kind : ByteArray) (w : World) (hs : s.size ≤ 1000) :
    Calls Try.prog 66 #[.string s, .string kind] w fun e w' => e = .returned (patV (tagB s) (maskB s) tagSkip kind) ∧ Below w.heap.size w w' := by
  obtain ⟨i0, hi, hz0, hz1, hz2⟩ := info_parts infoU8
  have HI := Lib.hid hi; have HZ0 := Lib.hid hz0; have HZ1 := Lib.hid hz1; have HZ2 := Lib.hid hz2
  clear hi hz0 hz1 hz2
  go_enter Try.func66, Try.ntmps66
  go_upto_region 1 with fail
  generalize hW : w.alloc (.cells #[.string ⟨#[]⟩, .string ⟨#[]⟩, .string ⟨#[]⟩, .string ⟨#[]⟩] 69) = W
  have hsz : W.heap.size = w.heap.size + 1 := by rw [← hW]; simp
  have hrow : W.heap[w.heap.size]? = some (.cells #[.string ⟨#[]⟩, .string ⟨#[]⟩, .string ⟨#[]⟩, .string ⟨#[]⟩] 69 (0, 0)) := by rw [← hW]; exact heap_alloc_new w _
  have hB0 : Below w.heap.size w W := by rw [← hW]; exact below_box w _
  have HR := Lib.hid hrow
  have HB := Lib.hid hB0
  clear hW hrow hB0
  have HS0 := Lib.hid (tagRows_start W (w.heap.size + 1) 5 s (by omega))
  go_wp2_with fail
  go_loopw [5, 6, 7] (fun v5 v6 i wr => ∃ k g1 c1 g2 c2 : Nat, k ≤ s.size ∧ i = .int .i64 k ∧ v5 = .slice (some ⟨g1, 0, none⟩) k c1 ∧ v6 = .slice (some ⟨g2, 0, none⟩) k c2 ∧ TagRows (w.heap.size + 1) 5 s k g1 c1 g2 c2 wr ∧ wr.heap[w.heap.size]? = some (.cells #[.string ⟨#[]⟩, .string ⟨#[]⟩, .string ⟨#[]⟩, .string ⟨#[]⟩] 69 (0, 0)) ∧ Below w.heap.size w wr) (fun _ _ i _ => s.size - (intOf i).toNat)
  case atStart =>
    refine ⟨0, _, _, _, _, Nat.zero_le _, rfl, rfl, rfl, by have := HS0.out; rw [hsz] at this; exact this, ?_, (HB.out.alloc HB.out.size _).alloc (by have := HB.out.size; simp; omega) _⟩
    exact (Below.heap_alloc _ _ _ (by simp; omega)).trans ((Below.heap_alloc _ _ _ (by omega)).trans HR.out)
  case round =>
    clear HS0 HR HB
    obtain ⟨k, g1, c1, g2, c2, hk, rfl, rfl, rfl, ⟨hne, hr1, hr2⟩, hrow, hb⟩ := hrel
    have HR1 := Lib.hid hr1; have HR2 := Lib.hid hr2; have HROW := Lib.hid hrow; have HB := Lib.hid hb
    have hz := hb.size
    have hsz2 : w.heap.size < wr.heap.size := Nat.lt_of_not_le fun h => by rw [Array.getElem?_eq_none h] at hrow; cases hrow
    clear hr1 hr2 hrow hb
    by_cases hlt : k < s.size
    · have hidx := index_byte (P := Try.prog) 9 Try.underlying9 s k hlt
      have HT1 := Lib.hid (rowU_step tagOf s k hlt)
      have HT2 := Lib.hid (rowU_step maskOf s k hlt)
      generalize s[k] = x at *
      have hxb := bytes_small x
      obtain ⟨b1, hb1⟩ : ∃ b1 : Int, b1 = ((tagOf x).toNat : Int) := ⟨_, rfl⟩
      obtain ⟨b2, hb2⟩ : ∃ b2 : Int, b2 = ((maskOf x).toNat : Int) := ⟨_, rfl⟩
      have E1 := Lib.hid (HT1.out b1 hb1)
      have E2 := Lib.hid (HT2.out b2 hb2)
      have k0 := Lib.hid (HR1.out.alloc (.cells #[.int .u8 b1] 5))
      have k1 := Lib.hid (cell_one_new wr (.int .u8 b1) 5)
      have k2 := Lib.hid (show ∀ u ∈ ([.int .u8 b1] : List Value), u.oneCell' = true from by intro u hu; simp at hu; subst hu; rfl)
      have k3 := Lib.hid (show k + 1 ≤ maxLen from by unfold maxLen; omega)
      have k4 := Lib.hid (show (k + 1) * 1 ≤ 140737488355328 from by omega)
      have k5 := Lib.hid (show w.heap.size + 1 ≤ (wr.alloc (.cells #[.int .u8 b1] 5)).heap.size from by simp; omega)
      have k6 := Lib.hid (show ∀ u ∈ ([.int .u8 b2] : List Value), u.oneCell' = true from by intro u hu; simp at hu; subst hu; rfl)
      have HE1 := Lib.hid hb1
      have HE2 := Lib.hid hb2
      clear HT1 HT2 hb1 hb2
      cases hl : isLetter x
      · have e1 : b1 = (x.toNat : Int) := by rw [HE1.out, tag_no x hl]
        have e2 : b2 = 255 := by rw [HE2.out, mask_no x hl]; rfl
        subst e1 e2
        have HL := Lib.hid hl
        clear hl
        go_wp2_with (first | (go_at_call 50; refine (rLetter_any _ _).mono ?_; rintro e w' ⟨rfl, rfl⟩; rw [HL.out]) | (at_builtin; refine wpList_append_lies _ rfl (.tmp 27) (.tmp 29) 84 rfl (w.heap.size + 1) 5 i0 (.int .u8 0) 1 1 Try.underlying84 HI.out HZ0.out HZ1.out HZ2.out rfl (by decide) _ _ _ rfl k0.out ⟨wr.heap.size, 0, none⟩ 1 1 _ rfl rfl k1.out k2.out (by decide) k3.out k4.out k5.out _ rfl ?_; intro g3 c3 w1 hown1 hgrow1 hat1 hlt1; obtain ⟨m1, m2, m3, m5, m6⟩ := tagRows_mid (b2 := .int .u8 255) HR1.out HR2.out hne hsz2 hgrow1 hat1 hlt1; have M0 := Lib.hid m1; have M1 := Lib.hid m2; have M5 := Lib.hid m3; have HO1 := Lib.hid hown1; have HG1 := Lib.hid hgrow1; clear m1 m2 m3 hown1 hgrow1 hat1 hlt1) | (at_builtin; refine wpList_append_lies _ rfl (.tmp 31) (.tmp 33) 84 rfl (w.heap.size + 1) 5 i0 (.int .u8 0) 1 1 Try.underlying84 HI.out HZ0.out HZ1.out HZ2.out rfl (by decide) _ _ _ rfl M0.out ⟨w1.heap.size, 0, none⟩ 1 1 _ rfl rfl M1.out k6.out (by decide) k3.out k4.out M5.out _ rfl ?_; intro g4 c4 w2 hown2 hgrow2 hat2 hlt2; have HO2 := Lib.hid hown2; have HG2 := Lib.hid hgrow2; have HA2 := Lib.hid hat2; clear hown2 hgrow2 hat2 hlt2))
        go_roundw
        case rel => exact ⟨k + 1, g3, c3, g4, c4, by omega, by go_num, rfl, rfl, tagRows_end E1.out E2.out HO1.out HO2.out HG2.out HA2.out m5 m6, tagRows_kept HROW.out HB.out HR1.out HR2.out HG1.out HG2.out hsz2⟩
        case measure => simp [intOf]; omega
      · have e2 : b2 = 223 := by rw [HE2.out, mask_yes x hl]; rfl
        by_cases hc : 97 ≤ x.toNat
        · have e1 : b1 = (x.toNat : Int) - 32 := by rw [HE1.out, tag_yes x hl hc]; omega
          subst e1 e2
          have HL := Lib.hid hl
          clear hl
          go_wp2_with (first | (go_at_call 50; refine (rLetter_any _ _).mono ?_; rintro e w' ⟨rfl, rfl⟩; rw [HL.out]) | (at_builtin; refine wpList_append_lies _ rfl (.tmp 27) (.tmp 29) 84 rfl (w.heap.size + 1) 5 i0 (.int .u8 0) 1 1 Try.underlying84 HI.out HZ0.out HZ1.out HZ2.out rfl (by decide) _ _ _ rfl k0.out ⟨wr.heap.size, 0, none⟩ 1 1 _ rfl rfl k1.out k2.out (by decide) k3.out k4.out k5.out _ rfl ?_; intro g3 c3 w1 hown1 hgrow1 hat1 hlt1; obtain ⟨m1, m2, m3, m5, m6⟩ := tagRows_mid (b2 := .int .u8 223) HR1.out HR2.out hne hsz2 hgrow1 hat1 hlt1; have M0 := Lib.hid m1; have M1 := Lib.hid m2; have M5 := Lib.hid m3; have HO1 := Lib.hid hown1; have HG1 := Lib.hid hgrow1; clear m1 m2 m3 hown1 hgrow1 hat1 hlt1) | (at_builtin; refine wpList_append_lies _ rfl (.tmp 31) (.tmp 33) 84 rfl (w.heap.size + 1) 5 i0 (.int .u8 0) 1 1 Try.underlying84 HI.out HZ0.out HZ1.out HZ2.out rfl (by decide) _ _ _ rfl M0.out ⟨w1.heap.size, 0, none⟩ 1 1 _ rfl rfl M1.out k6.out (by decide) k3.out k4.out M5.out _ rfl ?_; intro g4 c4 w2 hown2 hgrow2 hat2 hlt2; have HO2 := Lib.hid hown2; have HG2 := Lib.hid hgrow2; have HA2 := Lib.hid hat2; clear hown2 hgrow2 hat2 hlt2))
          go_roundw
          case rel => exact ⟨k + 1, g3, c3, g4, c4, by omega, by go_num, rfl, rfl, tagRows_end E1.out E2.out HO1.out HO2.out HG2.out HA2.out m5 m6, tagRows_kept HROW.out HB.out HR1.out HR2.out HG1.out HG2.out hsz2⟩
          case measure => simp [intOf]; omega
        · have e1 : b1 = (x.toNat : Int) := by rw [HE1.out, tag_great x hl (by omega)]
          subst e1 e2
          have HL := Lib.hid hl
          clear hl
          go_wp2_with (first | (go_at_call 50; refine (rLetter_any _ _).mono ?_; rintro e w' ⟨rfl, rfl⟩; rw [HL.out]) | (at_builtin; refine wpList_append_lies _ rfl (.tmp 27) (.tmp 29) 84 rfl (w.heap.size + 1) 5 i0 (.int .u8 0) 1 1 Try.underlying84 HI.out HZ0.out HZ1.out HZ2.out rfl (by decide) _ _ _ rfl k0.out ⟨wr.heap.size, 0, none⟩ 1 1 _ rfl rfl k1.out k2.out (by decide) k3.out k4.out k5.out _ rfl ?_; intro g3 c3 w1 hown1 hgrow1 hat1 hlt1; obtain ⟨m1, m2, m3, m5, m6⟩ := tagRows_mid (b2 := .int .u8 223) HR1.out HR2.out hne hsz2 hgrow1 hat1 hlt1; have M0 := Lib.hid m1; have M1 := Lib.hid m2; have M5 := Lib.hid m3; have HO1 := Lib.hid hown1; have HG1 := Lib.hid hgrow1; clear m1 m2 m3 hown1 hgrow1 hat1 hlt1) | (at_builtin; refine wpList_append_lies _ rfl (.tmp 31) (.tmp 33) 84 rfl (w.heap.size + 1) 5 i0 (.int .u8 0) 1 1 Try.underlying84 HI.out HZ0.out HZ1.out HZ2.out rfl (by decide) _ _ _ rfl M0.out ⟨w1.heap.size, 0, none⟩ 1 1 _ rfl rfl M1.out k6.out (by decide) k3.out k4.out M5.out _ rfl ?_; intro g4 c4 w2 hown2 hgrow2 hat2 hlt2; have HO2 := Lib.hid hown2; have HG2 := Lib.hid hgrow2; have HA2 := Lib.hid hat2; clear hown2 hgrow2 hat2 hlt2))
          go_roundw
          case rel => exact ⟨k + 1, g3, c3, g4, c4, by omega, by go_num, rfl, rfl, tagRows_end E1.out E2.out HO1.out HO2.out HG2.out HA2.out m5 m6, tagRows_kept HROW.out HB.out HR1.out HR2.out HG1.out HG2.out hsz2⟩
          case measure => simp [intOf]; omega
    · obtain rfl : k = s.size := by omega
      have b1 := ownsRowU_back (P := Try.prog) _ HR1.out (by rw [List.length_take, List.length_map, ← Lib.size_eq]; omega) 84 9 Try.underlying84 Try.underlying5 Try.underlying9
      have b2 := ownsRowU_back (P := Try.prog) _ HR2.out (by rw [List.length_take, List.length_map, ← Lib.size_eq]; omega) 84 9 Try.underlying84 Try.underlying5 Try.underlying9
      rw [show ((s.data.toList.map tagOf).take s.size).toArray = (tagB s).data from by rw [List.take_of_length_le (by rw [List.length_map, ← Lib.size_eq]; omega)]; rfl] at b1
      rw [show ((s.data.toList.map maskOf).take s.size).toArray = (maskB s).data from by rw [List.take_of_length_le (by rw [List.length_map, ← Lib.size_eq]; omega)]; rfl] at b2
      have q0 := cell_of_row wr w.heap.size 0 _ _ (0, 0) HROW.out
      have q1 := cell_of_row wr w.heap.size 1 _ _ (0, 0) HROW.out
      have q2 := cell_of_row wr w.heap.size 2 _ _ (0, 0) HROW.out
      have q3 := cell_of_row wr w.heap.size 3 _ _ (0, 0) HROW.out
      have hfz : ∀ o, wr.frozen? ⟨w.heap.size, o, none⟩ = false := fun o => by have := HROW.out; simp [World.frozen?, this]
      simp at q0 q1 q2 q3
      have hw := HB.out
      go_wp2_with fail
      refine bodyPost_ret (v := patV (tagB s) (maskB s) tagSkip kind) ?_ rfl ⟨rfl, (((hw.setCell (Nat.le_refl _) _).setCell (Nat.le_refl _) _).setCell (Nat.le_refl _) _).setCell (Nat.le_refl _) _⟩
      simp [results, Try.results66, go_sem, q0, q1, q2, q3, tagB, maskB, tagSkip]

/-- Where a tag ends. -/
def endsN (t : ByteArray) (n : Int) : Bool := decide (0 ≤ n) && match t.data.toList[n.toNat]? with | some x => x == 32 || x == 62 | none => false

theorem endsN_at (t : ByteArray) (k : Nat) (hk : k < t.size) : endsN t k = (t[k] == 32 || t[k] == 62) := by
  unfold endsN
  rw [getElem_data t k hk]
  have hk' : k < t.data.toList.length := by rw [← Lib.size_eq]; exact hk
  rw [show ((k : Int)).toNat = k by omega, List.getElem?_eq_getElem hk']
  simp

theorem endsN_out (t : ByteArray) (n : Int) (h : n < 0 ∨ (t.size : Int) ≤ n) : endsN t n = false := by
  unfold endsN
  rcases h with h | h
  · rw [decide_eq_false (by omega)]; rfl
  · rw [List.getElem?_eq_none (by rw [← Lib.size_eq]; omega)]
    simp

theorem is_byte (x y : UInt8) : (((x.toNat : Int)) == (y.toNat : Int)) = (x == y) := by
  rw [beq_u8]
  rw [Bool.eq_iff_iff]; simp

theorem Ends_any06 (t : ByteArray) (n : Int) (w : World) (ht : t.size ≤ maxLen) :
    Calls Try.prog 67 #[.string t, .int .i64 n] w fun e w' => e = .returned (.bool (endsN t n)) ∧ w = w' := by
  go_enter Try.func67, Try.ntmps67
  by_cases h : 0 ≤ n ∧ n < (t.size : Int)
  · obtain ⟨k, rfl⟩ : ∃ k : Nat, n = k := ⟨n.toNat, by omega⟩
    have hlt : k < t.size := by omega
    have hidx := index_byte (P := Try.prog) 9 Try.underlying9 t k hlt
    have HE := Lib.hid (endsN_at t k hlt)
    generalize t[k] = x at *
    have b1 := is_byte x 32
    have b2 := is_byte x 62
    go_wp2
    all_goals go_ret
    all_goals exact ⟨by rw [HE.out]; simp_all, rfl⟩
  · have HE := Lib.hid (endsN_out t n (by omega))
    by_cases h0 : 0 ≤ n
    · go_wp2
      all_goals go_ret
      all_goals exact ⟨by rw [HE.out]; rfl, rfl⟩
    · go_wp2
      all_goals go_ret
      all_goals exact ⟨by rw [HE.out]; rfl, rfl⟩

/-! The plain part. -/

theorem tag_self (x : UInt8) : (x &&& maskOf x) = tagOf x := by
  refine all_u8 (p := fun x => (x &&& maskOf x) = tagOf x) ?_ x
  decide +kernel

theorem tag_low (x : UInt8) : (lowOf x &&& maskOf x) = tagOf x := by
  refine all_u8 (p := fun x => (lowOf x &&& maskOf x) = tagOf x) ?_ x
  decide +kernel

theorem agree_self (l : List UInt8) : agreeL l (l.map tagOf) (l.map maskOf) = true := by
  induction l with
  | nil => rfl
  | cons x l ih => simp [agreeL, ih, tag_self]

theorem agree_low (l : List UInt8) : agreeL (lowerL l) (l.map tagOf) (l.map maskOf) = true := by
  induction l with
  | nil => rfl
  | cons x l ih =>
    simp only [lowerL, List.map_cons, agreeL] at *
    rw [ih, tag_low]
    simp

theorem low_skip (x : UInt8) : tagSkip.data.toList.contains (lowOf x) = tagSkip.data.toList.contains x := by
  refine all_u8 (p := fun x => tagSkip.data.toList.contains (lowOf x) = tagSkip.data.toList.contains x) ?_ x
  decide +kernel

theorem behind_head {l k : List UInt8} {x : UInt8} (h : k.contains x = false) : behind (x :: l) k = x :: l := by
  unfold behind
  rw [List.dropWhile_cons_of_neg (by rw [h]; decide)]

theorem match_self (s : ByteArray) (h0 : s.size ≠ 0) (h64 : s.size ≤ 64) (h : aheadN s tagSkip = 0) : matchB s (tagB s) (maskB s) tagSkip = true := by
  have hg : goodM (tagB s) (maskB s) = true := by unfold goodM; rw [tagB_size, maskB_size]; exact decide_eq_true (by omega)
  have hr : behind s.data.toList tagSkip.data.toList = s.data.toList := by
    rw [← restM_data]
    unfold restM
    rw [h, extract_all]
  unfold matchB matchL
  rw [hg, hr]
  show (true && (agreeL s.data.toList (s.data.toList.map tagOf) (s.data.toList.map maskOf) && _)) = true
  rw [agree_self]
  simp [tagB]

theorem match_low (s t : ByteArray) (h0 : s.size ≠ 0) (h64 : s.size ≤ 64) (h : aheadN s tagSkip = 0) : matchB (lowerB s ++ t) (tagB s) (maskB s) tagSkip = true := by
  have hg : goodM (tagB s) (maskB s) = true := by unfold goodM; rw [tagB_size, maskB_size]; exact decide_eq_true (by omega)
  have hr : behind s.data.toList tagSkip.data.toList = s.data.toList := by
    rw [← restM_data]
    unfold restM
    rw [h, extract_all]
  have hd : (lowerB s ++ t).data.toList = lowerL s.data.toList ++ t.data.toList := by rw [ByteArray.data_append]; simp [lowerB]
  have hsz : s.data.toList.length = s.size := (Lib.size_eq s).symm
  unfold matchB matchL
  rw [hg, hd]
  show (true && (agreeL (behind (lowerL s.data.toList ++ t.data.toList) tagSkip.data.toList) (s.data.toList.map tagOf) (s.data.toList.map maskOf) && decide ((s.data.toList.map tagOf).length ≤ _))) = true
  generalize s.data.toList = l at *
  match l, hr, hsz with
  | [], _, hsz => simp at hsz; omega
  | x :: l, hr, _ =>
    have hx : tagSkip.data.toList.contains x = false := by
      cases hc : tagSkip.data.toList.contains x
      · rfl
      · unfold behind at hr
        rw [List.dropWhile_cons_of_pos (by rw [hc])] at hr
        have := congrArg List.length hr
        have h2 := (List.dropWhile_suffix (l := l) (fun x => tagSkip.data.toList.contains x)).length_le
        rw [List.length_cons] at this
        omega
    have hb : behind (lowerL (x :: l) ++ t.data.toList) tagSkip.data.toList = lowerL (x :: l) ++ t.data.toList := behind_head (l := lowerL l ++ t.data.toList) (by rw [low_skip]; exact hx)
    rw [hb, agreeL_append _ _ _ _ (by simp [lowerL]) (by simp), agree_low]
    simp [lowerL]

end Go.Proofs.Ytgdhemhapfpkiaa
