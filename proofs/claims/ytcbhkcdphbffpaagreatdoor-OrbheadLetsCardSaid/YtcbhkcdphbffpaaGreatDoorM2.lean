/-
  Lemmas of this claim, part 2: the texts BytesMem, ClassB, SpanPlain, CursorA, CursorB, TrapVStr, TrapVU32, CursorC, BigPlain, CursorD, CursorE, CursorG, QuoPlain, one behind the other.
-/
import Derived.Test.YtcbhkcdphbffpaaGreatDoorM1
import Derived.Laws.IdiomStrings
import Derived.Conc.MuLone
import Derived.Deep.QuietTactic
import Derived.BigQuiet
import Derived.Laws.Rows
import Derived.LaidEqlPtr
import Derived.Test.YtcbhkcdphbffpaaGreatDoorShelf

namespace Go.Proofs.YtcbhkcdphbffpaaGreatDoor
open Go.RowKit
set_option linter.unusedSimpArgs false
set_option linter.unusedVariables false

/-- Block g of the world holds the bytes l from its head on, and they may be written. -/
def BytesAt (w : World) (g : Nat) (l : List UInt8) : Prop :=
  ∀ j (h : j < l.length), w.cell? ⟨g, j, none⟩ = some (.int .u8 (l[j].toNat : Int)) ∧ w.frozen? ⟨g, j, none⟩ = false

theorem BytesAt.drew {w : World} {g : Nat} {l : List UInt8} (h : BytesAt w g l) : BytesAt w.drew g l := h

theorem BytesAt.below {w w' : World} {B g : Nat} {l : List UInt8} (h : BytesAt w g l) (hb : Below B w w') (hg : g < B) : BytesAt w' g l := by
  intro j hj
  have := h j hj
  exact ⟨by rw [hb.cell (p := ⟨g, j, none⟩) hg]; exact this.1, by rw [hb.frozen (p := ⟨g, j, none⟩) hg]; exact this.2⟩

theorem BytesAt.set {w : World} {g : Nat} {l : List UInt8} (h : BytesAt w g l) (k : Nat) (hk : k < l.length) (b : UInt8) :
    BytesAt (w.setCell ⟨g, k, none⟩ (.int .u8 b.toNat)) g (l.set k b) := by
  intro j hj
  have hj' : j < l.length := by simpa using hj
  refine ⟨?_, by rw [World.frozen?_setCell]; exact (h j hj').2⟩
  by_cases e : k = j
  · subst e
    rw [World.cell?_setCell_same (h := (h k hk).1)]
    simp
  · rw [World.cell?_setCell_other (h := by intro e'; apply e; simpa using e'.symm)]
    rw [(h j hj').1]
    simp [e]

theorem BytesAt.ofString (w : World) (s : ByteArray) (cap : Nat) (e : TypeId) :
    BytesAt (w.alloc (.cells (bytesRow s cap) e ((bytesRow s cap).size, (bytesRow s cap).size + 1))) w.heap.size s.data.toList := by
  intro j hj
  have hj' : j < s.data.size := by simpa using hj
  refine ⟨?_, ?_⟩
  · rw [World.cell?_alloc_mark, bytesRow_at s cap j hj']
    simp
  · rw [World.frozen?_alloc_mark]
    have : j < (bytesRow s cap).size := by
      have := bytesRow_at s cap j hj'
      exact (Array.getElem?_eq_some_iff.1 this).1
    simp
    omega

/-- A text with small letters. -/
def lowerB (s : ByteArray) : ByteArray := ⟨(lowerL s.data.toList).toArray⟩

theorem lowerB_data (s : ByteArray) : (lowerB s).data.toList = lowerL s.data.toList := rfl

theorem lowerB_size (s : ByteArray) : (lowerB s).size = s.size := by
  rw [Lib.size_eq, lowerB_data, Lib.size_eq]; simp [lowerL]

theorem lowerB_idem (s : ByteArray) : lowerB (lowerB s) = lowerB s := by
  unfold lowerB; simp only [lowerL_idem]

theorem sameB_eq (a b : ByteArray) : (lowerL a.data.toList == lowerL b.data.toList) = ((lowerB a).toList == (lowerB b).toList) := by
  rw [Lib.toList_data, Lib.toList_data, lowerB_data, lowerB_data]

/-- The first k bytes made small. -/
def lowTo (l : List UInt8) (k : Nat) : List UInt8 := (l.take k).map lowOf ++ l.drop k

theorem lowTo_length (l : List UInt8) (k : Nat) : (lowTo l k).length = l.length := by
  simp [lowTo]; omega

theorem lowTo_zero (l : List UInt8) : lowTo l 0 = l := by simp [lowTo]

theorem lowTo_all (l : List UInt8) : lowTo l l.length = lowerL l := by simp [lowTo, lowerL]

theorem lowTo_at (l : List UInt8) (k : Nat) (hk : k < l.length) : (lowTo l k)[k]'(by rw [lowTo_length]; exact hk) = l[k] := by
  simp only [lowTo]
  rw [List.getElem_append_right (by simp; omega)]
  simp
  congr 1
  omega

theorem lowTo_step (l : List UInt8) (k : Nat) (hk : k < l.length) : (lowTo l k).set k (lowOf l[k]) = lowTo l (k + 1) := by
  have e1 : ((l.take k).map lowOf).length = k := by simp; omega
  unfold lowTo
  rw [List.drop_eq_getElem_cons hk, List.set_append_right _ _ (by omega), e1, Nat.sub_self, List.set_cons_zero, List.take_succ_eq_append_getElem hk]
  simp only [List.map_append, List.map_cons, List.map_nil, List.append_assoc, List.cons_append, List.nil_append]

theorem BytesAt.low {w : World} {g : Nat} {s : ByteArray} {k : Nat} (h : BytesAt w g (lowTo s.data.toList k)) (hk : k < s.size) :
    ∃ x : UInt8, w.cell? ⟨g, k, none⟩ = some (.int .u8 (x.toNat : Int)) ∧ w.frozen? ⟨g, k, none⟩ = false ∧
      BytesAt (w.setCell ⟨g, k, none⟩ (.int .u8 ((lowOf x).toNat : Int))) g (lowTo s.data.toList (k + 1)) := by
  rw [Lib.size_eq] at hk
  have hl : k < (lowTo s.data.toList k).length := by rw [lowTo_length]; exact hk
  obtain ⟨hc, hf⟩ := h k hl
  rw [lowTo_at _ _ hk] at hc
  exact ⟨_, hc, hf, by rw [← lowTo_step _ _ hk]; exact h.set k hl _⟩

theorem BytesAt.back {P : Program} {w : World} {g : Nat} {l : List UInt8} (h : BytesAt w g l) {n : Nat} (cap : Nat) (hn : n = l.length) (src dst e : TypeId)
    (hs : P.underlying src = some (.slice e)) (he : P.underlying e = some (.int .u8)) (hd : P.underlying dst = some .string) :
    (convert src dst (.slice (some ⟨g, 0, none⟩) n cap)).run P w = .ok (.string ⟨l.toArray⟩) w := by
  subst hn
  refine run_convert_bytes_back w src dst e ⟨g, 0, none⟩ cap l hs he hd ?_
  intro j hj
  rw [show (⟨g, 0, none⟩ : Addr).add j = ⟨g, j, none⟩ from by rw [Addr.add_lit, Nat.zero_add]]
  exact (h j hj).1

end Go.Proofs.YtcbhkcdphbffpaaGreatDoor

namespace Go.Proofs.YtcbhkcdphbffpaaGreatDoor
open Go.RowKit
set_option linter.unusedSimpArgs false
set_option linter.unusedVariables false

theorem lower_any (s : ByteArray) (w : World) (hs : s.size ≤ maxLen) :
    Calls Tryz.prog 198 #[.string s] w fun e w' => e = .returned (.string (lowerB s)) ∧ Below w.heap.size w w' := by
  unfold maxLen at hs
  have hconv := run_bytes_of_string (P := Tryz.prog) w 9 98 5 s Tryz.underlying9 Tryz.underlying98 Tryz.underlying5
  have h0 := BytesAt.ofString w s (grownCap w s.size 0 5) 5
  have hsz := Lib.size_eq s
  have H0 := Lib.hid h0; clear h0
  have HZ := Lib.hid hsz; clear hsz
  go_enter Tryz.func198, Tryz.ntmps198
  go_wp2
  clear hconv
  go_loopw [4, 9] (fun i i2 wr => ∃ k : Nat, k ≤ s.size ∧ i2 = .int .i64 k ∧ BytesAt wr w.heap.size (lowTo s.data.toList k) ∧ Below w.heap.size w wr) (fun _ i _ => s.size - (intOf i).toNat)
  case atStart => exact ⟨0, Nat.zero_le _, rfl, by rw [lowTo_zero]; exact H0.out, ((Below.refl _ _).alloc (Nat.le_refl _) _).drew⟩
  case round =>
    obtain ⟨k, hk, rfl, hby, hbl⟩ := hrel
    have HB := Lib.hid hby; clear hby
    have HW := Lib.hid hbl; clear hbl
    by_cases hlt : k < s.size
    · obtain ⟨x, hc, hf, hn⟩ := HB.out.low hlt
      have HN := Lib.hid hn; clear hn
      go_wp2_with (go_at_call 140; refine (low_any _ _).mono ?_; rintro e w' ⟨rfl, rfl⟩)
      go_roundw
      case rel => exact ⟨k + 1, by omega, by go_num, HN.out, HW.out.setCell (Nat.le_refl _) _⟩
      case measure => simp [intOf]; omega
    · obtain rfl : k = s.size := by omega
      have hby := HB.out
      rw [HZ.out, lowTo_all] at hby
      have hback := hby.back (P := Tryz.prog) (n := s.size) (grownCap w s.size 0 5) (by rw [HZ.out]; simp [lowerL]) 98 9 5 Tryz.underlying98 Tryz.underlying5 Tryz.underlying9
      clear hby
      go_wp2
      go_ret
      exact ⟨rfl, HW.out⟩

theorem Lower_any (s : ByteArray) (w : World) (hs : s.size ≤ maxLen) :
    Calls Tryz.prog 179 #[.string s] w fun e w' => e = .returned (.string (lowerB s)) ∧ Below w.heap.size w w' := by
  go_enter Tryz.func179, Tryz.ntmps179
  go_wp2_with (go_at_call 198; refine (lower_any _ _ hs).mono ?_; rintro e w' ⟨rfl, hb⟩)
  go_ret
  exact ⟨rfl, hb⟩

theorem Cut_any (s : ByteArray) (n : Nat) (w : World) (hs : s.size ≤ maxLen) (hn : (n : Int) ≤ 100000) :
    Calls Tryz.prog 21 #[.string s, .int .i64 n] w fun e w' => e = .returned (.string (cutB s n)) ∧ w = w' := by
  unfold maxLen at hs
  unfold cutB
  by_cases h : n < s.size
  · rw [if_pos h]
    go_enter Tryz.func21, Tryz.ntmps21
    go_wp2
    go_ret
    exact ⟨rfl, rfl⟩
  · rw [if_neg h]
    go_enter Tryz.func21, Tryz.ntmps21
    go_wp2
    go_ret
    exact ⟨rfl, rfl⟩

theorem Cut_100 (s : ByteArray) (w : World) (hs : s.size ≤ maxLen) :
    Calls Tryz.prog 21 #[.string s, .int .i64 100] w fun e w' => e = .returned (.string (cutB s 100)) ∧ w = w' :=
  Cut_any s 100 w hs (by decide)

theorem same_any (a b : ByteArray) (w : World) (ha : a.size ≤ maxLen) (hb : b.size ≤ maxLen) :
    Calls Tryz.prog 97 #[.string a, .string b] w fun e w' => e = .returned (.bool (lowerL a.data.toList == lowerL b.data.toList)) ∧ Drew w w' := by
  unfold maxLen at ha hb
  by_cases h : a.size = b.size
  · have HE := Lib.hid h; clear h
    have hne : ((a.size : Int) != (b.size : Int)) = false := by rw [HE.out]; simp
    go_enter Tryz.func97, Tryz.ntmps97
    go_wp2
    go_loopw [5, 13] (fun i i2 wr => ∃ k : Nat, k ≤ a.size ∧ i2 = .int .i64 k ∧ Drew w wr ∧ SameTo a b k) (fun _ i _ => a.size - (intOf i).toNat)
    case atStart => exact ⟨0, Nat.zero_le _, rfl, Drew.refl _, sameTo_zero a b⟩
    case round =>
      obtain ⟨k, hk, rfl, hd, hp⟩ := hrel
      have HP := Lib.hid hp; clear hp
      by_cases hlt : k < a.size
      · have hlt2 : k < b.size := by rw [← HE.out]; exact hlt
        go_wp2
        go_quiet ((go_at_call 140; exact quiet_same (low_any _ _)))
        go_wp2
        · go_ret
          exact ⟨ret_bool (sameTo_miss hlt hlt2 ‹_›).symm, hd.drewN _⟩
        · go_roundw
          case rel => exact ⟨k + 1, by omega, by go_num, hd.drewN _, sameTo_step HP.out hlt hlt2 ‹_›⟩
          case measure => simp [intOf]; omega
      · obtain rfl : k = a.size := by omega
        go_wp2
        go_ret
        exact ⟨ret_bool (sameTo_all HE.out HP.out).symm, hd⟩
  · have hne : ((a.size : Int) != (b.size : Int)) = true := by simp; omega
    have HE := Lib.hid h; clear h
    go_enter Tryz.func97, Tryz.ntmps97
    go_wp2
    go_ret
    exact ⟨ret_bool (same_size HE.out).symm, Drew.refl _⟩

theorem Same_any (a b : ByteArray) (w : World) (ha : a.size ≤ maxLen) (hb : b.size ≤ maxLen) :
    Calls Tryz.prog 73 #[.string a, .string b] w fun e w' => e = .returned (.bool (lowerL a.data.toList == lowerL b.data.toList)) ∧ Drew w w' := by
  go_enter Tryz.func73, Tryz.ntmps73
  go_wp2_with (go_at_call 97; refine (same_any _ _ _ ha hb).mono ?_; rintro e w' ⟨rfl, hd⟩)
  go_ret
  exact ⟨rfl, hd⟩

/-- Function K asks a byte whether p holds of it, and turns nothing. -/
def FnPure (K : FuncId) (p : UInt8 → Bool) : Prop :=
  (∀ (args : Array Value) (w : World), (callFunc K args).run Tryz.prog w = .ok (.enter K args) w) ∧
    ∀ (b : UInt8) (w : World), Calls Tryz.prog K #[.int .u8 b.toNat] w fun e w' => e = .returned (.bool (p b)) ∧ w = w'

theorem end_any (K : FuncId) (p : UInt8 → Bool) (hK : FnPure K p) (s : ByteArray) (w : World) (hs : s.size ≤ maxLen) :
    Calls Tryz.prog 191 #[.string s, .func (.func K) #[] #[]] w fun e w' => e = .returned (.int .i64 (trimEnd p s.data.toList).length) ∧ w = w' := by
  unfold maxLen at hs
  obtain ⟨hcf, hK2⟩ := hK
  have HK := Lib.hid hK2; clear hK2
  go_enter Tryz.func191, Tryz.ntmps191
  go_wp2
  go_loop [5] (fun i => ∃ n : Nat, n ≤ s.size ∧ i = .int .i64 n ∧ trimEnd p (s.data.toList.take n) = trimEnd p s.data.toList) (fun i => (intOf i).toNat)
  case atStart => exact ⟨s.size, Nat.le_refl _, rfl, by rw [List.take_of_length_le (by rw [← Lib.size_eq]; omega)]⟩
  case round =>
    obtain ⟨n, hn, rfl, hp⟩ := hrel
    have HP := Lib.hid hp; clear hp
    cases n with
    | zero =>
      go_wp2
      go_ret
      exact ⟨ret_int (by rw [← HP.out]; simp [trimEnd]), rfl⟩
    | succ n =>
      have hlt : n < s.size := by omega
      cases hb : p s[n]
      · have HB := Lib.hid hb; clear hb
        go_wp2_with fail
        refine (HK.out _ _).mono ?_
        rintro e w' ⟨rfl, rfl⟩
        rw [HB.out]
        go_wp2_with fail
        go_ret
        exact ⟨ret_int (by rw [← HP.out, trimEnd_stopB p s n hlt HB.out, take_lengthB s _ hn]; first | rfl | omega), rfl⟩
      · have HB := Lib.hid hb; clear hb
        go_wp2_with fail
        refine (HK.out _ _).mono ?_
        rintro e w' ⟨rfl, rfl⟩
        rw [HB.out]
        go_wp2_with fail
        go_round
        case rel => exact ⟨n, by omega, by go_num, by rw [← HP.out, trimEnd_atB p s n hlt HB.out]⟩
        case measure => simp [intOf]

theorem fnWhite : FnPure 197 isWhite :=
  ⟨fun args w => MuLone.run_callFunc_enter Tryz.func197 (by kernel_rfl) rfl args w, white_any⟩

theorem fnTabbed : FnPure 171 isTab :=
  ⟨fun args w => MuLone.run_callFunc_enter Tryz.func171 (by kernel_rfl) rfl args w, tabbed_any⟩

theorem fnToken : FnPure 200 isToken :=
  ⟨fun args w => MuLone.run_callFunc_enter Tryz.func200 (by kernel_rfl) rfl args w, Token_any⟩

theorem fnDigit : FnPure 150 isDigit :=
  ⟨fun args w => MuLone.run_callFunc_enter Tryz.func150 (by kernel_rfl) rfl args w, Digit_any⟩

theorem Ends_any (s : ByteArray) (w : World) (hs : s.size ≤ maxLen) :
    Calls Tryz.prog 166 #[.string s] w fun e w' => e = .returned (.string (endsB s)) ∧ w = w' := by
  have hl := trimEnd_leB isTab s
  have HE := Lib.hid (extract_trimEnd isTab s)
  have hs' := hs
  unfold maxLen at hs'
  go_enter Tryz.func166, Tryz.ntmps166
  go_wp2_with (go_at_call 191; refine (end_any _ _ fnTabbed _ _ hs).mono ?_; rintro e w' ⟨rfl, rfl⟩)
  go_ret
  exact ⟨ret_string HE.out, rfl⟩

theorem Trim_any (s : ByteArray) (w : World) (hs : s.size ≤ maxLen) :
    Calls Tryz.prog 178 #[.string s] w fun e w' => e = .returned (.string (trimB s)) ∧ w = w' := by
  have hl := trimEnd_leB isWhite s
  have HE := Lib.hid (extract_trimEnd isWhite s)
  have hs' := hs
  unfold maxLen at hs'
  go_enter Tryz.func178, Tryz.ntmps178
  go_wp2_with (go_at_call 191; refine (end_any _ _ fnWhite _ _ hs).mono ?_; rintro e w' ⟨rfl, rfl⟩)
  generalize hT : s.extract 0 (trimEnd isWhite s.data.toList).length = t
  have ht : t.data.toList = trimEnd isWhite s.data.toList := by rw [← hT, HE.out]
  have hts : t.size ≤ 9223372036854775807 := by rw [Lib.size_eq, ht]; omega
  have HT := Lib.hid ht
  clear ht hT HE
  go_loop [3] (fun i => ∃ n : Nat, n ≤ t.size ∧ i = .int .i64 n ∧ (t.data.toList.drop n).dropWhile isWhite = t.data.toList.dropWhile isWhite) (fun i => t.size - (intOf i).toNat)
  case atStart => exact ⟨0, Nat.zero_le _, rfl, by rw [List.drop_zero]⟩
  case round =>
    obtain ⟨n, hn, rfl, hp⟩ := hrel
    have HP := Lib.hid hp; clear hp
    by_cases hlt : n < t.size
    · cases hb : isWhite t[n]
      · have HB := Lib.hid hb; clear hb
        go_wp2_with (go_at_call 197; refine (white_any _ _).mono ?_; rintro e w' ⟨rfl, rfl⟩; rw [HB.out])
        go_ret
        exact ⟨ret_string (trimB_of HT.out (by rw [← HP.out, dropWhile_stopB isWhite t n hlt HB.out])), rfl⟩
      · have HB := Lib.hid hb; clear hb
        go_wp2_with (go_at_call 197; refine (white_any _ _).mono ?_; rintro e w' ⟨rfl, rfl⟩; rw [HB.out])
        go_round
        case rel => exact ⟨n + 1, by omega, by go_num, by rw [← HP.out, dropWhile_atB isWhite t n hlt HB.out]⟩
        case measure => simp [intOf]; omega
    · obtain rfl : n = t.size := by omega
      go_wp2
      go_ret
      exact ⟨ret_string (by rw [← trimB_of HT.out (i := t.size) (by rw [← HP.out, drop_endB]; rfl)]; simp), rfl⟩

theorem count_any (K : FuncId) (p : UInt8 → Bool) (hK : FnPure K p) (s : ByteArray) (w : World) (hs : s.size ≤ maxLen) :
    Calls Tryz.prog 205 #[.string s, .func (.func K) #[] #[]] w fun e w' => e = .returned (.int .i64 (cnt p s.data.toList)) ∧ w = w' := by
  unfold maxLen at hs
  obtain ⟨hcf, hK2⟩ := hK
  have HK := Lib.hid hK2; clear hK2
  have hnn := fun (w : World) => run_neq_func_nil (P := Tryz.prog) w Tryz.underlying100 (.func K) #[] #[]
  go_enter Tryz.func205, Tryz.ntmps205
  go_wp2
  go_loop [5, 6] (fun m i => ∃ k : Nat, k ≤ s.size ∧ i = .int .i64 k ∧ m = .int .i64 (cnt p (s.data.toList.take k))) (fun _ i => s.size - (intOf i).toNat)
  case atStart => exact ⟨0, Nat.zero_le _, rfl, rfl⟩
  case round =>
    obtain ⟨k, hk, rfl, rfl⟩ := hrel
    have hc : cnt p (s.data.toList.take k) ≤ k := by have := cnt_le p (s.data.toList.take k); rw [take_lengthB s k hk] at this; exact this
    by_cases hlt : k < s.size
    · have HS := Lib.hid (cnt_atB p s k hlt)
      cases hb : p s[k]
      · have HB := Lib.hid hb; clear hb
        go_wp2_with fail
        refine (HK.out _ _).mono ?_
        rintro e w' ⟨rfl, rfl⟩
        rw [HB.out]
        go_wp2_with fail
        go_round
        case rel => exact ⟨k + 1, by omega, by go_num, by rw [HS.out, HB.out]; rfl⟩
        case measure => simp [intOf]; omega
      · have HB := Lib.hid hb; clear hb
        go_wp2_with fail
        refine (HK.out _ _).mono ?_
        rintro e w' ⟨rfl, rfl⟩
        rw [HB.out]
        go_wp2_with fail
        go_round
        case rel => exact ⟨k + 1, by omega, by go_num, by rw [HS.out, HB.out]; rfl⟩
        case measure => simp [intOf]; omega
    · obtain rfl : k = s.size := by omega
      go_wp2
      go_ret
      exact ⟨ret_int (by rw [take_allB]), rfl⟩

theorem count_nil (s : ByteArray) (w : World) :
    Calls Tryz.prog 205 #[.string s, .nilFunc] w fun e w' => e = .returned (.int .i64 0) ∧ w = w' := by
  have hnn := fun (w : World) => run_neq_nil_func (P := Tryz.prog) w Tryz.underlying100
  go_enter Tryz.func205, Tryz.ntmps205
  go_wp2
  go_loop [5, 6] (fun m i => m = .int .i64 0 ∧ i = .int .i64 0) (fun _ i => 0)
  case atStart => exact ⟨rfl, rfl⟩
  case round =>
    obtain ⟨rfl, rfl⟩ := hrel
    go_wp2
    go_ret
    exact ⟨rfl, rfl⟩

theorem All_any (K : FuncId) (p : UInt8 → Bool) (hK : FnPure K p) (s : ByteArray) (w : World) (hs : s.size ≤ maxLen) :
    Calls Tryz.prog 186 #[.string s, .func (.func K) #[] #[]] w fun e w' => e = .returned (.bool ((cnt p s.data.toList : Int) == s.size)) ∧ w = w' := by
  go_enter Tryz.func186, Tryz.ntmps186
  go_wp2_with (go_at_call 205; refine (count_any _ _ hK _ _ hs).mono ?_; rintro e w' ⟨rfl, rfl⟩)
  go_ret
  exact ⟨rfl, rfl⟩

theorem All_nil (s : ByteArray) (w : World) :
    Calls Tryz.prog 186 #[.string s, .nilFunc] w fun e w' => e = .returned (.bool ((0 : Int) == s.size)) ∧ w = w' := by
  go_enter Tryz.func186, Tryz.ntmps186
  go_wp2_with (go_at_call 205; refine (count_nil _ _).mono ?_; rintro e w' ⟨rfl, rfl⟩)
  go_ret
  exact ⟨rfl, rfl⟩

theorem rEnds_any (s : ByteArray) (w : World) (hs : s.size ≤ maxLen) :
    Calls Tryz.prog 87 #[.string s] w fun e w' => e = .returned (.string (endsB s)) ∧ w = w' := by
  unfold maxLen at hs
  go_enter Tryz.func87, Tryz.ntmps87
  go_wp2
  go_loop [0] (fun v => ∃ t : ByteArray, v = .string t ∧ t.size ≤ s.size ∧ trimEnd isTab t.data.toList = trimEnd isTab s.data.toList) (fun v => strLen v)
  case atStart => exact ⟨s, rfl, Nat.le_refl _, rfl⟩
  case round =>
    obtain ⟨t, rfl, hts, hp⟩ := hrel
    have HP := Lib.hid hp; clear hp
    by_cases hlt : 0 < t.size
    · cases hb : isTab t[t.size - 1]
      · have HB := Lib.hid hb; clear hb
        go_wp2_with (go_at_call 86; refine (rTab_any t[t.size - 1] _).mono ?_; rintro e w' ⟨rfl, rfl⟩; rw [HB.out])
        go_ret
        exact ⟨ret_string (endsB_stop isTab HP.out hlt HB.out), rfl⟩
      · have HB := Lib.hid hb; clear hb
        go_wp2_with (go_at_call 86; refine (rTab_any t[t.size - 1] _).mono ?_; rintro e w' ⟨rfl, rfl⟩; rw [HB.out])
        go_round
        case rel => exact ⟨_, rfl, by rw [extract_size]; omega, endsB_step isTab HP.out hlt HB.out⟩
        case measure => simp [strLen, ByteArray.size_extract]; omega
    · go_wp2
      go_ret
      exact ⟨ret_string (endsB_empty isTab HP.out (by omega)), rfl⟩

theorem rTrim_any (s : ByteArray) (w : World) (hs : s.size ≤ maxLen) :
    Calls Tryz.prog 111 #[.string s] w fun e w' => e = .returned (.string (trimB s)) ∧ w = w' := by
  unfold maxLen at hs
  go_enter Tryz.func111, Tryz.ntmps111
  go_wp2
  go_loop [0] (fun v => ∃ t : ByteArray, v = .string t ∧ t.size ≤ s.size ∧ t.data.toList.dropWhile isWhite = s.data.toList.dropWhile isWhite) (fun v => strLen v)
  case atStart => exact ⟨s, rfl, Nat.le_refl _, rfl⟩
  case round =>
    obtain ⟨t, rfl, hts, hp⟩ := hrel
    have HP := Lib.hid hp; clear hp
    by_cases hlt : 0 < t.size
    · cases hb : isWhite t[0]
      · have HB := Lib.hid hb; clear hb
        have HF := Lib.hid (front_stop isWhite HP.out hlt HB.out)
        go_wp2_with (go_at_call 115; refine (rWhite_any t[0] _).mono ?_; rintro e w' ⟨rfl, rfl⟩; rw [HB.out])
        go_loop [0] (fun v => ∃ q : ByteArray, v = .string q ∧ q.size ≤ s.size ∧ trimEnd isWhite q.data.toList = trimEnd isWhite t.data.toList) (fun v => strLen v)
        case atStart => exact ⟨t, rfl, hts, rfl⟩
        case round =>
          obtain ⟨q, rfl, hqs, hp⟩ := hrel
          have HQ := Lib.hid hp; clear hp
          by_cases hq : 0 < q.size
          · cases hb2 : isWhite q[q.size - 1]
            · have HB2 := Lib.hid hb2; clear hb2
              go_wp2_with (go_at_call 115; refine (rWhite_any q[q.size - 1] _).mono ?_; rintro e w' ⟨rfl, rfl⟩; rw [HB2.out])
              go_ret
              exact ⟨ret_string (trimB_back HF.out (endsB_stop isWhite HQ.out hq HB2.out)), rfl⟩
            · have HB2 := Lib.hid hb2; clear hb2
              go_wp2_with (go_at_call 115; refine (rWhite_any q[q.size - 1] _).mono ?_; rintro e w' ⟨rfl, rfl⟩; rw [HB2.out])
              go_round
              case rel => exact ⟨_, rfl, by rw [extract_size]; omega, endsB_step isWhite HQ.out hq HB2.out⟩
              case measure => simp [strLen, ByteArray.size_extract]; omega
          · go_wp2
            go_ret
            exact ⟨ret_string (trimB_back HF.out (endsB_empty isWhite HQ.out (by omega))), rfl⟩
      · have HB := Lib.hid hb; clear hb
        go_wp2_with (go_at_call 115; refine (rWhite_any t[0] _).mono ?_; rintro e w' ⟨rfl, rfl⟩; rw [HB.out])
        go_round
        case rel => exact ⟨_, rfl, by rw [extract_size]; omega, front_step isWhite HP.out hlt HB.out⟩
        case measure => simp [strLen, ByteArray.size_extract]; omega
    · have HF := Lib.hid (front_empty isWhite HP.out (by omega))
      go_wp2
      go_loop [0] (fun v => ∃ q : ByteArray, v = .string q ∧ q.size ≤ s.size ∧ trimEnd isWhite q.data.toList = trimEnd isWhite t.data.toList) (fun v => strLen v)
      case atStart => exact ⟨t, rfl, hts, rfl⟩
      case round =>
        obtain ⟨q, rfl, hqs, hp⟩ := hrel
        have HQ := Lib.hid hp; clear hp
        by_cases hq : 0 < q.size
        · cases hb2 : isWhite q[q.size - 1]
          · have HB2 := Lib.hid hb2; clear hb2
            go_wp2_with (go_at_call 115; refine (rWhite_any q[q.size - 1] _).mono ?_; rintro e w' ⟨rfl, rfl⟩; rw [HB2.out])
            go_ret
            exact ⟨ret_string (trimB_back HF.out (endsB_stop isWhite HQ.out hq HB2.out)), rfl⟩
          · have HB2 := Lib.hid hb2; clear hb2
            go_wp2_with (go_at_call 115; refine (rWhite_any q[q.size - 1] _).mono ?_; rintro e w' ⟨rfl, rfl⟩; rw [HB2.out])
            go_round
            case rel => exact ⟨_, rfl, by rw [extract_size]; omega, endsB_step isWhite HQ.out hq HB2.out⟩
            case measure => simp [strLen, ByteArray.size_extract]; omega
        · go_wp2
          go_ret
          exact ⟨ret_string (trimB_back HF.out (endsB_empty isWhite HQ.out (by omega))), rfl⟩

end Go.Proofs.YtcbhkcdphbffpaaGreatDoor

namespace Go.Proofs.YtcbhkcdphbffpaaGreatDoor
set_option linter.unusedSimpArgs false

/-- How many bytes ahead are of a kind. -/
def spanN (p : UInt8 → Bool) (l : List UInt8) : Nat := (l.takeWhile p).length

theorem spanN_le (p : UInt8 → Bool) (l : List UInt8) : spanN p l ≤ l.length := (List.takeWhile_prefix p).length_le

/-- The first n bytes of a text are of a kind. -/
def AllTo (p : UInt8 → Bool) (t : ByteArray) (n : Nat) : Prop := ∀ j (h : j < t.size), j < n → p t[j] = true

theorem spanN_list (p : UInt8 → Bool) (l : List UInt8) (n : Nat) (hn : n ≤ l.length) (h : ∀ j (h : j < l.length), j < n → p l[j] = true) (hend : ∀ (hlt : n < l.length), p l[n] = false) : spanN p l = n := by
  induction l generalizing n with
  | nil => simp at hn; subst hn; rfl
  | cons x l ih =>
    cases n with
    | zero =>
      have := hend (by simp)
      simp at this
      simp [spanN, List.takeWhile_cons, this]
    | succ n =>
      have hx : p x = true := h 0 (by simp) (by omega)
      have := ih n (by simpa using hn) (fun j hj hjn => h (j + 1) (by simpa using hj) (by omega)) (fun hlt => hend (by simpa using hlt))
      simp [spanN, List.takeWhile_cons, hx] at this ⊢
      exact this

theorem spanN_of (p : UInt8 → Bool) (t : ByteArray) (n : Nat) (hn : n ≤ t.size) (h : AllTo p t n) (hend : ∀ (hlt : n < t.size), p t[n] = false) : spanN p t.data.toList = n := by
  refine spanN_list p _ n (by rw [← Lib.size_eq]; exact hn) (fun j hj hjn => ?_) fun hlt => ?_
  · exact h j (by rw [Lib.size_eq]; exact hj) hjn
  · exact hend (by rw [Lib.size_eq]; exact hlt)

theorem allTo_step {p : UInt8 → Bool} {t : ByteArray} {n : Nat} (h : AllTo p t n) (hn : n < t.size) (hp : p t[n] = true) : AllTo p t (n + 1) := fun j hj hjn => by
  by_cases e : j = n
  · subst e; exact hp
  · exact h j hj (by omega)

end Go.Proofs.YtcbhkcdphbffpaaGreatDoor

namespace Go.Proofs.YtcbhkcdphbffpaaGreatDoor
open Go.RowKit
set_option linter.unusedSimpArgs false
set_option linter.unusedVariables false

/-- Block g is just a cursor's two cells: the text, and how many bytes are gone by. -/
def Cur (w : World) (g : Nat) (s : ByteArray) (k : Nat) : Prop := w.heap[g]? = some (.cells #[.string s, .int .i64 k] 163 (0, 0))

theorem Cur.lt {w : World} {g : Nat} {s : ByteArray} {k : Nat} (h : Cur w g s k) : g < w.heap.size := by
  rcases Nat.lt_or_ge g w.heap.size with hlt | hge
  · exact hlt
  · unfold Cur at h; rw [Array.getElem?_eq_none hge] at h; cases h

theorem Cur.text {w : World} {g : Nat} {s : ByteArray} {k : Nat} (h : Cur w g s k) : w.cell? ⟨g, 0, none⟩ = some (.string s) := cell_of_row w g 0 _ _ (0, 0) h
theorem Cur.gone {w : World} {g : Nat} {s : ByteArray} {k : Nat} (h : Cur w g s k) : w.cell? ⟨g, 1, none⟩ = some (.int .i64 k) := cell_of_row w g 1 _ _ (0, 0) h
theorem Cur.free {w : World} {g : Nat} {s : ByteArray} {k : Nat} (h : Cur w g s k) (o : Nat) : w.frozen? ⟨g, o, none⟩ = false := by
  unfold Cur at h
  simp [World.frozen?, h]

theorem Cur.below {B : Nat} {w w' : World} {g : Nat} {s : ByteArray} {k : Nat} (h : Cur w g s k) (hb : Below B w w') (hg : g < B) : Cur w' g s k := (hb.block g hg).trans h

theorem Cur.stays {B g : Nat} {s : ByteArray} {k : Nat} (hg : g < B) : Stays B (fun w => Cur w g s k) := fun _ _ hb h => h.below hb hg

theorem Cur.set {w : World} {g : Nat} {s : ByteArray} {k : Nat} (h : Cur w g s k) (n : Nat) : Cur (w.setCell ⟨g, 1, none⟩ (.int .i64 n)) g s n := by
  unfold Cur at h ⊢
  simp [World.setCell, Array.getElem?_modify, h]

theorem Cur.new (w : World) (s : ByteArray) : Cur (w.alloc (.cells #[.string s, .int .i64 0] 163)) w.heap.size s 0 := heap_alloc_new w _

theorem Cur.drewN {w : World} {g : Nat} {s : ByteArray} {k : Nat} (h : Cur w g s k) (n : Nat) : Cur (w.drewN n) g s k := h

/-- Nothing but block g has turned. -/
def But (g : Nat) (w w' : World) : Prop := w.grownBy w' (some g)

theorem But.refl (g : Nat) (w : World) : But g w w := World.grownBy.refl w _

theorem But.drewN {g : Nat} {a w : World} (h : But g a w) (n : Nat) : But g a (w.drewN n) := ⟨h.os, h.tape, h.output, h.size, h.block⟩
theorem But.drew {g : Nat} {a w : World} (h : But g a w) : But g a w.drew := ⟨h.os, h.tape, h.output, h.size, h.block⟩

theorem But.alloc {g : Nat} {a w : World} (h : But g a w) (o : Obj) : But g a (w.alloc o) :=
  ⟨h.os, h.tape, h.output, Nat.le_trans h.size (by simp), fun i hi hne => (Below.heap_alloc w o i (Nat.lt_of_lt_of_le hi h.size)).trans (h.block i hi hne)⟩

theorem But.setCell {g : Nat} {a w : World} (h : But g a w) {p : Addr} (hp : p.block = g ∨ a.heap.size ≤ p.block) (u : Value) : But g a (w.setCell p u) :=
  ⟨h.os, h.tape, h.output, by simpa [World.setCell] using h.size, fun i hi hne => (Below.heap_setCell w p u i (by
    rintro rfl
    rcases hp with hp | hp
    · exact hne (by rw [hp])
    · omega)).trans (h.block i hi hne)⟩

theorem But.of_below {g : Nat} {a w : World} (h : Below a.heap.size a w) : But g a w := ⟨h.os, h.tape, h.output, h.size, fun i hi _ => h.block i hi⟩

theorem But.trans {g : Nat} {a b c : World} (h : But g a b) (k : But g b c) : But g a c :=
  ⟨k.os.trans h.os, k.tape.trans h.tape, k.output.trans h.output, Nat.le_trans h.size k.size, fun i hi hn => (k.block i (Nat.lt_of_lt_of_le hi h.size) hn).trans (h.block i hi hn)⟩

theorem But.below {g B : Nat} {a b : World} (h : But g a b) (hB : B ≤ g) (hs : B ≤ a.heap.size) : Below B a b :=
  ⟨h.os, h.tape, h.output, h.size, fun i hi => h.block i (by omega) (fun e => by injection e; omega)⟩

theorem But.keeps {g B : Nat} {a b : World} (h : But g a b) (hB : g < B) : Keeps B a b :=
  ⟨h.size, fun i h1 h2 => h.block i h2 (fun e => by injection e; omega)⟩

theorem But.stays {g B : Nat} {a : World} (hB : a.heap.size ≤ B) : Stays B (But g a) := fun w1 w2 hb h =>
  ⟨hb.os.trans h.os, hb.tape.trans h.tape, hb.output.trans h.output, Nat.le_trans h.size hb.size, fun i hi hn => (hb.block i (by omega)).trans (h.block i hi hn)⟩

theorem But.cell {g : Nat} {a b : World} (h : But g a b) {i o : Nat} (hi : i < a.heap.size) (hn : i ≠ g) : b.cell? ⟨i, o, none⟩ = a.cell? ⟨i, o, none⟩ :=
  World.cell?_of_block (w := a) (h.block i hi (fun e => by injection e; omega))

theorem New_any (s : ByteArray) (w : World) :
    Calls Tryz.prog 131 #[.string s] w fun e w' => e = .returned (.pointer (some ⟨w.heap.size, 0, none⟩)) ∧ w.alloc (.cells #[.string s, .int .i64 0] 163) = w' := by
  go_enter Tryz.func131, Tryz.ntmps131
  go_wp2_with fail
  go_ret
  exact ⟨rfl, rfl⟩

theorem place_any (g : Nat) (s : ByteArray) (k : Nat) (w : World) (h : Cur w g s k) :
    Calls Tryz.prog 174 #[.pointer (some ⟨g, 0, none⟩)] w fun e w' => e = .returned (.int .i64 k) ∧ w = w' := by
  have c1 := h.gone
  have hnn : ∀ w : World, (binOp .eql 113 (.pointer (some ⟨g, 0, none⟩)) (.pointer none)).run Tryz.prog w = .ok (.bool false) w := fun _ => by kernel_rfl
  go_enter Tryz.func174, Tryz.ntmps174
  go_wp2_with fail
  go_ret
  exact ⟨rfl, rfl⟩

theorem At_any (g : Nat) (s : ByteArray) (k : Nat) (w : World) (h : Cur w g s k) :
    Calls Tryz.prog 147 #[.pointer (some ⟨g, 0, none⟩)] w fun e w' => e = .returned (.int .i64 k) ∧ w = w' := by
  go_enter Tryz.func147, Tryz.ntmps147
  go_wp2_with (go_at_call 174; refine (place_any _ s k _ h).mono ?_; rintro e w' ⟨rfl, rfl⟩)
  go_ret
  exact ⟨rfl, rfl⟩

/-- What is left behind the first k bytes. -/
abbrev restB (s : ByteArray) (k : Nat) : ByteArray := s.extract k s.size

theorem rest_any (g : Nat) (s : ByteArray) (k : Nat) (w : World) (h : Cur w g s k) (hk : k ≤ s.size) (hs : s.size ≤ maxLen) :
    Calls Tryz.prog 149 #[.pointer (some ⟨g, 0, none⟩)] w fun e w' => e = .returned (.string (restB s k)) ∧ Drew w w' := by
  have c0 := h.text
  have c1 := h.gone
  unfold maxLen at hs
  go_enter Tryz.func149, Tryz.ntmps149
  go_wp2_with fail
  go_quiet (fail)
  go_wp2_with fail
  go_ret
  exact ⟨rfl, ⟨_, rfl⟩⟩

theorem restB_size (s : ByteArray) (k : Nat) (hk : k ≤ s.size) : (restB s k).size = s.size - k := by rw [extract_size]; omega

theorem restB_at (s : ByteArray) (k i : Nat) (hi : i < (restB s k).size) : (restB s k)[i] = s[k + i]'(by rw [extract_size] at hi; omega) := by
  simp [restB, ByteArray.getElem_extract]

theorem restB_take (s : ByteArray) (k n : Nat) (hn : k + n ≤ s.size) : (restB s k).extract 0 n = s.extract k (k + n) := by
  rw [restB, ByteArray.extract_extract]
  congr 1
  · omega

theorem End_any (g : Nat) (s : ByteArray) (k : Nat) (w : World) (h : Cur w g s k) (hk : k ≤ s.size) (hs : s.size ≤ maxLen) :
    Calls Tryz.prog 151 #[.pointer (some ⟨g, 0, none⟩)] w fun e w' => e = .returned (.bool (decide (k = s.size))) ∧ Drew w w' := by
  have hz := Lib.hid (restB_size s k hk)
  go_enter Tryz.func151, Tryz.ntmps151
  go_wp2_with (go_at_call 149; refine (rest_any _ s k _ h hk hs).mono ?_; rintro e w' ⟨rfl, hd⟩)
  go_ret
  refine ⟨ret_bool ?_, hd⟩
  have e1 : ((restB s k).toList.isEmpty) = decide (k = s.size) := by
    rw [Bool.eq_iff_iff, List.isEmpty_iff, decide_eq_true_eq, Lib.toList_data, ← List.length_eq_zero_iff, ← Lib.size_eq, hz.out]; omega
  exact e1

theorem Peek_yes (g : Nat) (s : ByteArray) (k i : Nat) (w : World) (h : Cur w g s k) (hi : k + i < s.size) (hs : s.size ≤ maxLen) :
    Calls Tryz.prog 134 #[.pointer (some ⟨g, 0, none⟩), .int .i64 i] w fun e w' => e = .returned (.tuple #[.int .u8 (s[k + i].toNat : Int), .bool true]) ∧ Drew w w' := by
  have hz := restB_size s k (by omega)
  have hlt : i < (restB s k).size := by omega
  have hat : (restB s k)[i] = s[k + i] := restB_at s k i hlt
  have hm : (restB s k).size ≤ 9223372036854775807 := by unfold maxLen at hs; omega
  have HC := Lib.hid (rest_any g s k w h (by omega) hs)
  generalize restB s k = t at *
  have HA := Lib.hid hat; clear hat hz
  go_enter Tryz.func134, Tryz.ntmps134
  go_wp2_with (go_at_call 149; refine HC.out.mono ?_; rintro e w' ⟨rfl, hd⟩)
  go_ret2
  refine ⟨?_, hd⟩
  rw [← HA.out]
  rfl

theorem Peek_no (g : Nat) (s : ByteArray) (k : Nat) (i : Int) (w : World) (h : Cur w g s k) (hk : k ≤ s.size) (hi : i < 0 ∨ (s.size : Int) - k ≤ i) (hs : s.size ≤ maxLen) :
    Calls Tryz.prog 134 #[.pointer (some ⟨g, 0, none⟩), .int .i64 i] w fun e w' => e = .returned (.tuple #[.int .u8 0, .bool false]) ∧ Drew w w' := by
  have hz := restB_size s k hk
  have hm : (restB s k).size ≤ 9223372036854775807 := by unfold maxLen at hs; omega
  have HC := Lib.hid (rest_any g s k w h hk hs)
  have hi2 : i < 0 ∨ ((restB s k).size : Int) ≤ i := by omega
  generalize restB s k = t at *
  clear hz hi
  rcases hi2 with hi2 | hi2
  · go_enter Tryz.func134, Tryz.ntmps134
    go_wp2_with (go_at_call 149; refine HC.out.mono ?_; rintro e w' ⟨rfl, hd⟩)
    go_ret2
    exact ⟨rfl, hd⟩
  · by_cases h0 : i < 0
    · go_enter Tryz.func134, Tryz.ntmps134
      go_wp2_with (go_at_call 149; refine HC.out.mono ?_; rintro e w' ⟨rfl, hd⟩)
      go_ret2
      exact ⟨rfl, hd⟩
    · go_enter Tryz.func134, Tryz.ntmps134
      go_wp2_with (go_at_call 149; refine HC.out.mono ?_; rintro e w' ⟨rfl, hd⟩)
      go_ret2
      exact ⟨rfl, hd⟩

/-- The cursor in block g has been moved, and nothing else. -/
def Moved (g : Nat) (s : ByteArray) (k : Nat) (w w' : World) : Prop := Cur w' g s k ∧ But g w w'

theorem Moved.stays {g : Nat} {s : ByteArray} {k : Nat} {w : World} (hg : g < w.heap.size) : Stays w.heap.size (Moved g s k w) :=
  (Cur.stays hg).and (But.stays (Nat.le_refl _))

theorem moved_set {g : Nat} {s : ByteArray} {k : Nat} {w w1 : World} (h : Cur w g s k) (hd : Drew w w1) (n : Nat) : Moved g s n w (w1.setCell ⟨g, 1, none⟩ (.int .i64 n)) := by
  obtain ⟨m, rfl⟩ := hd
  exact ⟨(h.drewN m).set n, ((But.refl _ _).drewN m).setCell (.inl rfl) _⟩

theorem Drew.cur {g : Nat} {s : ByteArray} {k : Nat} {w w1 : World} (hd : Drew w w1) (h : Cur w g s k) : Cur w1 g s k := by
  obtain ⟨m, rfl⟩ := hd
  exact h.drewN m

theorem take_gives (g : Nat) (s : ByteArray) (k n : Nat) (w : World) (h : Cur w g s k) (hn : k + n ≤ s.size) (hs : s.size ≤ maxLen) :
    Calls Tryz.prog 168 #[.pointer (some ⟨g, 0, none⟩), .int .i64 n] w fun e w' => e = .returned (.string (s.extract k (k + n))) ∧ Moved g s (k + n) w w' := by
  have hz := restB_size s k (by omega)
  have hm : (restB s k).size ≤ 9223372036854775807 := by unfold maxLen at hs; omega
  have hs2 : s.size ≤ 9223372036854775807 := by unfold maxLen at hs; omega
  have HC := Lib.hid (rest_any g s k w h (by omega) hs)
  have HT := Lib.hid (restB_take s k n hn)
  have hlt : n ≤ (restB s k).size := by omega
  have hnn : ∀ w : World, (binOp .neq 113 (.pointer (some ⟨g, 0, none⟩)) (.pointer none)).run Tryz.prog w = .ok (.bool true) w := fun _ => by kernel_rfl
  generalize restB s k = t at *
  clear hz
  have H := Lib.hid h
  clear h
  go_enter Tryz.func168, Tryz.ntmps168
  go_wp2_with fail
  refine HC.out.mono ?_
  rintro e w1 ⟨rfl, hd⟩
  have c1 := (hd.cur H.out).gone
  have f1 := (hd.cur H.out).free 1
  have HM := Lib.hid (moved_set H.out hd (k + n))
  clear hd
  go_wp2_with (go_at_call 146; refine (Check_yes _ _ _).mono ?_; rintro e w' ⟨rfl, rfl⟩)
  go_ret
  exact ⟨ret_string HT.out, by have := HM.out; simpa using this⟩

theorem take_throws (g : Nat) (s : ByteArray) (k : Nat) (n : Int) (w : World) (h : Cur w g s k) (hk : k ≤ s.size) (hn : n < 0 ∨ (s.size : Int) - k < n) (hs : s.size ≤ maxLen) :
    Calls Tryz.prog 168 #[.pointer (some ⟨g, 0, none⟩), .int .i64 n] w fun e w' => e = .panicked [{ v := faultV k (if n < 0 then 9 else 8), recovered := false }] ∧ Drew w w' := by
  have hz := restB_size s k hk
  have hm : (restB s k).size ≤ 9223372036854775807 := by unfold maxLen at hs; omega
  have hs2 : s.size ≤ 9223372036854775807 := by unfold maxLen at hs; omega
  have HC := Lib.hid (rest_any g s k w h (by omega) hs)
  have hlt : n < 0 ∨ ((restB s k).size : Int) < n := by omega
  have hnn : ∀ w : World, (binOp .neq 113 (.pointer (some ⟨g, 0, none⟩)) (.pointer none)).run Tryz.prog w = .ok (.bool true) w := fun _ => by kernel_rfl
  have H9 : Hid (thrownCode 9 = 9) := Lib.hid rfl
  have H8 : Hid (thrownCode 8 = 8) := Lib.hid rfl
  generalize restB s k = t at *
  clear hz hn
  have H := Lib.hid h
  clear h
  by_cases h0 : n < 0
  · have HI : Hid ((if n < 0 then (9 : Int) else 8) = 9) := Lib.hid (if_pos h0)
    have hd0 : decide (0 ≤ n) = false := decide_eq_false (by omega)
    go_enter Tryz.func168, Tryz.ntmps168
    go_wp2_with fail
    refine HC.out.mono ?_
    rintro e w1 ⟨rfl, hd⟩
    have c1 := (hd.cur H.out).gone
    go_wp2_with (first | (go_at_call 146; (with_reducible refine (Check_yes _ _ _).mono ?_); rintro e w' ⟨rfl, rfl⟩) | (go_at_call 146; (with_reducible refine (Check_no _ _ _).mono ?_); rintro e w' ⟨rfl, rfl⟩; rw [H9.out]))
    exact ⟨rfl, by first | rfl | rw [HI.out], hd⟩
  · have hlt2 : (t.size : Int) < n := by omega
    have HI : Hid ((if n < 0 then (9 : Int) else 8) = 8) := Lib.hid (if_neg h0)
    have hd0 : decide (n ≤ (t.size : Int)) = false := decide_eq_false (by omega)
    go_enter Tryz.func168, Tryz.ntmps168
    go_wp2_with fail
    refine HC.out.mono ?_
    rintro e w1 ⟨rfl, hd⟩
    have c1 := (hd.cur H.out).gone
    go_wp2_with (first | (go_at_call 146; (with_reducible refine (Check_yes _ _ _).mono ?_); rintro e w' ⟨rfl, rfl⟩) | (go_at_call 146; (with_reducible refine (Check_no _ _ _).mono ?_); rintro e w' ⟨rfl, rfl⟩; rw [H8.out]))
    exact ⟨rfl, by first | rfl | rw [HI.out], hd⟩

end Go.Proofs.YtcbhkcdphbffpaaGreatDoor

namespace Go.Proofs.YtcbhkcdphbffpaaGreatDoor
open Go.RowKit
set_option linter.unusedSimpArgs false
set_option linter.unusedVariables false

theorem Cur.alloc {w : World} {g : Nat} {s : ByteArray} {k : Nat} (h : Cur w g s k) (o : Obj) : Cur (w.alloc o) g s k := (Below.heap_alloc w o g h.lt).trans h

theorem Moved.alloc {g : Nat} {s : ByteArray} {k : Nat} {w w' : World} (h : Moved g s k w w') (o : Obj) : Moved g s k w (w'.alloc o) := ⟨h.1.alloc o, h.2.alloc o⟩

theorem Moved.trans {g : Nat} {s : ByteArray} {k k2 : Nat} {w w1 w2 : World} (h : Moved g s k w w1) (h2 : Moved g s k2 w1 w2) : Moved g s k2 w w2 := ⟨h2.1, h.2.trans h2.2⟩

theorem moved_drew {g : Nat} {s : ByteArray} {k : Nat} {w w1 : World} (h : Cur w g s k) (hd : Drew w w1) : Moved g s k w w1 := by
  obtain ⟨m, rfl⟩ := hd
  exact ⟨h.drewN m, (But.refl _ _).drewN m⟩

theorem extract_at (s : ByteArray) (k j : Nat) (hk : k < s.size) (hj : 0 < (s.extract k j).size) : (s.extract k j)[0] = s[k] := by
  simp [ByteArray.getElem_extract]

theorem Next_gives (g : Nat) (s : ByteArray) (k : Nat) (w : World) (h : Cur w g s k) (hk : k < s.size) (hs : s.size ≤ maxLen) :
    Calls Tryz.prog 139 #[.pointer (some ⟨g, 0, none⟩)] w fun e w' => e = .returned (.int .u8 (s[k].toNat : Int)) ∧ Moved g s (k + 1) w w' := by
  have HC := Lib.hid (take_gives g s k 1 w h (by omega) hs)
  have hz : (s.extract k (k + 1)).size = 1 := by rw [extract_size]; omega
  have hlt : 0 < (s.extract k (k + 1)).size := by omega
  have hat : (s.extract k (k + 1))[0]'hlt = s[k] := extract_at s k (k + 1) hk hlt
  generalize s.extract k (k + 1) = t at *
  have HA := Lib.hid hat; clear hat hz
  have hx : ∀ w : World, (Instr.index 9 (.string t) (.int .i64 0)).run Tryz.prog w = .ok (.int .u8 ((t[0]).toNat : Int)) w := fun w => index_zero 9 Tryz.underlying9 t hlt w
  go_enter Tryz.func139, Tryz.ntmps139
  go_wp2_with (go_at_call 168; refine HC.out.mono ?_; rintro e w' ⟨rfl, hd⟩)
  go_ret
  exact ⟨by rw [← HA.out]; rfl, hd⟩

theorem Next_throws (g : Nat) (s : ByteArray) (w : World) (h : Cur w g s s.size) (hs : s.size ≤ maxLen) :
    Calls Tryz.prog 139 #[.pointer (some ⟨g, 0, none⟩)] w fun e w' => e = .panicked [{ v := faultV s.size 8, recovered := false }] ∧ Drew w w' := by
  have HC := Lib.hid (take_throws g s s.size 1 w h (by omega) (by omega) hs)
  go_enter Tryz.func139, Tryz.ntmps139
  go_wp2_with (go_at_call 168; refine HC.out.mono ?_; rintro e w' ⟨rfl, hd⟩)
  exact ⟨rfl, rfl, hd⟩

theorem run_gives (g : Nat) (s : ByteArray) (k n : Nat) (w : World) (h : Cur w g s k) (hn : k + n ≤ s.size) (hs : s.size ≤ maxLen) :
    Calls Tryz.prog 164 #[.pointer (some ⟨g, 0, none⟩), .int .i64 n] w fun e w' => e = .returned (.string (s.extract k (k + n))) ∧ Moved g s (k + n) w w' := by
  have hz := restB_size s k (by omega)
  have hm : (restB s k).size ≤ 9223372036854775807 := by unfold maxLen at hs; omega
  have hs2 : s.size ≤ 9223372036854775807 := by unfold maxLen at hs; omega
  have HC := Lib.hid (rest_any g s k w h (by omega) hs)
  have HT := Lib.hid (restB_take s k n hn)
  have hlt : n ≤ (restB s k).size := by omega
  have hnn : ∀ w : World, (binOp .neq 113 (.pointer (some ⟨g, 0, none⟩)) (.pointer none)).run Tryz.prog w = .ok (.bool true) w := fun _ => by kernel_rfl
  generalize restB s k = t at *
  clear hz
  have H := Lib.hid h
  clear h
  go_enter Tryz.func164, Tryz.ntmps164
  go_wp2_with fail
  refine HC.out.mono ?_
  rintro e w1 ⟨rfl, hd⟩
  have c1 := (hd.cur H.out).gone
  have f1 := (hd.cur H.out).free 1
  have HM := Lib.hid (moved_set H.out hd (k + n))
  clear hd
  go_wp2_with fail
  go_ret
  exact ⟨ret_string HT.out, by have := HM.out; simpa using this⟩

theorem Rest_gives (g : Nat) (s : ByteArray) (k : Nat) (w : World) (h : Cur w g s k) (hk : k ≤ s.size) (hs : s.size ≤ maxLen) :
    Calls Tryz.prog 167 #[.pointer (some ⟨g, 0, none⟩)] w fun e w' => e = .returned (.string (restB s k)) ∧ Moved g s s.size w w' := by
  have hz := restB_size s k hk
  have hm : (restB s k).size ≤ 9223372036854775807 := by unfold maxLen at hs; omega
  have HZ := Lib.hid hz; clear hz
  go_enter Tryz.func167, Tryz.ntmps167
  go_wp2_with fail
  refine (rest_any g s k w h hk hs).mono ?_
  rintro e w1 ⟨rfl, hd⟩
  have h1 := hd.cur h
  have hmv := moved_drew h hd
  have HC := Lib.hid (run_gives g s k (s.size - k) w1 h1 (by omega) hs)
  go_wp2_with fail
  refine HC.out.mono ?_
  rintro e w2 ⟨rfl, hm2⟩
  go_wp2_with fail
  go_ret
  rw [show k + (s.size - k) = s.size by omega] at *
  exact ⟨rfl, hmv.trans hm2⟩

theorem While_gives (K : FuncId) (p : UInt8 → Bool) (hK : FnPure K p) (g : Nat) (s : ByteArray) (k : Nat) (w : World) (h : Cur w g s k) (hk : k ≤ s.size) (hs : s.size ≤ maxLen) :
    Calls Tryz.prog 143 #[.pointer (some ⟨g, 0, none⟩), .func (.func K) #[] #[]] w fun e w' => e = .returned (.string (s.extract k (k + spanN p (restB s k).data.toList))) ∧ Moved g s (k + spanN p (restB s k).data.toList) w w' := by
  have hz := restB_size s k hk
  have hm : (restB s k).size ≤ 9223372036854775807 := by unfold maxLen at hs; omega
  have HC := Lib.hid (rest_any g s k w h hk hs)
  obtain ⟨hcf, hK2⟩ := hK
  have HK := Lib.hid hK2; clear hK2
  have hnn := fun (w : World) => run_neq_func_nil (P := Tryz.prog) w Tryz.underlying100 (.func K) #[] #[]
  generalize restB s k = t at *
  have hz1 : k + t.size ≤ s.size := by omega
  clear hz
  have H := Lib.hid h
  clear h
  go_enter Tryz.func143, Tryz.ntmps143
  go_wp2_with fail
  refine HC.out.mono ?_
  rintro e w1 ⟨rfl, hd⟩
  have h1 := Lib.hid (hd.cur H.out)
  have HM := Lib.hid (moved_drew H.out hd)
  clear hd
  go_wp2_with fail
  go_loop [5] (fun i => ∃ n : Nat, n ≤ t.size ∧ i = .int .i64 n ∧ AllTo p t n) (fun i => t.size - (intOf i).toNat)
  case atStart => exact ⟨0, Nat.zero_le _, rfl, fun j _ h => by omega⟩
  case round =>
    obtain ⟨n, hn, rfl, hp⟩ := hrel
    have HP := Lib.hid hp; clear hp
    by_cases hlt : n < t.size
    · cases hb : p t[n]
      · have HB := Lib.hid hb; clear hb
        have HS := Lib.hid (spanN_of p t n hn HP.out fun _ => HB.out)
        go_wp2_with fail
        refine (HK.out _ _).mono ?_
        rintro e w' ⟨rfl, rfl⟩
        rw [HB.out]
        go_wp2_with fail
        refine (run_gives g s k n w1 h1.out (by omega) hs).mono ?_
        rintro e w2 ⟨rfl, hm2⟩
        go_wp2_with fail
        go_ret
        rw [HS.out]
        exact ⟨rfl, HM.out.trans hm2⟩
      · have HB := Lib.hid hb; clear hb
        go_wp2_with fail
        refine (HK.out _ _).mono ?_
        rintro e w' ⟨rfl, rfl⟩
        rw [HB.out]
        go_wp2_with fail
        go_round
        case rel => exact ⟨n + 1, by omega, by go_num, allTo_step HP.out hlt HB.out⟩
        case measure => simp [intOf]; omega
    · obtain rfl : n = t.size := by omega
      have HS := Lib.hid (spanN_of p t t.size (Nat.le_refl _) HP.out fun h => absurd h hlt)
      go_wp2_with fail
      refine (run_gives g s k t.size w1 h1.out (by omega) hs).mono ?_
      rintro e w2 ⟨rfl, hm2⟩
      go_wp2_with fail
      go_ret
      rw [HS.out]
      exact ⟨rfl, HM.out.trans hm2⟩

/-- What a byte is that stops nothing. -/
def goesOn (stops : ByteArray) (b : UInt8) : Bool := !stops.data.toList.contains b

theorem indexByte_neg (stops : ByteArray) (b : UInt8) (r : Bool) (h : goesOn stops b = r) : decide (Lib.indexByte stops.data.toList b < 0) = r := by
  have h1 := indexByte_has stops.data.toList b
  subst h
  unfold goesOn
  rw [Bool.eq_iff_iff, decide_eq_true_eq, Bool.not_eq_true', ← Bool.not_eq_true, ← h1]
  omega

theorem Until_gives (stops : ByteArray) (g : Nat) (s : ByteArray) (k : Nat) (w : World) (h : Cur w g s k) (hk : k ≤ s.size) (hs : s.size ≤ maxLen) :
    Calls Tryz.prog 133 #[.pointer (some ⟨g, 0, none⟩), .string stops] w fun e w' => e = .returned (.string (s.extract k (k + spanN (goesOn stops) (restB s k).data.toList))) ∧ Moved g s (k + spanN (goesOn stops) (restB s k).data.toList) w w' := by
  have hz := restB_size s k hk
  have hm : (restB s k).size ≤ 9223372036854775807 := by unfold maxLen at hs; omega
  have HC := Lib.hid (rest_any g s k w h hk hs)
  generalize restB s k = t at *
  have hz1 : k + t.size ≤ s.size := by omega
  clear hz
  have H := Lib.hid h
  clear h
  go_enter Tryz.func133, Tryz.ntmps133
  go_wp2_with fail
  refine HC.out.mono ?_
  rintro e w1 ⟨rfl, hd⟩
  have h1 := Lib.hid (hd.cur H.out)
  have HM := Lib.hid (moved_drew H.out hd)
  clear hd
  go_wp2_with fail
  go_loop [5] (fun i => ∃ n : Nat, n ≤ t.size ∧ i = .int .i64 n ∧ AllTo (goesOn stops) t n) (fun i => t.size - (intOf i).toNat)
  case atStart => exact ⟨0, Nat.zero_le _, rfl, fun j _ h => by omega⟩
  case round =>
    obtain ⟨n, hn, rfl, hp⟩ := hrel
    have HP := Lib.hid hp; clear hp
    by_cases hlt : n < t.size
    · cases hb : goesOn stops t[n]
      · have HB := Lib.hid hb
        have hi := indexByte_neg stops t[n] _ hb
        clear hb
        have HS := Lib.hid (spanN_of (goesOn stops) t n hn HP.out fun _ => HB.out)
        go_wp2_with (go_at_call 163; refine (IndexByte_any _ _ _).mono ?_; rintro e w' ⟨rfl, rfl⟩)
        refine (run_gives g s k n w1 h1.out (by omega) hs).mono ?_
        rintro e w2 ⟨rfl, hm2⟩
        go_wp2_with fail
        go_ret
        rw [HS.out]
        exact ⟨rfl, HM.out.trans hm2⟩
      · have HB := Lib.hid hb
        have hi := indexByte_neg stops t[n] _ hb
        clear hb
        go_wp2_with (go_at_call 163; refine (IndexByte_any _ _ _).mono ?_; rintro e w' ⟨rfl, rfl⟩)
        go_round
        case rel => exact ⟨n + 1, by omega, by go_num, allTo_step HP.out hlt HB.out⟩
        case measure => simp [intOf]; omega
    · obtain rfl : n = t.size := by omega
      have HS := Lib.hid (spanN_of (goesOn stops) t t.size (Nat.le_refl _) HP.out fun h => absurd h hlt)
      go_wp2_with fail
      refine (run_gives g s k t.size w1 h1.out (by omega) hs).mono ?_
      rintro e w2 ⟨rfl, hm2⟩
      go_wp2_with fail
      go_ret
      rw [HS.out]
      exact ⟨rfl, HM.out.trans hm2⟩

end Go.Proofs.YtcbhkcdphbffpaaGreatDoor

namespace Go.Proofs.YtcbhkcdphbffpaaGreatDoor
open Go.RowKit
set_option linter.unusedSimpArgs false
set_option linter.unusedVariables false

end Go.Proofs.YtcbhkcdphbffpaaGreatDoor

namespace Go.Proofs.YtcbhkcdphbffpaaGreatDoor
open Go.RowKit
set_option linter.unusedSimpArgs false
set_option linter.unusedVariables false

end Go.Proofs.YtcbhkcdphbffpaaGreatDoor

namespace Go.Proofs.YtcbhkcdphbffpaaGreatDoor
open Go.RowKit
set_option linter.unusedSimpArgs false
set_option linter.unusedVariables false

theorem one_byte {P : Program} (src dst e : TypeId) (b : UInt8) (hs : P.underlying src = some (.slice e)) (he : P.underlying e = some (.int .u8)) (hd : P.underlying dst = some .string) (w : World) (a : Nat) (ha : a = w.heap.size) :
    (convert src dst (.slice (some ⟨a, 0, none⟩) 1 1)).run P (w.alloc (.cells #[.int .u8 (b.toNat : Int)] e)) = .ok (.string ⟨#[b]⟩) (w.alloc (.cells #[.int .u8 (b.toNat : Int)] e)) := by
  subst ha
  refine run_convert_bytes_back (w.alloc (.cells #[.int .u8 (b.toNat : Int)] e)) src dst e ⟨w.heap.size, 0, none⟩ 1 [b] hs he hd ?_
  intro j hj
  simp at hj
  subst hj
  simp [go_sem, Addr.add]

end Go.Proofs.YtcbhkcdphbffpaaGreatDoor

namespace Go.Proofs.YtcbhkcdphbffpaaGreatDoor
set_option linter.unusedSimpArgs false
set_option linter.unusedVariables false

theorem or_byte_u32 (a b : Nat) (ha : a < 16777216) (hb : b < 256) : bits .or .u32 ((a : Int) * 256) (b : Int) = (a : Int) * 256 + b := by
  have h0 : (a : Int) * 256 = ((a * 256 : Nat) : Int) := by omega
  rw [h0]
  have h1 : (BitVec.ofInt 32 ((a * 256 : Nat) : Int)).toNat = a * 256 := by
    rw [BitVec.ofInt_natCast, BitVec.toNat_ofNat]; exact Nat.mod_eq_of_lt (by omega)
  have h2 : (BitVec.ofInt 32 (b : Int)).toNat = b := by
    rw [BitVec.ofInt_natCast, BitVec.toNat_ofNat]; exact Nat.mod_eq_of_lt (by omega)
  have h3 : a * 256 ||| b = a * 256 + b := by
    have := Nat.shiftLeft_add_eq_or_of_lt (i := 8) (b := b) (by simpa using hb) a
    rw [Nat.shiftLeft_eq] at this
    simpa using this.symm
  show IntKind.u32.wrap ((BitVec.ofInt 32 ((a * 256 : Nat) : Int) ||| BitVec.ofInt 32 (b : Int)).toNat : Int) = _
  rw [BitVec.toNat_or, h1, h2, h3]
  simp [IntKind.wrap, IntKind.bits, IntKind.signed]
  omega

/-- The number of bytes, the highest first. -/
def bigN (l : List UInt8) : Nat := l.foldl (fun n b => n * 256 + b.toNat) 0

theorem bigN_snoc (l : List UInt8) (b : UInt8) : bigN (l ++ [b]) = bigN l * 256 + b.toNat := by simp [bigN]

theorem bigFold_lt (l : List UInt8) (n : Nat) : l.foldl (fun n b => n * 256 + b.toNat) n < (n + 1) * 256 ^ l.length := by
  induction l generalizing n with
  | nil => simp
  | cons b l ih =>
    simp only [List.foldl_cons, List.length_cons]
    have h1 := ih (n * 256 + b.toNat)
    have h2 := b.toNat_lt
    have h3 : (n * 256 + b.toNat + 1) * 256 ^ l.length ≤ ((n + 1) * 256) * 256 ^ l.length := Nat.mul_le_mul_right _ (by omega)
    rw [Nat.pow_succ, Nat.mul_comm (256 ^ l.length) 256, ← Nat.mul_assoc]
    omega

theorem bigN_lt (l : List UInt8) : bigN l < 256 ^ l.length := by
  have := bigFold_lt l 0
  unfold bigN
  omega

end Go.Proofs.YtcbhkcdphbffpaaGreatDoor

namespace Go.Proofs.YtcbhkcdphbffpaaGreatDoor
open Go.RowKit
set_option linter.unusedSimpArgs false
set_option linter.unusedVariables false

end Go.Proofs.YtcbhkcdphbffpaaGreatDoor

namespace Go.Proofs.YtcbhkcdphbffpaaGreatDoor
open Go.RowKit
set_option linter.unusedSimpArgs false
set_option linter.unusedVariables false

end Go.Proofs.YtcbhkcdphbffpaaGreatDoor

namespace Go.Proofs.YtcbhkcdphbffpaaGreatDoor
open Go.RowKit
set_option linter.unusedSimpArgs false
set_option linter.unusedVariables false

/-- A text begins with another one. -/
def prefB (s p : ByteArray) : Bool := Lib.hasPrefix s.data.toList p.data.toList

theorem prefB_size {s p : ByteArray} (h : prefB s p = true) : p.size ≤ s.size := by
  unfold prefB Lib.hasPrefix at h
  rw [List.isPrefixOf_iff_prefix] at h
  rw [Lib.size_eq, Lib.size_eq]
  exact h.length_le

theorem prefB_eq (s p : ByteArray) (h : p.size ≤ s.size) : ((s.extract 0 p.size).toList == p.toList) = prefB s p := by
  unfold prefB Lib.hasPrefix
  rw [Bool.eq_iff_iff, beq_iff_eq, List.isPrefixOf_iff_prefix, Lib.toList_data, Lib.toList_data, ByteArray.data_extract, Array.toList_extract, List.extract_eq_take_drop, List.drop_zero, Nat.sub_zero, Lib.size_eq, List.prefix_iff_eq_take]
  exact eq_comm

theorem Skip_yes (p : ByteArray) (g : Nat) (s : ByteArray) (k : Nat) (w : World) (h : Cur w g s k) (hk : k ≤ s.size) (hs : s.size ≤ maxLen) (hp : prefB (restB s k) p = true) :
    Calls Tryz.prog 105 #[.pointer (some ⟨g, 0, none⟩), .string p] w fun e w' => e = .returned (.bool true) ∧ Moved g s (k + p.size) w w' := by
  have hz := prefB_size hp
  rw [restB_size s k hk] at hz
  have hs2 : s.size ≤ 9223372036854775807 := by unfold maxLen at hs; omega
  have hnn : ∀ w : World, (binOp .neq 113 (.pointer (some ⟨g, 0, none⟩)) (.pointer none)).run Tryz.prog w = .ok (.bool true) w := fun _ => by kernel_rfl
  have HC := Lib.hid (rest_any g s k w h hk hs)
  have HP : Hid (Lib.hasPrefix (restB s k).data.toList p.data.toList = true) := Lib.hid hp
  generalize restB s k = t at *
  have H := Lib.hid h
  clear h hp
  go_enter Tryz.func105, Tryz.ntmps105
  go_wp2_with fail
  refine HC.out.mono ?_
  rintro e w1 ⟨rfl, hd⟩
  have c1 := (hd.cur H.out).gone
  have f1 := (hd.cur H.out).free 1
  have HM := Lib.hid (moved_set H.out hd (k + p.size))
  clear hd
  go_wp2_with (go_at_call 148; refine (Tryz.strings_HasPrefix t p _).mono ?_; rintro e w' ⟨rfl, rfl⟩; rw [HP.out])
  go_ret
  exact ⟨rfl, by have := HM.out; simpa using this⟩

theorem Skip_no (p : ByteArray) (g : Nat) (s : ByteArray) (k : Nat) (w : World) (h : Cur w g s k) (hk : k ≤ s.size) (hs : s.size ≤ maxLen) (hp : prefB (restB s k) p = false) :
    Calls Tryz.prog 105 #[.pointer (some ⟨g, 0, none⟩), .string p] w fun e w' => e = .returned (.bool false) ∧ Moved g s k w w' := by
  have HC := Lib.hid (rest_any g s k w h hk hs)
  have HP : Hid (Lib.hasPrefix (restB s k).data.toList p.data.toList = false) := Lib.hid hp
  generalize restB s k = t at *
  have H := Lib.hid h
  clear h hp
  go_enter Tryz.func105, Tryz.ntmps105
  go_wp2_with fail
  refine HC.out.mono ?_
  rintro e w1 ⟨rfl, hd⟩
  have HM := Lib.hid (moved_drew H.out hd)
  clear hd
  go_wp2_with (go_at_call 148; refine (Tryz.strings_HasPrefix t p _).mono ?_; rintro e w' ⟨rfl, rfl⟩; rw [HP.out])
  go_ret
  exact ⟨rfl, HM.out⟩

theorem While_nil (g : Nat) (s : ByteArray) (w : World) (h : Cur w g s s.size) (hs : s.size ≤ maxLen) :
    Calls Tryz.prog 143 #[.pointer (some ⟨g, 0, none⟩), .nilFunc] w fun e w' => e = .returned (.string ⟨#[]⟩) ∧ Moved g s s.size w w' := by
  have HC := Lib.hid (rest_any g s s.size w h (Nat.le_refl _) hs)
  have hnn := fun (w : World) => run_neq_nil_func (P := Tryz.prog) w Tryz.underlying100
  have HE : Hid (s.extract s.size (s.size + 0) = ⟨#[]⟩) := Lib.hid (by
    apply ByteArray.ext
    rw [ByteArray.data_extract]
    simp)
  generalize restB s s.size = t at *
  have H := Lib.hid h
  clear h
  go_enter Tryz.func143, Tryz.ntmps143
  go_wp2_with fail
  refine HC.out.mono ?_
  rintro e w1 ⟨rfl, hd⟩
  have h1 := Lib.hid (hd.cur H.out)
  have HM := Lib.hid (moved_drew H.out hd)
  clear hd
  go_wp2_with fail
  refine wp_loop_rounds 1 ?_
  rw [rounds_succ]
  go_wp2_with fail
  refine (run_gives g s s.size 0 w1 h1.out (by omega) hs).mono ?_
  rintro e w2 ⟨rfl, hm2⟩
  rw [HE.out]
  go_wp2_with fail
  go_ret
  exact ⟨rfl, HM.out.trans hm2⟩

/-- A small letter. -/
def lowerC (b : UInt8) : Bool := decide (97 ≤ b.toNat) && decide (b.toNat ≤ 122)

end Go.Proofs.YtcbhkcdphbffpaaGreatDoor

namespace Go.Proofs.YtcbhkcdphbffpaaGreatDoor
set_option linter.unusedSimpArgs false
set_option linter.unusedVariables false

/-- What is taken behind a quote, and how many bytes are gone by. -/
def readL : List UInt8 → List UInt8 × Nat
  | [] => ([], 0)
  | [b] => if b = 34 then ([], 1) else ([b], 1)
  | b :: x :: r => if b = 34 then ([], 1) else if b = 92 then (x :: (readL r).1, 2 + (readL r).2) else (b :: (readL (x :: r)).1, 1 + (readL (x :: r)).2)

theorem readL_quote (r : List UInt8) : readL (34 :: r) = ([], 1) := by
  cases r <;> simp [readL]

theorem readL_slash (x : UInt8) (r : List UInt8) : readL (92 :: x :: r) = (x :: (readL r).1, 2 + (readL r).2) := by
  simp [readL]

theorem readL_slash_end : readL [92] = ([92], 1) := by simp [readL]

theorem readL_plain (b : UInt8) (r : List UInt8) (h1 : b ≠ 34) (h2 : b ≠ 92) : readL (b :: r) = (b :: (readL r).1, 1 + (readL r).2) := by
  cases r with
  | nil => simp [readL, h1]
  | cons x r => simp [readL, h1, h2]

theorem readL_span (p r : List UInt8) (h : ∀ b ∈ p, b ≠ 34 ∧ b ≠ 92) : readL (p ++ r) = (p ++ (readL r).1, p.length + (readL r).2) := by
  induction p with
  | nil => simp
  | cons b p ih =>
    have hb := h b (by simp)
    rw [List.cons_append, readL_plain b _ hb.1 hb.2, ih (fun c hc => h c (by simp [hc]))]
    simp; omega

theorem readL_le (l : List UInt8) : (readL l).2 ≤ l.length ∧ (readL l).1.length ≤ l.length := by
  induction h : l.length using Nat.strongRecOn generalizing l with
  | _ n ih =>
    match l, h with
    | [], _ => simp [readL]
    | [b], _ =>
      unfold readL
      split <;> simp_all
    | b :: x :: r, h =>
      simp only [List.length_cons] at h
      by_cases h1 : b = 34
      · subst h1; rw [readL_quote]; simp; omega
      · by_cases h2 : b = 92
        · subst h2
          rw [readL_slash]
          have := ih r.length (by omega) r rfl
          simp; omega
        · rw [readL_plain b _ h1 h2]
          have := ih (x :: r).length (by simp; omega) (x :: r) rfl
          simp at this ⊢; omega

/-- The bytes behind a place. -/
def dropB (s : ByteArray) (k : Nat) : List UInt8 := s.data.toList.drop k

theorem dropB_end (s : ByteArray) : dropB s s.size = [] := by
  unfold dropB
  rw [List.drop_eq_nil_of_le (by rw [← Lib.size_eq]; exact Nat.le_refl _)]

theorem dropB_cons (s : ByteArray) (k : Nat) (h : k < s.size) : dropB s k = s[k] :: dropB s (k + 1) := by
  unfold dropB
  rw [List.drop_eq_getElem_cons (by rw [← Lib.size_eq]; exact h)]
  rfl

def quoStops : ByteArray := ⟨#[34, 92]⟩

theorem goes_quo (b : UInt8) : goesOn quoStops b = (b != 34 && b != 92) := by
  have : quoStops.data.toList = [34, 92] := rfl
  unfold goesOn
  rw [this]
  by_cases h1 : b = 34 <;> by_cases h2 : b = 92 <;> simp [h1, h2]

/-- Up to the next quote or backslash. -/
theorem dropB_span (s : ByteArray) (m : Nat) (hm : m ≤ s.size) (n : Nat) (hn : n = spanN (goesOn quoStops) (restB s m).data.toList) :
    m + n ≤ s.size ∧ dropB s m = (s.extract m (m + n)).data.toList ++ dropB s (m + n) ∧ (∀ b ∈ (s.extract m (m + n)).data.toList, b ≠ 34 ∧ b ≠ 92) ∧ (∀ (h : m + n < s.size), s[m + n] = 34 ∨ s[m + n] = 92) := by
  have hr : (restB s m).data.toList = dropB s m := by
    unfold dropB restB
    rw [ByteArray.data_extract, Array.toList_extract, List.extract_eq_take_drop, List.take_of_length_le (by rw [List.length_drop, ← Lib.size_eq]; omega)]
  rw [hr] at hn
  have hle : n ≤ (dropB s m).length := by rw [hn]; exact spanN_le _ _
  have hlen : (dropB s m).length = s.size - m := by unfold dropB; rw [List.length_drop, Lib.size_eq]
  have ht : (dropB s m).takeWhile (goesOn quoStops) = (dropB s m).take n := by
    rw [hn]
    unfold spanN
    exact (List.prefix_iff_eq_take.1 (List.takeWhile_prefix _))
  have hx : (s.extract m (m + n)).data.toList = (dropB s m).take n := by
    unfold dropB
    rw [ByteArray.data_extract, Array.toList_extract, List.extract_eq_take_drop]
    rw [show m + n - m = n by omega]
  refine ⟨by omega, ?_, ?_, ?_⟩
  · rw [hx]
    have : dropB s (m + n) = (dropB s m).drop n := by unfold dropB; rw [List.drop_drop]
    rw [this, List.take_append_drop]
  · intro b hb
    rw [hx, ← ht] at hb
    have hal := List.all_takeWhile (p := goesOn quoStops) (l := dropB s m)
    rw [List.all_eq_true] at hal
    have := hal b hb
    rw [goes_quo] at this
    simpa using this
  · intro h
    have hcons := dropB_cons s (m + n) h
    have hd : dropB s (m + n) = (dropB s m).dropWhile (goesOn quoStops) := by
      have e1 : dropB s (m + n) = (dropB s m).drop n := by unfold dropB; rw [List.drop_drop]
      have e2 := List.takeWhile_append_dropWhile (p := goesOn quoStops) (l := dropB s m)
      rw [e1]
      conv => lhs; rw [← e2]
      rw [ht]
      rw [List.drop_append_of_le_length (by rw [List.length_take]; omega), List.drop_eq_nil_of_le (by rw [List.length_take]; omega), List.nil_append]
    rw [hd] at hcons
    have hne : (dropB s m).dropWhile (goesOn quoStops) ≠ [] := by rw [hcons]; simp
    have hh := List.head_dropWhile_not (p := goesOn quoStops) hne
    have he : ((dropB s m).dropWhile (goesOn quoStops)).head hne = s[m + n] := by
      simp only [hcons, List.head_cons]
    rw [he, goes_quo] at hh
    simp only [Bool.and_eq_false_iff, bne_eq_false_iff_eq] at hh
    exact hh

end Go.Proofs.YtcbhkcdphbffpaaGreatDoor
