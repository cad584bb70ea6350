/-
  Lemmas of this claim, part 5: the texts MimeA, MimeB, MimeC, MimeD, MimeE, TailIn, LastIn, MimeF, one behind the other.
-/
import Derived.Test.YtcbhkcdphbffpaaGreatDoorM4
import Derived.Deep.RegionWith
import Derived.Laws.StructEq
import Derived.StillTailTactics
import Derived.OrdersHeld
import Derived.StillTail
import Derived.Deep.RegionHeld
import Derived.Deep.RegionHeld3
import Derived.Deep.DeepCutAuto
import Derived.Deep.AppendLies
import Derived.Deep.Onto

namespace Go.Proofs.YtcbhkcdphbffpaaGreatDoor
open Go.RowKit
set_option linter.unusedSimpArgs false
set_option linter.unusedVariables false

theorem fnQuoted : FnPure 187 isQuoted :=
  ⟨fun args w => MuLone.run_callFunc_enter Tryz.func187 (by kernel_rfl) rfl args w, Quoted_any⟩

theorem fnWhiteC : FnPure 199 isWhite :=
  ⟨fun args w => MuLone.run_callFunc_enter Tryz.func199 (by kernel_rfl) rfl args w, White_any⟩

theorem All_list (K : FuncId) (p : UInt8 → Bool) (hK : FnPure K p) (s : ByteArray) (w : World) (hs : s.size ≤ maxLen) :
    Calls Tryz.prog 186 #[.string s, .func (.func K) #[] #[]] w fun e w' => e = .returned (.bool (s.data.toList.all p)) ∧ w = w' := by
  have HA := All_any K p hK s w hs
  have hc := cnt_all p s.data.toList
  rw [← Lib.size_eq] at hc
  rw [hc] at HA
  exact HA

theorem token_any (s : ByteArray) (w : World) (hs : s.size ≤ maxLen) :
    Calls Tryz.prog 181 #[.string s] w fun e w' => e = .returned (.bool (tokL s.data.toList)) ∧ w = w' := by
  have HA := Lib.hid (All_list 200 isToken fnToken s w hs)
  have HT : Hid (tokL s.data.toList = (!s.toList.isEmpty && s.data.toList.all isToken)) := Lib.hid (by rw [Lib.toList_data]; rfl)
  generalize s.data.toList.all isToken = r at *
  generalize tokL s.data.toList = t at *
  go_enter Tryz.func181, Tryz.ntmps181
  go_wp2_with (go_at_call 186; refine (HA.out).mono ?_; rintro e w' ⟨rfl, rfl⟩)
  · go_ret
    exact ⟨ret_bool (by rw [HT.out]; simp_all), rfl⟩
  · go_ret
    exact ⟨ret_bool (by rw [HT.out]), rfl⟩

theorem small_eq (s : ByteArray) : smallL s.data.toList = (tokL s.data.toList && ((lowerB s).toList == s.toList)) := by
  rw [Lib.toList_data, Lib.toList_data]
  rfl

theorem plain_any (s : ByteArray) (w : World) (hs : s.size ≤ maxLen) :
    Calls Tryz.prog 204 #[.string s] w fun e w' => e = .returned (.bool (smallL s.data.toList)) ∧ Below w.heap.size w w' := by
  have HT := Lib.hid (token_any s w hs)
  have HL := Lib.hid (Lower_any s w hs)
  have HE := Lib.hid (small_eq s)
  generalize tokL s.data.toList = t at *
  generalize lowerB s = l at *
  go_enter Tryz.func204, Tryz.ntmps204
  cases t
  · go_wp2_with (go_at_call 181; refine (HT.out).mono ?_; rintro e w' ⟨rfl, rfl⟩)
    go_ret
    exact ⟨ret_bool (by rw [HE.out]; rfl), Below.refl _ _⟩
  · go_wp2_with (first | (go_at_call 181; refine (HT.out).mono ?_; rintro e w' ⟨rfl, rfl⟩) | (go_at_call 179; refine (HL.out).mono ?_; rintro e w' ⟨rfl, hb⟩))
    go_ret
    refine ⟨ret_bool (by rw [HE.out]; simp), hb⟩

set_option maxRecDepth 20000 in
theorem r10Token_any (s : ByteArray) (w : World) (hs : s.size ≤ maxLen) :
    Calls Tryz.prog 113 #[.string s] w fun e w' => e = .returned (.bool (tokL s.data.toList)) ∧ w = w' := by
  unfold maxLen at hs
  have HT : Hid (tokL s.data.toList = (!s.toList.isEmpty && s.data.toList.all isToken)) := Lib.hid (by rw [Lib.toList_data]; rfl)
  go_enter Tryz.func113, Tryz.ntmps113
  go_wp2
  go_loop [3] (fun i => ∃ k : Nat, k ≤ s.size ∧ i = .int .i64 k ∧ (s.data.toList.take k).all isToken = true) (fun i => s.size - (intOf i).toNat)
  case atStart => exact ⟨0, Nat.zero_le _, rfl, rfl⟩
  case round =>
    obtain ⟨k, hk, rfl, hp⟩ := hrel
    have HP := Lib.hid hp
    clear hp
    by_cases hlt : k < s.size
    · have hidx := fun w => index_byte 9 Tryz.underlying9 s k hlt w
      have HS := Lib.hid (take_snocB s k hlt)
      have HC := Lib.hid (fun w => rToken_any s[k] w)
      have HD : Hid (isToken s[k] = false → s.data.toList.all isToken = false) := Lib.hid (fun h => by
        rw [List.all_eq_false]
        exact ⟨s[k], by rw [getElem_data s k hlt]; exact List.getElem_mem _, by rw [h]; simp⟩)
      generalize s[k] = x at *
      cases hx : isToken x
      · have HX := Lib.hid hx
        clear hx
        go_wp2_with (go_at_call 153; refine (HC.out _).mono ?_; rintro e w' ⟨rfl, rfl⟩; rw [HX.out])
        go_ret
        exact ⟨ret_bool (by rw [HT.out, HD.out HX.out]; simp), rfl⟩
      · have HX := Lib.hid hx
        clear hx
        go_wp2_with (go_at_call 153; refine (HC.out _).mono ?_; rintro e w' ⟨rfl, rfl⟩; rw [HX.out])
        go_round
        case rel => exact ⟨k + 1, by omega, by go_num, by rw [HS.out, List.all_append, HP.out]; simp [HX.out]⟩
        case measure => simp [intOf]; omega
    · obtain rfl : k = s.size := by omega
      have HP2 : Hid (s.data.toList.all isToken = true) := Lib.hid (by have := HP.out; rwa [List.take_of_length_le (by rw [← Lib.size_eq]; exact Nat.le_refl _)] at this)
      clear HP
      go_wp2
      all_goals go_ret
      all_goals exact ⟨ret_bool (by rw [HT.out, HP2.out]; simp_all), rfl⟩

set_option maxRecDepth 20000 in
theorem r10Quoted_any (s : ByteArray) (w : World) (hs : s.size ≤ maxLen) :
    Calls Tryz.prog 117 #[.string s] w fun e w' => e = .returned (.bool (quoL s.data.toList)) ∧ w = w' := by
  unfold maxLen at hs
  have HT : Hid (quoL s.data.toList = (s.data.toList.all isQuoted)) := Lib.hid rfl
  go_enter Tryz.func117, Tryz.ntmps117
  go_wp2
  go_loop [3] (fun i => ∃ k : Nat, k ≤ s.size ∧ i = .int .i64 k ∧ (s.data.toList.take k).all isQuoted = true) (fun i => s.size - (intOf i).toNat)
  case atStart => exact ⟨0, Nat.zero_le _, rfl, rfl⟩
  case round =>
    obtain ⟨k, hk, rfl, hp⟩ := hrel
    have HP := Lib.hid hp
    clear hp
    by_cases hlt : k < s.size
    · have hidx := fun w => index_byte 9 Tryz.underlying9 s k hlt w
      have HS := Lib.hid (take_snocB s k hlt)
      have HC := Lib.hid (fun w => rQuoted_any s[k] w)
      have HD : Hid (isQuoted s[k] = false → s.data.toList.all isQuoted = false) := Lib.hid (fun h => by
        rw [List.all_eq_false]
        exact ⟨s[k], by rw [getElem_data s k hlt]; exact List.getElem_mem _, by rw [h]; simp⟩)
      generalize s[k] = x at *
      cases hx : isQuoted x
      · have HX := Lib.hid hx
        clear hx
        go_wp2_with (go_at_call 154; refine (HC.out _).mono ?_; rintro e w' ⟨rfl, rfl⟩; rw [HX.out])
        go_ret
        exact ⟨ret_bool (by rw [HT.out, HD.out HX.out]), rfl⟩
      · have HX := Lib.hid hx
        clear hx
        go_wp2_with (go_at_call 154; refine (HC.out _).mono ?_; rintro e w' ⟨rfl, rfl⟩; rw [HX.out])
        go_round
        case rel => exact ⟨k + 1, by omega, by go_num, by rw [HS.out, List.all_append, HP.out]; simp [HX.out]⟩
        case measure => simp [intOf]; omega
    · obtain rfl : k = s.size := by omega
      have HP2 : Hid (s.data.toList.all isQuoted = true) := Lib.hid (by have := HP.out; rwa [List.take_of_length_le (by rw [← Lib.size_eq]; exact Nat.le_refl _)] at this)
      clear HP
      go_wp2
      all_goals go_ret
      all_goals exact ⟨ret_bool (by rw [HT.out, HP2.out]), rfl⟩

theorem rsmall_any (s : ByteArray) (w : World) (hs : s.size ≤ maxLen) (hr : s.size ≤ 140737488355328) :
    Calls Tryz.prog 118 #[.string s] w fun e w' => e = .returned (.bool (smallL s.data.toList)) ∧ Below w.heap.size w w' := by
  have HT := Lib.hid (r10Token_any s w hs)
  have HL := Lib.hid (rLower_any s w hs hr)
  have HE := Lib.hid (small_eq s)
  generalize tokL s.data.toList = t at *
  generalize lowerB s = l at *
  go_enter Tryz.func118, Tryz.ntmps118
  cases t
  · go_wp2_with (go_at_call 113; refine (HT.out).mono ?_; rintro e w' ⟨rfl, rfl⟩)
    go_ret
    exact ⟨ret_bool (by rw [HE.out]; rfl), Below.refl _ _⟩
  · go_wp2_with (first | (go_at_call 113; refine (HT.out).mono ?_; rintro e w' ⟨rfl, rfl⟩) | (go_at_call 66; refine (HL.out).mono ?_; rintro e w' ⟨rfl, hb⟩))
    go_ret
    refine ⟨ret_bool (by rw [HE.out]; simp), hb⟩

set_option maxRecDepth 20000 in
theorem back_any (s : ByteArray) (w : World) (hs : s.size ≤ maxLen) :
    Calls Tryz.prog 180 #[.string s] w fun e w' => e = .returned (.string (bt (trimEnd isWhite s.data.toList))) ∧ w = w' := by
  have hl := trimEnd_leB isWhite s
  have HE := Lib.hid (extract_trimEnd isWhite s)
  unfold maxLen at hs
  go_enter Tryz.func180, Tryz.ntmps180
  go_wp2
  go_loop [3] (fun i => ∃ n : Nat, n ≤ s.size ∧ i = .int .i64 n ∧ trimEnd isWhite (s.data.toList.take n) = trimEnd isWhite s.data.toList) (fun i => (intOf i).toNat)
  case atStart => exact ⟨s.size, Nat.le_refl _, rfl, by rw [List.take_of_length_le (by rw [← Lib.size_eq]; omega)]⟩
  case round =>
    obtain ⟨n, hn, rfl, hp⟩ := hrel
    have HP := Lib.hid hp; clear hp
    cases n with
    | zero =>
      have HZ : Hid (ByteArray.empty = bt (trimEnd isWhite s.data.toList)) := Lib.hid (by
        rw [← HP.out]
        rfl)
      go_wp2
      go_ret
      exact ⟨ret_string HZ.out, rfl⟩
    | succ n =>
      have hlt : n < s.size := by omega
      have hidx := fun w => index_byte 9 Tryz.underlying9 s n hlt w
      have HC := Lib.hid (fun w => White_any s[n] w)
      have HB0 := Lib.hid (fun h => trimEnd_stopB isWhite s n hlt h)
      have HB1 := Lib.hid (fun h => trimEnd_atB isWhite s n hlt h)
      generalize s[n] = x at *
      cases hb : isWhite x
      · have HB := Lib.hid hb; clear hb
        have HZ : Hid (s.extract 0 (n + 1) = bt (trimEnd isWhite s.data.toList)) := Lib.hid (by
          rw [← HP.out, HB0.out HB.out]
          apply bytes_ext
          rw [Lib.extract_data]
          simp [bt])
        go_wp2_with (go_at_call 199; refine (HC.out _).mono ?_; rintro e w' ⟨rfl, rfl⟩; rw [HB.out])
        go_ret
        exact ⟨ret_string HZ.out, rfl⟩
      · have HB := Lib.hid hb; clear hb
        go_wp2_with (go_at_call 199; refine (HC.out _).mono ?_; rintro e w' ⟨rfl, rfl⟩; rw [HB.out])
        go_round
        case rel => exact ⟨n, by omega, by go_num, by rw [← HP.out, HB1.out HB.out]⟩
        case measure => simp [intOf]

set_option maxRecDepth 20000 in
theorem rback_any (s : ByteArray) (w : World) (hs : s.size ≤ maxLen) :
    Calls Tryz.prog 114 #[.string s] w fun e w' => e = .returned (.string (bt (trimEnd isWhite s.data.toList))) ∧ w = w' := by
  unfold maxLen at hs
  obtain ⟨R, hR⟩ : ∃ R, bt (trimEnd isWhite s.data.toList) = R := ⟨_, rfl⟩
  rw [hR]
  go_enter Tryz.func114, Tryz.ntmps114
  go_wp2
  go_loop [0] (fun i => ∃ t : ByteArray, t.size ≤ s.size ∧ i = .string t ∧ bt (trimEnd isWhite t.data.toList) = R) (fun i => match i with | .string t => t.size | _ => 0)
  case atStart => exact ⟨s, Nat.le_refl _, rfl, hR⟩
  case round =>
    clear hR
    obtain ⟨t, hn, rfl, hp⟩ := hrel
    have HP := Lib.hid hp; clear hp
    by_cases h0 : t.size = 0
    · have hse : t = ByteArray.empty := by apply ByteArray.ext; apply Array.ext'; apply List.eq_nil_of_length_eq_zero; rw [← Lib.size_eq]; omega
      subst hse
      go_wp2
      go_ret
      exact ⟨ret_string HP.out, rfl⟩
    · have hlt : t.size - 1 < t.size := by omega
      have hidx := fun w => index_byte 9 Tryz.underlying9 t (t.size - 1) hlt w
      rw [show ((t.size - 1 : Nat) : Int) = (t.size : Int) - 1 by omega] at hidx
      have HC := Lib.hid (fun w => rWhite_any t[t.size - 1] w)
      have HB0 := Lib.hid (fun h => trimEnd_stopB isWhite t (t.size - 1) hlt h)
      have HB1 := Lib.hid (fun h => trimEnd_atB isWhite t (t.size - 1) hlt h)
      have HTK : Hid (t.data.toList.take t.size = t.data.toList) := Lib.hid (List.take_of_length_le (by rw [← Lib.size_eq]; exact Nat.le_refl _))
      rw [show t.size - 1 + 1 = t.size by omega] at HB0 HB1
      generalize t[t.size - 1] = x at *
      have HZS : Hid ((t.extract 0 (t.size - 1)).size = t.size - 1) := Lib.hid (by rw [extract_size]; omega)
      cases hb : isWhite x
      · have HB := Lib.hid hb; clear hb
        go_wp2_with (go_at_call 115; refine (HC.out _).mono ?_; rintro e w' ⟨rfl, rfl⟩; rw [HB.out])
        go_ret
        refine ⟨ret_string ?_, rfl⟩
        have h := HB0.out HB.out
        rw [HTK.out] at h
        rw [← HP.out, h]
        rfl
      · have HB := Lib.hid hb; clear hb
        go_wp2_with (go_at_call 115; refine (HC.out _).mono ?_; rintro e w' ⟨rfl, rfl⟩; rw [HB.out])
        go_round
        case rel =>
          refine ⟨_, by rw [HZS.out]; omega, rfl, ?_⟩
          have h := HB1.out HB.out
          rw [HTK.out] at h
          rw [← HP.out, h]
          apply congrArg bt
          rw [Lib.extract_data]
          simp
        case measure =>
          show (t.extract 0 (t.size - 1)).size < t.size
          rw [HZS.out]; omega

end Go.Proofs.YtcbhkcdphbffpaaGreatDoor

namespace Go.Proofs.YtcbhkcdphbffpaaGreatDoor
open Go.RowKit
set_option linter.unusedSimpArgs false
set_option linter.unusedVariables false

/-- Parameters lie from a block's head on. -/
def ParsAt (w : World) (B : Nat) (A : Option Addr) (l : Pars) : Prop :=
  l = [] ∨ ∃ g, A = some ⟨g, 0, none⟩ ∧ g < B ∧ ∀ i (h : i < l.length), w.cell? ⟨g, i * 2, none⟩ = some (.string (bt l[i].1)) ∧ w.cell? ⟨g, i * 2 + 1, none⟩ = some (.string (bt l[i].2))

theorem ParsAt.below {w w' : World} {B : Nat} {A : Option Addr} {l : Pars} (h : ParsAt w B A l) (hb : Below B w w') : ParsAt w' B A l := by
  rcases h with h | ⟨g, hA, hg, hc⟩
  · exact .inl h
  · refine .inr ⟨g, hA, hg, fun i hi => ?_⟩
    obtain ⟨h1, h2⟩ := hc i hi
    exact ⟨by rw [cell_below hb hg]; exact h1, by rw [cell_below hb hg]; exact h2⟩

theorem ParsAt.more {w : World} {B B' : Nat} {A : Option Addr} {l : Pars} (h : ParsAt w B A l) (hB : B ≤ B') : ParsAt w B' A l := by
  rcases h with h | ⟨g, hA, hg, hc⟩
  · exact .inl h
  · exact .inr ⟨g, hA, by omega, hc⟩

/-- Parameters that are there, whatever has been made since. -/
theorem ParsAt.on {w w' : World} {A : Option Addr} {l : Pars} (h : ParsAt w w.heap.size A l) (hb : Below w.heap.size w w') : ParsAt w' w'.heap.size A l :=
  (h.below hb).more hb.size

def SizesP (l : Pars) : Prop := l.length ≤ 1100 ∧ ∀ p ∈ l, p.1.length ≤ 1100 ∧ p.2.length ≤ 1100

structure SizesM (m : MimeL) : Prop where
  t : m.t.length ≤ 1100
  s : m.s.length ≤ 1100
  ps : SizesP m.ps

def mimV (m : MimeL) (A : Option Addr) (c : Nat) : Value := .agg #[.string (bt m.t), .string (bt m.s), .slice A m.ps.length c]

theorem bt_max {l : List UInt8} (h : l.length ≤ 1100) : (bt l).size ≤ maxLen := by
  rw [bt_size]; unfold maxLen; omega

/-- None of the first so many has the name. -/
def NoneQ (l : Pars) (n : List UInt8) (k : Nat) : Prop := ∀ i (h : i < l.length), i < k → l[i].1 ≠ n

theorem noneQ_step {l : Pars} {n : List UInt8} {k : Nat} (h : NoneQ l n k) (hk : k < l.length) (hn : l[k].1 ≠ n) : NoneQ l n (k + 1) := by
  intro i hi hlt
  by_cases e : i = k
  · subst e; exact hn
  · exact h i hi (by omega)

theorem atL_found {l : Pars} {n : List UInt8} {k : Nat} (h : NoneQ l n k) (hk : k < l.length) (hn : l[k].1 = n) : atL l n = k := by
  induction l generalizing k with
  | nil => simp at hk
  | cons p r ih =>
    unfold atL
    cases k with
    | zero => rw [if_pos (by simpa using hn)]; rfl
    | succ k =>
      have h0 : p.1 ≠ n := h 0 (by simp) (by omega)
      rw [if_neg h0, ih (k := k) (fun i hi hlt => h (i + 1) (by simp; omega) (by omega)) (by simpa using hk) (by simpa using hn)]
      rw [if_neg (by omega)]
      omega

theorem atL_none {l : Pars} {n : List UInt8} (h : NoneQ l n l.length) : atL l n = -1 := by
  induction l with
  | nil => rfl
  | cons p r ih =>
    unfold atL
    have h0 : p.1 ≠ n := h 0 (by simp) (by simp)
    rw [if_neg h0, ih (fun i hi hlt => h (i + 1) (by simp; omega) (by simp; omega))]
    rfl

theorem eq_text (a : List UInt8) (s : ByteArray) : ((bt a).toList == s.toList) = (a == s.data.toList) := by
  rw [Lib.toList_data, Lib.toList_data]
  rfl

theorem find1m_any (n v : List UInt8) (s : ByteArray) (gs : Nat) (w : World) (hgs : gs < w.heap.size) (hc : w.cell? ⟨gs, 0, none⟩ = some (.string s)) :
    Calls Tryz.prog 203 #[.agg #[.string (bt n), .string (bt v)], .pointer (some ⟨gs, 0, none⟩)] w fun e w' => e = .returned (.bool (n == s.data.toList)) ∧ Below w.heap.size w w' := by
  have HE := Lib.hid (eq_text n s)
  generalize bt n = N at *
  go_enter Tryz.func203, Tryz.ntmps203
  go_wp2_with fail
  go_ret
  exact ⟨ret_bool HE.out, below_box _ _⟩

set_option maxHeartbeats 400000 in
theorem indexPar_any (s : ByteArray) (l : Pars) (A : Option Addr) (c gs : Nat) (w : World) (hgs : gs < w.heap.size) (hc : w.cell? ⟨gs, 0, none⟩ = some (.string s)) (hn : l.length ≤ 1100)
    (hA : ParsAt w w.heap.size A l) :
    Calls Tryz.prog 202 #[.slice A l.length c, .func (.func 203) #[] #[.pointer (some ⟨gs, 0, none⟩)]] w fun e w' => e = .returned (.int .i64 (atL l s.data.toList)) ∧ Below w.heap.size w w' := by
  have hcf : ∀ (args : Array Value) (w : World), (callFunc 203 args).run Tryz.prog w = .ok (.enter 203 args) w := fun args w => MuLone.run_callFunc_enter Tryz.func203 (by kernel_rfl) rfl args w
  have HA := Lib.hid hA; clear hA
  go_enter Tryz.func202, Tryz.ntmps202
  go_wp2_with fail
  go_loopw [8] (fun i wr => ∃ n : Nat, n ≤ l.length ∧ i = .int .i64 n ∧ NoneQ l s.data.toList n ∧ Below w.heap.size w wr) (fun i _ => l.length - (intOf i).toNat)
  case atStart => exact ⟨0, Nat.zero_le _, rfl, fun i _ h => by omega, Below.refl _ _⟩
  case round =>
    obtain ⟨n, hn, rfl, h0, hb⟩ := hrel
    have H0 := Lib.hid h0; clear h0
    by_cases hlt : n < l.length
    · have hz := hb.size
      have hA2 := HA.out.below hb
      rcases hA2 with hnil | ⟨g, rfl, hg, hcs⟩
      · rw [hnil] at hlt; simp at hlt
      obtain ⟨c0, c1⟩ := hcs n hlt
      have hcg : wr.cell? ⟨gs, 0, none⟩ = some (.string s) := by rw [cell_below hb hgs]; exact hc
      have HB := Lib.hid hb
      have HG := Lib.hid (show gs < wr.heap.size by omega)
      have HC := Lib.hid (find1m_any l[n].1 l[n].2 s gs wr HG.out hcg)
      clear hcs hb
      by_cases hm : l[n].1 = s.data.toList
      · have HS := Lib.hid (atL_found H0.out hlt hm)
        rw [hm, beq_self_eq_true] at HC
        rw [hm] at c0
        clear hm
        generalize l[n] = p at *
        go_wp2_with fail
        refine HC.out.mono ?_
        rintro e w1 ⟨rfl, hb1⟩
        have HB1 := Lib.hid hb1
        clear hb1
        go_wp2_with fail
        go_ret
        exact ⟨ret_int HS.out.symm, HB.out.trans (HB1.out.mono HB.out.size)⟩
      · have HS := Lib.hid (noneQ_step H0.out hlt hm)
        rw [beq_eq_false_iff_ne.2 hm] at HC
        clear hm
        generalize l[n] = p at *
        go_wp2_with fail
        refine HC.out.mono ?_
        rintro e w1 ⟨rfl, hb1⟩
        have HB1 := Lib.hid hb1
        clear hb1
        go_wp2_with fail
        go_roundw
        case rel => exact ⟨n + 1, by omega, by go_num, HS.out, HB.out.trans (HB1.out.mono HB.out.size)⟩
        case measure => simp [intOf]; omega
    · obtain rfl : n = l.length := by omega
      have HS := Lib.hid (atL_none H0.out)
      go_wp2_with fail
      go_ret
      exact ⟨ret_int HS.out.symm, hb⟩

theorem find_par (m : MimeL) (A : Option Addr) (c : Nat) (s : ByteArray) (w : World) (hm : SizesM m) (hA : ParsAt w w.heap.size A m.ps) :
    Calls Tryz.prog 183 #[mimV m A c, .string s] w fun e w' => e = .returned (.int .i64 (atL m.ps s.data.toList)) ∧ Below w.heap.size w w' := by
  obtain ⟨t, u, l⟩ := m
  have hl := hm.ps.1
  dsimp only at hA hl ⊢
  have HL := Lib.hid hl
  clear hm hl
  unfold mimV
  dsimp only
  have HI := Lib.hid (fun (w1 : World) (hgs : w.heap.size + 1 < w1.heap.size) (hc : w1.cell? ⟨w.heap.size + 1, 0, none⟩ = some (.string s)) (hA : ParsAt w1 w1.heap.size A l) => indexPar_any s l A c (w.heap.size + 1) w1 hgs hc HL.out hA)
  generalize atL l s.data.toList = r at *
  generalize bt t = T at *
  generalize bt u = U at *
  go_enter Tryz.func183, Tryz.ntmps183
  go_wp2_with fail
  refine (HI.out _ (by simp) (by simp [go_sem]) (hA.on ((below_box w _).alloc (by simp) _))).mono ?_
  rintro e w1 ⟨rfl, hb1⟩
  have HB1 := Lib.hid (((below_box w (.cells #[.string T, .string U, .slice A l.length c] 36)).alloc (by simp) (.cells #[.string s] 9)).trans (hb1.mono (by simp; omega)))
  clear hb1
  go_wp2_with fail
  go_ret
  exact ⟨rfl, HB1.out⟩

set_option maxHeartbeats 400000 in
theorem rAt_par (m : MimeL) (A : Option Addr) (c : Nat) (s : ByteArray) (w : World) (hm : SizesM m) (hA : ParsAt w w.heap.size A m.ps) :
    Calls Tryz.prog 81 #[mimV m A c, .string s] w fun e w' => e = .returned (.int .i64 (atL m.ps s.data.toList)) ∧ Below w.heap.size w w' := by
  obtain ⟨t, u, l⟩ := m
  have hl := hm.ps.1
  dsimp only at hA hl ⊢
  clear hm
  unfold mimV
  dsimp only
  have HA := Lib.hid hA; clear hA
  generalize bt t = T at *
  generalize bt u = U at *
  go_enter Tryz.func81, Tryz.ntmps81
  go_wp2_with fail
  go_loopw [5] (fun i wr => ∃ n : Nat, n ≤ l.length ∧ i = .int .i64 n ∧ NoneQ l s.data.toList n ∧ Below w.heap.size w wr ∧ w.heap.size < wr.heap.size ∧ wr.cell? ⟨w.heap.size, 2, none⟩ = some (.slice A l.length c)) (fun i _ => l.length - (intOf i).toNat)
  case atStart => exact ⟨0, Nat.zero_le _, rfl, fun i _ h => by omega, below_box _ _, by simp, by simp [go_sem]⟩
  case round =>
    obtain ⟨n, hn, rfl, h0, hb, hz1, d2⟩ := hrel
    have H0 := Lib.hid h0; clear h0
    have HB := Lib.hid hb
    have HD2 := Lib.hid d2
    by_cases hlt : n < l.length
    · have hz := hb.size
      have hA2 := HA.out.below hb
      rcases hA2 with hnil | ⟨g, rfl, hg, hcs⟩
      · rw [hnil] at hlt; simp at hlt
      obtain ⟨c0, c1⟩ := hcs n hlt
      have HE := Lib.hid (eq_text l[n].1 s)
      clear hcs hb
      by_cases hm : l[n].1 = s.data.toList
      · have HS := Lib.hid (atL_found H0.out hlt hm)
        have HX : Hid (((bt l[n].1).toList == s.toList) = true) := Lib.hid (by rw [HE.out, hm, beq_self_eq_true])
        clear hm HE
        generalize bt l[n].1 = N at *
        generalize l[n] = p at *
        have hx := HX.out
        go_wp2_with fail
        go_ret
        exact ⟨ret_int HS.out.symm, HB.out⟩
      · have HS := Lib.hid (noneQ_step H0.out hlt hm)
        have HX : Hid (((bt l[n].1).toList == s.toList) = false) := Lib.hid (by rw [HE.out, beq_eq_false_iff_ne.2 hm])
        clear hm HE
        generalize bt l[n].1 = N at *
        generalize l[n] = p at *
        have hx := HX.out
        go_wp2_with fail
        go_roundw
        case rel => exact ⟨n + 1, by omega, by go_num, HS.out, HB.out, hz1, HD2.out⟩
        case measure => simp [intOf]; omega
    · obtain rfl : n = l.length := by omega
      have HS := Lib.hid (atL_none H0.out)
      clear hb
      go_wp2_with fail
      go_ret
      exact ⟨ret_int HS.out.symm, HB.out⟩

end Go.Proofs.YtcbhkcdphbffpaaGreatDoor

namespace Go.Proofs.YtcbhkcdphbffpaaGreatDoor
open Go.RowKit
set_option linter.unusedSimpArgs false
set_option linter.unusedVariables false

def OkTo (l : Pars) (n : Nat) : Prop := ∀ j, j < n → okP l j = true

theorem goodP_of {l : Pars} (h : OkTo l l.length) : goodP l = true := by
  unfold goodP
  rw [List.all_eq_true]
  intro j hj
  exact h j (List.mem_range.1 hj)

theorem goodP_bad {l : Pars} {n : Nat} (hn : n < l.length) (h : okP l n = false) : goodP l = false := by
  unfold goodP
  rw [List.all_eq_false]
  exact ⟨n, List.mem_range.2 hn, by rw [h]; simp⟩

theorem okTo_step {l : Pars} {n : Nat} (h : OkTo l n) (hn : okP l n = true) : OkTo l (n + 1) := by
  intro j hj
  by_cases e : j = n
  · subst e; exact hn
  · exact h j (by omega)

theorem okP_at (l : Pars) (n : Nat) (hn : n < l.length) : okP l n = (smallL l[n].1 && quoL l[n].2 && atL l l[n].1 == (n : Int)) := by
  unfold okP
  rw [List.getElem?_eq_getElem hn]

theorem ret_bool_false {m : MimeL} (h : goodP m.ps = false) : goodL m = false := by unfold goodL; rw [h]; rfl

set_option maxHeartbeats 2000000 in
set_option maxRecDepth 20000 in
theorem good_par (m : MimeL) (A : Option Addr) (c : Nat) (w : World) (hm : SizesM m) (hA : ParsAt w w.heap.size A m.ps) :
    Calls Tryz.prog 185 #[mimV m A c] w fun e w' => e = .returned (.bool (goodL m)) ∧ Below w.heap.size w w' := by
  have HF := Lib.hid (fun (w1 : World) (s : ByteArray) (hb : Below w.heap.size w w1) => find_par m A c s w1 hm (hA.on hb))
  have HPT := Lib.hid (fun w => plain_any (bt m.t) w (bt_max hm.t))
  have HPS := Lib.hid (fun w => plain_any (bt m.s) w (bt_max hm.s))
  have HZ := Lib.hid hm.ps.2
  have hl := hm.ps.1
  have HGL : Hid (goodL m = (goodP m.ps && smallL m.t && smallL m.s)) := Lib.hid rfl
  have HBAD := Lib.hid (fun h => ret_bool_false (m := m) h)
  have HA := Lib.hid hA
  rw [bt_list] at HPT HPS
  clear hm hA
  unfold mimV at HF ⊢
  generalize smallL m.t = rt at *
  generalize smallL m.s = rs at *
  generalize goodL m = G at *
  generalize bt m.t = T at *
  generalize bt m.s = U at *
  generalize m.ps = l at *
  clear m
  go_enter Tryz.func185, Tryz.ntmps185
  go_wp2_with fail
  go_loopw [8] (fun i wr => ∃ n : Nat, n ≤ l.length ∧ i = .int .i64 n ∧ OkTo l n ∧ Below w.heap.size w wr ∧ w.heap.size < wr.heap.size ∧ wr.cell? ⟨w.heap.size, 0, none⟩ = some (.string T) ∧ wr.cell? ⟨w.heap.size, 1, none⟩ = some (.string U) ∧ wr.cell? ⟨w.heap.size, 2, none⟩ = some (.slice A l.length c)) (fun i _ => l.length - (intOf i).toNat)
  case atStart => exact ⟨0, Nat.zero_le _, rfl, fun i h => by omega, below_box _ _, by simp, by simp [go_sem], by simp [go_sem], by simp [go_sem]⟩
  case round =>
    obtain ⟨n, hn, rfl, h0, hb, hz1, d0, d1, d2⟩ := hrel
    have H0 := Lib.hid h0; clear h0
    have HB := Lib.hid hb
    have HD0 := Lib.hid d0
    have HD1 := Lib.hid d1
    have HD2 := Lib.hid d2
    have hz := hb.size
    by_cases hlt : n < l.length
    · have hA2 := HA.out.below hb
      rcases hA2 with hnil | ⟨g, rfl, hg, hcs⟩
      · rw [hnil] at hlt; simp at hlt
      obtain ⟨c0, c1⟩ := hcs n hlt
      have hsz := HZ.out l[n] (List.getElem_mem _)
      have HO := Lib.hid (okP_at l n hlt)
      have HPN := Lib.hid (fun w => plain_any (bt l[n].1) w (bt_max hsz.1))
      have HPQ := Lib.hid (fun w => All_list 187 isQuoted fnQuoted (bt l[n].2) w (bt_max hsz.2))
      have HQE : Hid (quoL l[n].2 = (bt l[n].2).data.toList.all isQuoted) := Lib.hid rfl
      have HFN := Lib.hid (fun (w1 : World) (hb : Below w.heap.size w w1) => HF.out w1 (bt l[n].1) hb)
      have HBD := Lib.hid (fun h => HBAD.out (goodP_bad hlt h))
      rw [bt_list] at HPN HFN
      rw [← HQE.out] at HPQ
      clear HQE hcs hb hsz HPT HPS HGL HF HBAD
      generalize l[n] = p at *
      generalize smallL p.1 = r1 at *
      generalize quoL p.2 = r2 at *
      generalize atL l p.1 = r3 at *
      generalize bt p.1 = N at *
      generalize bt p.2 = V at *
      clear p
      go_upto_region 4 with fail
      obtain ⟨B1, hB1⟩ : ∃ B1, wr.heap.size = B1 := ⟨_, rfl⟩
      generalize hW : wr.alloc (.cells #[.string N, .string V] 96) = W at *
      have e0 : W.cell? ⟨B1, 0, none⟩ = some (.string N) := by rw [← hW, ← hB1]; simp [go_sem]
      have e1 : W.cell? ⟨B1, 1, none⟩ = some (.string V) := by rw [← hW, ← hB1]; simp [go_sem]
      have hWb : Below wr.heap.size wr W := by rw [← hW]; exact below_box _ _
      have hWz : B1 < W.heap.size := by rw [← hW, ← hB1]; simp
      rw [hB1] at hz1 ⊢
      have HWB := Lib.hid (HB.out.trans (hWb.mono hz))
      rw [← cell_below hWb (by omega)] at d0 d1 d2
      clear hW hWb c0 c1
      have hzW : w.heap.size ≤ W.heap.size := HWB.out.size
      cases r1
      · go_wp2_with fail
        refine (HPN.out _).mono ?_
        rintro e w1 ⟨rfl, hb1⟩
        have HB1 := Lib.hid (HWB.out.trans (hb1.mono hzW))
        clear hb1
        go_wp2_with fail
        go_ret
        exact ⟨ret_bool (HBD.out (by rw [HO.out]; rfl)).symm, HB1.out⟩
      · go_wp2_with fail
        refine (HPN.out _).mono ?_
        rintro e w1 ⟨rfl, hb1⟩
        have HB1 := Lib.hid (HWB.out.trans (hb1.mono hzW))
        have hz2 := hb1.size
        rw [← cell_below hb1 (by omega)] at d0 d1 d2 e0 e1
        clear hb1
        cases r2
        · go_wp2_with (go_at_call 186; refine (HPQ.out _).mono ?_; rintro e w' ⟨rfl, rfl⟩)
          go_ret
          exact ⟨ret_bool (HBD.out (by rw [HO.out]; rfl)).symm, HB1.out⟩
        · have HD0 := Lib.hid d0
          have HD1 := Lib.hid d1
          have HD2 := Lib.hid d2
          by_cases h3 : r3 = (n : Int)
          · have HS := Lib.hid (okTo_step H0.out (by rw [HO.out, h3]; simp))
            rw [h3] at HFN
            clear h3 HO HBD
            go_wp2_with (go_at_call 186; refine (HPQ.out _).mono ?_; rintro e w' ⟨rfl, rfl⟩)
            refine (HFN.out _ HB1.out).mono ?_
            rintro e w2 ⟨rfl, hb2⟩
            have HB2 := Lib.hid (HB1.out.trans (hb2.mono HB1.out.size))
            have hz3 := hb2.size
            rw [← cell_below hb2 (by omega)] at d0 d1 d2
            have HD0 := Lib.hid d0
            have HD1 := Lib.hid d1
            have HD2 := Lib.hid d2
            clear hb2
            go_wp2_with fail
            go_roundw
            case rel => exact ⟨n + 1, by omega, by go_num, HS.out, HB2.out, by omega, HD0.out, HD1.out, HD2.out⟩
            case measure => simp [intOf]; omega
          · have hne : (r3 == (n : Int)) = false := beq_eq_false_iff_ne.2 h3
            have HNE := Lib.hid hne
            clear h3
            go_wp2_with (go_at_call 186; refine (HPQ.out _).mono ?_; rintro e w' ⟨rfl, rfl⟩)
            refine (HFN.out _ HB1.out).mono ?_
            rintro e w2 ⟨rfl, hb2⟩
            have HB2 := Lib.hid (HB1.out.trans (hb2.mono HB1.out.size))
            clear hb2
            go_wp2_with fail
            go_ret
            exact ⟨ret_bool (HBD.out (by rw [HO.out, HNE.out]; rfl)).symm, HB2.out⟩
    · obtain rfl : n = l.length := by omega
      have hGE : G = (rt && rs) := by rw [HGL.out, goodP_of H0.out]; rfl
      have HGE := Lib.hid hGE
      clear hGE hb HGL HBAD HF
      cases rt
      · go_wp2_with fail
        refine (HPT.out _).mono ?_
        rintro e w1 ⟨rfl, hb1⟩
        have HB1 := Lib.hid (HB.out.trans (hb1.mono hz))
        clear hb1
        go_wp2_with fail
        go_ret
        exact ⟨ret_bool HGE.out.symm, HB1.out⟩
      · go_wp2_with fail
        refine (HPT.out _).mono ?_
        rintro e w1 ⟨rfl, hb1⟩
        have HB1 := Lib.hid (HB.out.trans (hb1.mono hz))
        have hz2 := hb1.size
        rw [← cell_below hb1 (by omega)] at d0 d1 d2
        clear hb1
        go_wp2_with fail
        refine (HPS.out _).mono ?_
        rintro e w2 ⟨rfl, hb2⟩
        have HB2 := Lib.hid (HB1.out.trans (hb2.mono HB1.out.size))
        clear hb2
        go_wp2_with fail
        go_ret
        exact ⟨ret_bool (by rw [HGE.out]; rfl), HB2.out⟩

set_option maxHeartbeats 4000000 in
set_option maxRecDepth 20000 in
theorem rGood_par (m : MimeL) (A : Option Addr) (c : Nat) (w : World) (hm : SizesM m) (hA : ParsAt w w.heap.size A m.ps) :
    Calls Tryz.prog 82 #[mimV m A c] w fun e w' => e = .returned (.bool (goodL m)) ∧ Below w.heap.size w w' := by
  have HF := Lib.hid (fun (w1 : World) (s : ByteArray) (hb : Below w.heap.size w w1) => rAt_par m A c s w1 hm (hA.on hb))
  have HPT := Lib.hid (fun w => rsmall_any (bt m.t) w (bt_max hm.t) (by rw [bt_size]; have := hm.t; omega))
  have HPS := Lib.hid (fun w => rsmall_any (bt m.s) w (bt_max hm.s) (by rw [bt_size]; have := hm.s; omega))
  have HZ := Lib.hid hm.ps.2
  have hl := hm.ps.1
  have HGL : Hid (goodL m = (goodP m.ps && smallL m.t && smallL m.s)) := Lib.hid rfl
  have HBAD := Lib.hid (fun h => ret_bool_false (m := m) h)
  have HA := Lib.hid hA
  rw [bt_list] at HPT HPS
  clear hm hA
  unfold mimV at HF ⊢
  generalize smallL m.t = rt at *
  generalize smallL m.s = rs at *
  generalize goodL m = G at *
  generalize bt m.t = T at *
  generalize bt m.s = U at *
  generalize m.ps = l at *
  clear m
  go_enter Tryz.func82, Tryz.ntmps82
  go_wp2_with fail
  go_loopw [3] (fun i wr => ∃ n : Nat, n ≤ l.length ∧ i = .int .i64 n ∧ OkTo l n ∧ Below w.heap.size w wr ∧ w.heap.size < wr.heap.size ∧ wr.cell? ⟨w.heap.size, 0, none⟩ = some (.string T) ∧ wr.cell? ⟨w.heap.size, 1, none⟩ = some (.string U) ∧ wr.cell? ⟨w.heap.size, 2, none⟩ = some (.slice A l.length c)) (fun i _ => l.length - (intOf i).toNat)
  case atStart => exact ⟨0, Nat.zero_le _, rfl, fun i h => by omega, below_box _ _, by simp, by simp [go_sem], by simp [go_sem], by simp [go_sem]⟩
  case round =>
    obtain ⟨n, hn, rfl, h0, hb, hz1, d0, d1, d2⟩ := hrel
    have H0 := Lib.hid h0; clear h0
    have HB := Lib.hid hb
    have HD0 := Lib.hid d0
    have HD1 := Lib.hid d1
    have HD2 := Lib.hid d2
    have hz := hb.size
    by_cases hlt : n < l.length
    · have hA2 := HA.out.below hb
      rcases hA2 with hnil | ⟨g, rfl, hg, hcs⟩
      · rw [hnil] at hlt; simp at hlt
      obtain ⟨c0, c1⟩ := hcs n hlt
      have hsz := HZ.out l[n] (List.getElem_mem _)
      have HO := Lib.hid (okP_at l n hlt)
      have HPN := Lib.hid (fun w => rsmall_any (bt l[n].1) w (bt_max hsz.1) (by rw [bt_size]; have := hsz.1; omega))
      have HPQ := Lib.hid (fun w => r10Quoted_any (bt l[n].2) w (bt_max hsz.2))
      have HFN := Lib.hid (fun (w1 : World) (hb : Below w.heap.size w w1) => HF.out w1 (bt l[n].1) hb)
      have HBD := Lib.hid (fun h => HBAD.out (goodP_bad hlt h))
      rw [bt_list] at HPN HFN HPQ
      clear hcs hb hsz HPT HPS HGL HF HBAD
      generalize l[n] = p at *
      generalize smallL p.1 = r1 at *
      generalize quoL p.2 = r2 at *
      generalize atL l p.1 = r3 at *
      generalize bt p.1 = N at *
      generalize bt p.2 = V at *
      clear p
      have hgw : g < wr.heap.size := by omega
      have hx := @InB.cells wr
      go_upto_region 4 with fail
      cases r1
      · refine wp_region_inb (by kernel_rfl) (by kernel_rfl) ?_; (repeat (first | go_big_quiet_skip | (go_big_quiet_want; go_big_quiet_op; first | go_big_quiet_on | (apply Exists.intro; refine ⟨fun x => ?_, ?_⟩; (· ((first | (go_at_call 118; exact inb_call _ (HPN.out _)) | (go_at_call 117; exact inb_same _ (HPQ.out _)) | (go_at_call 81; exact inb_call _ (HFN.out _ (HB.out.trans (x.property.mono hz))))))); go_big_quiet_on)))); refine wpQuiet_nil ?_; intro _ hw'; obtain ⟨⟨wq, hbq⟩, rfl⟩ := hw'
        go_wp2_with fail
        go_ret
        exact ⟨ret_bool (HBD.out (by rw [HO.out]; rfl)).symm, HB.out.trans (hbq.mono hz)⟩
      · cases r2
        · refine wp_region_inb (by kernel_rfl) (by kernel_rfl) ?_; (repeat (first | go_big_quiet_skip | (go_big_quiet_want; go_big_quiet_op; first | go_big_quiet_on | (apply Exists.intro; refine ⟨fun x => ?_, ?_⟩; (· ((first | (go_at_call 118; exact inb_call _ (HPN.out _)) | (go_at_call 117; exact inb_same _ (HPQ.out _)) | (go_at_call 81; exact inb_call _ (HFN.out _ (HB.out.trans (x.property.mono hz))))))); go_big_quiet_on)))); refine wpQuiet_nil ?_; intro _ hw'; obtain ⟨⟨wq, hbq⟩, rfl⟩ := hw'
          go_wp2_with fail
          go_ret
          exact ⟨ret_bool (HBD.out (by rw [HO.out]; rfl)).symm, HB.out.trans (hbq.mono hz)⟩
        · by_cases h3 : r3 = (n : Int)
          · have HS := Lib.hid (okTo_step H0.out (by rw [HO.out, h3]; simp))
            rw [h3] at HFN
            clear h3 HO HBD
            refine wp_region_inb (by kernel_rfl) (by kernel_rfl) ?_; (repeat (first | go_big_quiet_skip | (go_big_quiet_want; go_big_quiet_op; first | go_big_quiet_on | (apply Exists.intro; refine ⟨fun x => ?_, ?_⟩; (· ((first | (go_at_call 118; exact inb_call _ (HPN.out _)) | (go_at_call 117; exact inb_same _ (HPQ.out _)) | (go_at_call 81; exact inb_call _ (HFN.out _ (HB.out.trans (x.property.mono hz))))))); go_big_quiet_on)))); refine wpQuiet_nil ?_; intro _ hw'; obtain ⟨⟨wq, hbq⟩, rfl⟩ := hw'
            have HBQ := Lib.hid hbq
            have hz3 := hbq.size
            clear hbq
            go_wp2_with fail
            go_roundw
            case rel => exact ⟨n + 1, by omega, by go_num, HS.out, HB.out.trans (HBQ.out.mono hz), by omega, by rw [cell_below HBQ.out hz1]; exact HD0.out, by rw [cell_below HBQ.out hz1]; exact HD1.out, by rw [cell_below HBQ.out hz1]; exact HD2.out⟩
            case measure => simp [intOf]; omega
          · have hne : (r3 == (n : Int)) = false := beq_eq_false_iff_ne.2 h3
            have HNE := Lib.hid hne
            clear h3
            refine wp_region_inb (by kernel_rfl) (by kernel_rfl) ?_; (repeat (first | go_big_quiet_skip | (go_big_quiet_want; go_big_quiet_op; first | go_big_quiet_on | (apply Exists.intro; refine ⟨fun x => ?_, ?_⟩; (· ((first | (go_at_call 118; exact inb_call _ (HPN.out _)) | (go_at_call 117; exact inb_same _ (HPQ.out _)) | (go_at_call 81; exact inb_call _ (HFN.out _ (HB.out.trans (x.property.mono hz))))))); go_big_quiet_on)))); refine wpQuiet_nil ?_; intro _ hw'; obtain ⟨⟨wq, hbq⟩, rfl⟩ := hw'
            have HBQ := Lib.hid hbq
            clear hbq
            go_wp2_with fail
            go_ret
            exact ⟨ret_bool (HBD.out (by rw [HO.out, HNE.out]; rfl)).symm, HB.out.trans (HBQ.out.mono hz)⟩
    · obtain rfl : n = l.length := by omega
      have hGE : G = (rt && rs) := by rw [HGL.out, goodP_of H0.out]; rfl
      have HGE := Lib.hid hGE
      clear hGE hb HGL HBAD HF
      cases rt
      · go_wp2_with fail
        refine (HPT.out _).mono ?_
        rintro e w1 ⟨rfl, hb1⟩
        have HB1 := Lib.hid (HB.out.trans (hb1.mono hz))
        clear hb1
        go_wp2_with fail
        go_ret
        exact ⟨ret_bool HGE.out.symm, HB1.out⟩
      · go_wp2_with fail
        refine (HPT.out _).mono ?_
        rintro e w1 ⟨rfl, hb1⟩
        have HB1 := Lib.hid (HB.out.trans (hb1.mono hz))
        have hz2 := hb1.size
        rw [← cell_below hb1 (by omega)] at d0 d1 d2
        clear hb1
        go_wp2_with fail
        refine (HPS.out _).mono ?_
        rintro e w2 ⟨rfl, hb2⟩
        have HB2 := Lib.hid (HB1.out.trans (hb2.mono HB1.out.size))
        clear hb2
        go_wp2_with fail
        go_ret
        exact ⟨ret_bool (by rw [HGE.out]; rfl), HB2.out⟩

end Go.Proofs.YtcbhkcdphbffpaaGreatDoor

namespace Go.Proofs.YtcbhkcdphbffpaaGreatDoor
open Go.RowKit
set_option linter.unusedSimpArgs false
set_option linter.unusedVariables false

def essL (m : MimeL) : List UInt8 := m.t ++ 47 :: m.s

theorem bt_append (a b : List UInt8) : bt a ++ bt b = bt (a ++ b) := by
  apply bytes_ext
  rw [ByteArray.data_append, Array.toList_append]
  rfl

theorem essence_eq (m : MimeL) : bt m.t ++ ⟨#[47]⟩ ++ bt m.s = bt (essL m) := by
  show bt m.t ++ bt [47] ++ bt m.s = _
  rw [bt_append, bt_append]
  simp [essL]

theorem essence_par (m : MimeL) (A : Option Addr) (c : Nat) (w : World) (hm : SizesM m) :
    Calls Tryz.prog 76 #[mimV m A c] w fun e w' => e = .returned (.string (bt (essL m))) ∧ Below w.heap.size w w' := by
  have HE := Lib.hid (essence_eq m)
  have h1 : (bt m.t).size ≤ 1100 := by rw [bt_size]; exact hm.t
  have h2 : (bt m.s).size ≤ 1100 := by rw [bt_size]; exact hm.s
  have h3 : (⟨#[47]⟩ : ByteArray).size = 1 := rfl
  have h4 : (bt m.t ++ ⟨#[47]⟩).size = (bt m.t).size + 1 := ByteArray.size_append
  clear hm
  unfold mimV
  generalize bt (essL m) = R at *
  generalize bt m.t = T at *
  generalize bt m.s = U at *
  go_enter Tryz.func76, Tryz.ntmps76
  go_wp2_with fail
  go_ret
  exact ⟨ret_string HE.out, below_box _ _⟩

theorem Essence_par (m : MimeL) (A : Option Addr) (c : Nat) (w : World) (hm : SizesM m) :
    Calls Tryz.prog 56 #[mimV m A c] w fun e w' => e = .returned (.string (bt (essL m))) ∧ Below w.heap.size w w' := by
  have HG := Lib.hid (fun (w1 : World) => essence_par m A c w1 hm)
  clear hm
  unfold mimV at HG ⊢
  generalize bt (essL m) = R at *
  go_enter Tryz.func56, Tryz.ntmps56
  go_wp2_with fail
  refine (HG.out _).mono ?_
  rintro e w1 ⟨rfl, hb1⟩
  have HB1 := Lib.hid (below_after hb1)
  clear hb1
  go_wp2_with fail
  go_ret
  exact ⟨rfl, HB1.out⟩

theorem Param_yes (m : MimeL) (A : Option Addr) (c : Nat) (s : ByteArray) (w : World) (hm : SizesM m) (hA : ParsAt w w.heap.size A m.ps) (k : Nat) (hk : atL m.ps s.data.toList = k) (hlt : k < m.ps.length) :
    Calls Tryz.prog 157 #[mimV m A c, .string s] w fun e w' => e = .returned (.tuple #[.string (bt m.ps[k].2), .bool true]) ∧ Below w.heap.size w w' := by
  have HF := Lib.hid (fun (w1 : World) (hb : Below w.heap.size w w1) => find_par m A c s w1 hm (hA.on hb))
  rw [hk] at HF
  clear hk
  have hl := hm.ps.1
  clear hm
  obtain ⟨t, u, l⟩ := m
  dsimp only at *
  unfold mimV at HF ⊢
  dsimp only at *
  generalize bt t = T at *
  generalize bt u = U at *
  rcases hA with hnil | ⟨g, rfl, hg, hcs⟩
  · rw [hnil] at hlt; simp at hlt
  obtain ⟨c0, c1⟩ := hcs k hlt
  clear hcs
  generalize bt l[k].2 = V at *
  generalize bt l[k].1 = N at *
  go_enter Tryz.func157, Tryz.ntmps157
  go_wp2_with fail
  refine (HF.out _ (below_box _ _)).mono ?_
  rintro e w1 ⟨rfl, hb1⟩
  have HB1 := Lib.hid (below_after hb1)
  have d2 : w1.cell? ⟨w.heap.size, 2, none⟩ = some (.slice (some ⟨g, 0, none⟩) l.length c) := by rw [cell_below hb1 (by simp)]; simp [go_sem]
  rw [← cell_below HB1.out hg] at c0 c1
  clear hb1
  go_wp2_with fail
  go_ret2
  exact ⟨rfl, HB1.out⟩

theorem Param_no (m : MimeL) (A : Option Addr) (c : Nat) (s : ByteArray) (w : World) (hm : SizesM m) (hA : ParsAt w w.heap.size A m.ps) (hk : atL m.ps s.data.toList < 0) :
    Calls Tryz.prog 157 #[mimV m A c, .string s] w fun e w' => e = .returned (.tuple #[.string ⟨#[]⟩, .bool false]) ∧ Below w.heap.size w w' := by
  have HF := Lib.hid (fun (w1 : World) (hb : Below w.heap.size w w1) => find_par m A c s w1 hm (hA.on hb))
  generalize atL m.ps s.data.toList = k at *
  clear hm hA
  unfold mimV at HF ⊢
  go_enter Tryz.func157, Tryz.ntmps157
  go_wp2_with fail
  refine (HF.out _ (below_box _ _)).mono ?_
  rintro e w1 ⟨rfl, hb1⟩
  have HB1 := Lib.hid (below_after hb1)
  clear hb1
  go_wp2_with fail
  go_ret2
  exact ⟨rfl, HB1.out⟩

def sameM (m o : MimeL) : Bool := m.t == o.t && m.s == o.s && m.ps == o.ps

theorem sameM_self (m : MimeL) : sameM m m = true := by simp [sameM]

theorem sameM_iff (m o : MimeL) : sameM m o = true ↔ m = o := by
  obtain ⟨a, b, c⟩ := m
  obtain ⟨d, e, f⟩ := o
  simp [sameM, and_assoc]

def EqTo (l q : Pars) (n : Nat) : Prop := ∀ j (h1 : j < l.length) (h2 : j < q.length), j < n → l[j] = q[j]

theorem eqTo_all {l q : Pars} (hn : l.length = q.length) (h : EqTo l q l.length) : l = q :=
  List.ext_getElem hn fun j h1 h2 => h j h1 h2 h1

theorem eq_textL (a b : List UInt8) : ((bt a).toList == (bt b).toList) = (a == b) := by
  rw [Lib.toList_data, Lib.toList_data]
  rfl

theorem neq_par (a b c d : ByteArray) (w : World) : (binOp .neq 96 (.agg #[.string a, .string b]) (.agg #[.string c, .string d])).run Tryz.prog w = .ok (.bool (!(a.toList == c.toList && b.toList == d.toList))) w := by
  rw [run_neq_struct]
  simp [go_sem]
  by_cases h1 : a.toList = c.toList <;> by_cases h2 : b.toList = d.toList <;> simp [h1, h2]

theorem neq_pars (p q : List UInt8 × List UInt8) (w : World) : (binOp .neq 96 (.agg #[.string (bt p.1), .string (bt p.2)]) (.agg #[.string (bt q.1), .string (bt q.2)])).run Tryz.prog w = .ok (.bool (!decide (p = q))) w := by
  rw [neq_par, eq_textL, eq_textL]
  obtain ⟨a, b⟩ := p
  obtain ⟨c, d⟩ := q
  congr 3
  rw [Bool.eq_iff_iff]
  simp

end Go.Proofs.YtcbhkcdphbffpaaGreatDoor

namespace Go.Proofs.YtcbhkcdphbffpaaGreatDoor
open Go.RowKit
set_option linter.unusedSimpArgs false
set_option linter.unusedVariables false

def serQ (m : MimeL) : List UInt8 := if goodL m then mimeW m else []

theorem serQ_yes {m : MimeL} (h : goodL m = true) : serQ m = mimeW m := by unfold serQ; rw [if_pos h]

theorem serQ_no {m : MimeL} (h : goodL m = false) : serQ m = [] := by unfold serQ; rw [if_neg (by rw [h]; simp)]

theorem take_pars (l : Pars) (n : Nat) (h : n < l.length) : (l.take (n + 1)).flatMap parW = (l.take n).flatMap parW ++ parW l[n] := by
  rw [List.take_succ_eq_append_getElem h, List.flatMap_append]
  simp only [List.flatMap_cons, List.flatMap_nil, List.append_nil]

theorem valW_len (v : List UInt8) (h : v.length ≤ 1100) : (valW v).length ≤ 2202 := by
  unfold valW
  split
  · omega
  · have := escL_length v
    simp [serL]
    omega

set_option maxRecDepth 20000 in
theorem pars_len (l : Pars) (h : SizesP l) (n : Nat) : ((l.take n).flatMap parW).length ≤ n * 3304 := by
  induction n with
  | zero => simp
  | succ n ih =>
    by_cases hlt : n < l.length
    · rw [take_pars l n hlt, List.length_append]
      have h2 := h.2 l[n] (List.getElem_mem _)
      have h3 := valW_len l[n].2 h2.2
      have : (parW l[n]).length = l[n].1.length + (valW l[n].2).length + 2 := by simp [parW]; omega
      omega
    · have e1 : l.take (n + 1) = l := List.take_of_length_le (by omega)
      have e2 : l.take n = l := List.take_of_length_le (by omega)
      rw [e2] at ih
      rw [e1]
      omega

theorem needs_tok (v : List UInt8) : needsB (bt v) = !tokL v := by
  unfold needsB tokL
  rw [Lib.toList_data, bt_list]
  cases v.isEmpty <;> cases v.all isToken <;> rfl

theorem ser_bt (v : List UInt8) : (⟨(serL (bt v).data.toList).toArray⟩ : ByteArray) = bt (serL v) := rfl

theorem par_eq (X : List UInt8) (p : List UInt8 × List UInt8) : bt X ++ ⟨#[59]⟩ ++ bt p.1 ++ ⟨#[61]⟩ ++ bt (valW p.2) = bt (X ++ parW p) := by
  show bt X ++ bt [59] ++ bt p.1 ++ bt [61] ++ bt (valW p.2) = _
  rw [bt_append, bt_append, bt_append, bt_append]
  simp [parW]

theorem Bl.on {W wr w2 : World} {b : Nat} {l : List UInt8} (h : Bl W b l wr) (hb : Below wr.heap.size wr w2) : Bl W b l w2 := by
  obtain ⟨v, h1, h2⟩ := h
  exact ⟨v, h1.stands (hb.block _ h1.lt) (fun k _ hk => hb.block k hk), h2.trans (hb.mono h2.size)⟩

theorem Bl.below {W wr : World} {b : Nat} {l : List UInt8} (h : Bl W b l wr) : Below W.heap.size W wr := by
  obtain ⟨v, h1, h2⟩ := h
  exact h2

theorem parW_eq (p : List UInt8 × List UInt8) : (⟨#[59]⟩ : ByteArray) ++ bt p.1 ++ ⟨#[61]⟩ ++ bt (valW p.2) = bt (parW p) := by
  show bt [59] ++ bt p.1 ++ bt [61] ++ bt (valW p.2) = _
  rw [bt_append, bt_append, bt_append]
  simp [parW]

end Go.Proofs.YtcbhkcdphbffpaaGreatDoor

namespace Go.Proofs.YtcbhkcdphbffpaaGreatDoor
open Go.RowKit

theorem wp_region_tail {P : Program} {id : Nat} {Q : Exit → Act → World → Prop} {a : Act} {w : World} {l : List Oper} (n : Nat) (hm : P.follows .mixedOrders = true) (hB : Region.lexTailB .any l.toArray n = true)
    (h : ∀ w2, w2 = w.drew → wpStill P l.toArray w2 (fun a' => wpList P l.toArray Q (l.drop n) a' w2) (l.take n) a) : (Code.region id l.toArray true).wp P Q a w :=
  wp_region_still_tail n hm hB (h _ rfl)

end Go.Proofs.YtcbhkcdphbffpaaGreatDoor

namespace Go.Proofs.YtcbhkcdphbffpaaGreatDoor
open Go.RowKit
set_option linter.unusedSimpArgs false
set_option linter.unusedVariables false

section
variable {P : Program} {ops : Array Oper} {Q : Exit → Act → World → Prop} {md : Region.Mode} {S : World → Prop} {n : Nat}

/-- Whatever order is picked; S holds behind every operation ahead of number n. -/
def wpAnyN (P : Program) (md : Region.Mode) (ops : Array Oper) (Q : Exit → Act → World → Prop) (S : World → Prop) (n : Nat) : Nat → Array Bool → Act → World → Prop
  | 0, listed, a, w => Region.ready md ops listed = [] ∧ Q .normal a w
  | fuel + 1, listed, a, w => (Region.ready md ops listed = [] → Q .normal a w) ∧
    ∀ i ∈ Region.ready md ops listed, wpOp P ops Q i (fun a' w' => (i < n → S w') ∧ wpAnyN P md ops Q S n fuel (listed.setIfInBounds i true) a' w') a w

theorem wpAny_of_N : ∀ (fuel : Nat) (listed : Array Bool) (a : Act) (w : World), wpAnyN P md ops Q S n fuel listed a w → wpAny P md ops Q fuel listed a w
  | 0, _, _, _, h => h
  | fuel + 1, _, _, _, h => ⟨h.1, fun i hi => wpOp_mono (fun a' w' h' => wpAny_of_N fuel _ a' w' h'.2) (h.2 i hi)⟩

/-- The tail: nothing, or one operation that all others lead to. -/
def tailB (md : Region.Mode) (ops : Array Oper) (n : Nat) : Bool :=
  decide (n = ops.size) || (Region.sinkB md ops n && Region.chainB md ops n && decide (n < ops.size))

theorem tail_later {listed : Array Bool} {i : Nat} (ht : tailB md ops n = true) (inv : HeadInv md ops n listed) (hin : i < n) (hun : listed.getD i true = false) : ∀ j ∈ Region.ready md ops listed, j < n := by
  intro j hj
  unfold tailB at ht
  simp only [Bool.or_eq_true, Bool.and_eq_true, decide_eq_true_eq] at ht
  rcases ht with h | ⟨⟨hs, hc⟩, hn⟩
  · obtain ⟨_, o, ho, _⟩ := mem_ready.1 hj
    rw [h]
    exact (Array.getElem?_eq_some_iff.1 ho).1
  · rcases Nat.lt_or_ge j n with h | h
    · exact h
    · exact absurd hj (tail_waits hs hc hn inv _ i rfl hin hun j h)

theorem wpAnyN_first {i : Nat} {oi : Oper} {v : Value} (ht : tailB md ops n = true) (hin : i < n) (hi : ops[i]? = some oi) (hsel : ∀ (j : Nat) (o : Oper) cs b, ops[j]? = some o → o.op ≠ .select cs b)
    (hQ : ∀ c a w, Q (.panic c) (a.put oi.dst v) w → Q (.panic c) a w) :
    ∀ (fuel : Nat) (listed : Array Bool) (a : Act) (w : World), HeadInv md ops n listed →
      (∀ j oj, ops[j]? = some oj → j ≠ i → listed.getD j true = false → (∀ e ∈ oj.after, Region.binds md e = true → e.on ≠ i) → oi.apart ops oj = true) →
      i ∈ Region.ready md ops listed → YieldsIf P ops S oi v a → S w →
      wpAnyN P md ops Q S n fuel (listed.setIfInBounds i true) (a.put oi.dst v) w → wpAnyN P md ops Q S n (fuel + 1) listed a w := by
  intro fuel
  induction fuel with
  | zero =>
    intro listed a w inv hfree hr hy hS H
    refine ⟨fun h => (by rw [h] at hr; cases hr), fun j hj => ?_⟩
    by_cases hji : j = i
    · subst hji; exact hy.wpOp hi hS ⟨fun _ => hS, H⟩
    · have h1 := ready_mono hj hji
      rw [H.1] at h1
      cases h1
  | succ fuel ih =>
    intro listed a w inv hfree hr hy hS H
    have hun := (mem_ready.1 hr).1
    refine ⟨fun h => (by rw [h] at hr; cases hr), fun j hj => ?_⟩
    have hjn : j < n := tail_later ht inv hin hun j hj
    by_cases hji : j = i
    · subst hji; exact hy.wpOp hi hS ⟨fun _ => hS, H⟩
    · have h1 := H.2 j (ready_mono hj hji)
      obtain ⟨hjun, oj, hoj, hall⟩ := mem_ready.1 hj
      have hnot : ∀ e ∈ oj.after, Region.binds md e = true → e.on ≠ i := fun e he hb heq => by
        have h3 := hall e he hb
        rw [heq, getD_both hun] at h3
        cases h3
      have h2 := wpOp_putIf hoj (hfree j oj hoj hji hjun hnot) (fun cs b => hsel i oi cs b hi) (fun cs b => hsel j oj cs b hoj) hQ hy h1
      have hfree2 : ∀ k ok, ops[k]? = some ok → k ≠ i → (listed.setIfInBounds j true).getD k true = false → (∀ e ∈ ok.after, Region.binds md e = true → e.on ≠ i) → oi.apart ops ok = true := by
        intro k ok hk hki hunk hno
        refine hfree k ok hk hki ?_ hno
        by_cases hjk : j = k
        · subst hjk; exact hjun
        · rw [getD_set_ne true hjk] at hunk; exact hunk
      refine wpOp_mono (fun a' w' h3 => ?_) h2
      have hS2 : S w' := h3.2.1 hjn
      refine ⟨fun _ => hS2, ih (listed.setIfInBounds j true) a' w' (inv.set hj hjn) hfree2 (ready_mono hr (Ne.symm hji)) h3.1 hS2 ?_⟩
      rw [Array.setIfInBounds_comm _ _ hji]
      exact h3.2.2

/-- The walk's judgement. -/
def NJ (P : Program) (md : Region.Mode) (ops : Array Oper) (Q : Exit → Act → World → Prop) (S : World → Prop) (n fuel : Nat) (listed : Array Bool) (a : Act) (w : World) : Prop :=
  HeadInv md ops n listed → S w → wpAnyN P md ops Q S n fuel listed a w

theorem NJ.take {i : Nat} {oi : Oper} {v : Value} {fuel : Nat} {listed : Array Bool} {a : Act} {w : World} (hi : ops[i]? = some oi) (hin : decide (i < n) = true) (ht : tailB md ops n = true)
    (hs : Region.noSelect ops = true) (hf : Region.free md ops listed i = true) (hr : (Region.ready md ops listed).contains i = true)
    (hQ : ∀ c a w, Q (.panic c) (a.put oi.dst v) w → Q (.panic c) a w) (hy : YieldsIf P ops S oi v a)
    (h : NJ P md ops Q S n fuel (listed.setIfInBounds i true) (a.put oi.dst v) w) : NJ P md ops Q S n (fuel + 1) listed a w := by
  intro inv hS
  have hr2 : i ∈ Region.ready md ops listed := by simpa using hr
  have hin2 : i < n := of_decide_eq_true hin
  exact wpAnyN_first ht hin2 hi (Region.noSelect_spec hs) hQ fuel listed a w inv (Region.free_spec hi hf) hr2 hy hS (h (inv.set hr2 hin2) hS)

theorem NJ.step {i : Nat} {o : Oper} {fuel : Nat} {listed : Array Bool} {a : Act} {w : World} (ho : ops[i]? = some o) (hin : decide (i < n) = true) (hr : Region.ready md ops listed = [i])
    (h : S w → ∀ K' : Act → World → Prop, Shut (∀ a w, S w → NJ P md ops Q S n fuel (listed.setIfInBounds i true) a w → K' a w) → if Region.wanted o (yielded ops a.tmps) = true then Oper.wp P o a w K' Q else K' (a.put o.dst undef) w) :
    NJ P md ops Q S n (fuel + 1) listed a w := by
  intro inv hS
  have hin2 : i < n := of_decide_eq_true hin
  refine ⟨fun h0 => (by rw [hr] at h0; cases h0), fun j hj => ?_⟩
  have hj2 : j = i := by rw [hr] at hj; simpa using hj
  subst hj2
  exact wpOp_step ho (fun K' hK => h hS K' (fun a w hS2 hN => hK a w ⟨fun _ => hS2, hN (inv.set hj hin2) hS2⟩))

theorem NJ.last {o : Oper} {fuel : Nat} {listed : Array Bool} {a : Act} {w : World} (ho : ops[n]? = some o) (hr : Region.ready md ops listed = [n]) (hr2 : Region.ready md ops (listed.setIfInBounds n true) = [])
    (h : S w → ∀ K' : Act → World → Prop, Shut (∀ a w, Q .normal a w → K' a w) → if Region.wanted o (yielded ops a.tmps) = true then Oper.wp P o a w K' Q else K' (a.put o.dst undef) w) :
    NJ P md ops Q S n (fuel + 1) listed a w := by
  intro inv hS
  refine ⟨fun h0 => (by rw [hr] at h0; cases h0), fun j hj => ?_⟩
  have hj2 : j = n := by rw [hr] at hj; simpa using hj
  subst hj2
  refine wpOp_step ho (fun K' hK => h hS K' (fun a w hq => hK a w ⟨fun hlt => absurd hlt (Nat.lt_irrefl _), ?_⟩))
  cases fuel with
  | zero => exact ⟨hr2, hq⟩
  | succ f => exact ⟨fun _ => hq, fun i hi => (by rw [hr2] at hi; cases hi)⟩

theorem NJ.done {fuel : Nat} {listed : Array Bool} {a : Act} {w : World} (hr : Region.ready md ops listed = []) (h : S w → Q .normal a w) : NJ P md ops Q S n fuel listed a w := by
  intro inv hS
  cases fuel with
  | zero => exact ⟨hr, h hS⟩
  | succ f => exact ⟨fun _ => h hS, fun i hi => (by rw [hr] at hi; cases hi)⟩

/-- The beginning. -/
theorem wp_region_N (n : Nat) (S : World → Prop) {id : Nat} {a : Act} {w : World} (hm : P.follows .mixedOrders = true) (hn : decide (n ≤ ops.size) = true) (hS : S w.drew)
    (h : NJ P .any ops Q S n ops.size (Array.replicate ops.size false) a w.drew) : (Code.region id ops true).wp P Q a w := by
  refine wp_region_any hm (wpAny_of_N _ _ _ _ (h ⟨by simp, fun j oj _ hl => (by rw [getD_replicate_false] at hl; cases hl), fun t _ ht => ?_⟩ hS))
  exact getD_in (by simpa using ht) (getD_replicate_false _ _)

end

end Go.Proofs.YtcbhkcdphbffpaaGreatDoor

namespace Go.Proofs.YtcbhkcdphbffpaaGreatDoor
open Go.RowKit
set_option linter.unusedSimpArgs false
set_option linter.unusedVariables false

theorem infoPar : (Tryz.prog.info? 96).map (fun i => (i.zero, i.size, i.bytes)) = some (some (.agg #[.string ByteArray.empty, .string ByteArray.empty]), 2, 32) := by kernel_rfl

def parCells (p : List UInt8 × List UInt8) : List Value := [.string (bt p.1), .string (bt p.2)]

def rowQ (l : Pars) : List Value := l.flatMap parCells

theorem rowQ_snoc (l : Pars) (p : List UInt8 × List UInt8) : rowQ (l ++ [p]) = rowQ l ++ parCells p := by simp [rowQ]

theorem rowQ_at (l : Pars) (i : Nat) (hi : i < l.length) (j : Nat) (hj : j < 2) : (rowQ l)[i * 2 + j]? = (parCells l[i])[j]? := by
  induction l generalizing i with
  | nil => simp at hi
  | cons p r ih =>
    have hl : (parCells p).length = 2 := rfl
    cases i with
    | zero =>
      simp only [rowQ, List.flatMap_cons, Nat.zero_mul, Nat.zero_add, List.getElem_cons_zero]
      rw [List.getElem?_append_left (by omega)]
    | succ i =>
      simp only [rowQ, List.flatMap_cons, List.getElem_cons_succ]
      rw [List.getElem?_append_right (by omega), hl, show (i + 1) * 2 + j - 2 = i * 2 + j by omega]
      exact ih i (by simpa using hi)

theorem pars_of_own {w : World} {base : Nat} {e : TypeId} {v : Value} {l : Pars} {n : Nat} (h : w.ownsRow base e 2 v n (rowQ l)) (hn : n = l.length) : ∃ A c, v = .slice A l.length c ∧ ParsAt w w.heap.size A l := by
  subst hn
  have h' := h.2
  rcases h' with ⟨rfl, h0⟩ | ⟨g, cap, cur, rfl, _, hgb, _⟩
  · have : l = [] := List.eq_nil_of_length_eq_zero h0
    subst this
    exact ⟨none, 0, rfl, .inl rfl⟩
  · refine ⟨_, _, rfl, .inr ⟨g, rfl, (Array.getElem?_eq_some_iff.1 hgb).1, fun i hi => ?_⟩⟩
    have hc : ∀ j, j < 2 → w.cell? ⟨g, i * 2 + j, none⟩ = (parCells l[i])[j]? := fun j hj => by
      rw [h.cellAt (i * 2 + j) (by omega), rowQ_at l i hi j hj]
    exact ⟨by simpa [parCells] using hc 0 (by omega), by simpa [parCells] using hc 1 (by omega)⟩

theorem pars_stands {w : World} {base : Nat} {e : TypeId} {A : Option Addr} {c : Nat} {l : Pars} {n : Nat} (h : w.ownsRow base e 2 (.slice A n c) n (rowQ l)) (hn : n = l.length) : ParsAt w w.heap.size A l := by
  obtain ⟨A', c', hv, hp⟩ := pars_of_own h hn
  injection hv with h1 h2 h3
  rw [h1]; exact hp

theorem par_cells_new (W : World) (p : List UInt8 × List UInt8) (e : TypeId) : ∀ j u, (parCells p)[j]? = some u → (W.alloc (.cells #[.string (bt p.1), .string (bt p.2)] e)).cell? ((⟨W.heap.size, 0, none⟩ : Addr).add j) = some u := by
  intro j u hj
  rw [Addr.add_lit, Nat.zero_add, cell_of_row _ _ _ _ _ (0, 0) (heap_alloc_new W _)]
  simpa [parCells] using hj

theorem cut_bt (x : List UInt8) (n : Nat) : cutB (bt x) n = bt (x.take n) := by
  unfold cutB
  split
  · apply bytes_ext
    rw [Lib.extract_data]
    simp [bt]
  · rename_i h
    rw [bt_size] at h
    rw [List.take_of_length_le (by omega)]

def fewQ (p : List UInt8 × List UInt8) : List UInt8 × List UInt8 := (p.1.take 20, p.2.take 30)

def fewM (m : MimeL) : MimeL := ⟨m.t.take 30, m.s.take 30, (m.ps.take 6).map fewQ⟩

theorem fewM_idem (m : MimeL) : fewM (fewM m) = fewM m := by
  unfold fewM
  simp only [List.take_take, Nat.min_self, ← List.map_take, List.map_map]
  congr 1
  apply List.map_congr_left
  intro p _
  simp [fewQ, List.take_take]

theorem fewM_big (m : MimeL) : (bt (fewM m).t).size ≤ maxLen ∧ (bt (fewM m).s).size ≤ maxLen ∧ (fewM m).ps.length ≤ maxLen ∧ ∀ p ∈ (fewM m).ps, (bt p.1).size ≤ maxLen ∧ (bt p.2).size ≤ maxLen := by
  unfold maxLen
  refine ⟨?_, ?_, ?_, ?_⟩
  · rw [bt_size]; simp [fewM]; omega
  · rw [bt_size]; simp [fewM]; omega
  · simp [fewM]; omega
  · intro p hp
    simp only [fewM, List.mem_map] at hp
    obtain ⟨q, _, rfl⟩ := hp
    simp only [bt_size, fewQ, List.length_take]
    omega

theorem fewM_sizes (m : MimeL) : SizesM (fewM m) := by
  refine ⟨?_, ?_, ?_, ?_⟩
  · simp [fewM]; omega
  · simp [fewM]; omega
  · simp [fewM]; omega
  · intro p hp
    simp only [fewM, List.mem_map] at hp
    obtain ⟨q, _, rfl⟩ := hp
    simp [fewQ]; omega

/-- Parameters lie somewhere in a block. -/
def ParsIn (w : World) (B : Nat) (A : Option Addr) (l : Pars) : Prop :=
  l = [] ∨ ∃ g off, A = some ⟨g, off, none⟩ ∧ g < B ∧ ∀ i (h : i < l.length), w.cell? ⟨g, off + i * 2, none⟩ = some (.string (bt l[i].1)) ∧ w.cell? ⟨g, off + i * 2 + 1, none⟩ = some (.string (bt l[i].2))

theorem ParsIn.below {w w' : World} {B : Nat} {A : Option Addr} {l : Pars} (h : ParsIn w B A l) (hb : Below B w w') : ParsIn w' B A l := by
  rcases h with h | ⟨g, off, hA, hg, hc⟩
  · exact .inl h
  · refine .inr ⟨g, off, hA, hg, fun i hi => ?_⟩
    obtain ⟨h1, h2⟩ := hc i hi
    exact ⟨by rw [cell_below hb hg]; exact h1, by rw [cell_below hb hg]; exact h2⟩

theorem ParsIn.more {w : World} {B B' : Nat} {A : Option Addr} {l : Pars} (h : ParsIn w B A l) (hB : B ≤ B') : ParsIn w B' A l := by
  rcases h with h | ⟨g, off, hA, hg, hc⟩
  · exact .inl h
  · exact .inr ⟨g, off, hA, by omega, hc⟩

theorem ParsIn.on {w w' : World} {A : Option Addr} {l : Pars} (h : ParsIn w w.heap.size A l) (hb : Below w.heap.size w w') : ParsIn w' w'.heap.size A l :=
  (h.below hb).more hb.size

theorem ParsAt.isIn {w : World} {B : Nat} {A : Option Addr} {l : Pars} (h : ParsAt w B A l) : ParsIn w B A l := by
  rcases h with h | ⟨g, hA, hg, hc⟩
  · exact .inl h
  · exact .inr ⟨g, 0, hA, hg, fun i hi => by simpa using hc i hi⟩

/-- Texts that a machine can hold. -/
structure BigM (m : MimeL) : Prop where
  t : (bt m.t).size ≤ maxLen
  s : (bt m.s).size ≤ maxLen
  n : m.ps.length ≤ maxLen
  ps : ∀ p ∈ m.ps, (bt p.1).size ≤ maxLen ∧ (bt p.2).size ≤ maxLen

theorem take_len_few {l : Pars} {n : Nat} (hn : n ≤ l.length) (hn6 : n ≤ 6) (h : ¬(n < l.length ∧ n < 6)) : (l.take n).map fewQ = (l.take 6).map fewQ ∧ ((l.take 6).map fewQ).length = n := by
  have : l.take n = l.take 6 := by
    by_cases h6 : n = 6
    · rw [h6]
    · have : n = l.length := by omega
      rw [List.take_of_length_le (by omega), List.take_of_length_le (by omega)]
  refine ⟨by rw [this], ?_⟩
  rw [List.length_map, ← this, List.length_take]
  omega

theorem take_few_snoc (l : Pars) (n : Nat) (h : n < l.length) : rowQ ((l.take (n + 1)).map fewQ) = rowQ ((l.take n).map fewQ) ++ parCells (fewQ l[n]) := by
  rw [← rowQ_snoc]
  congr 1
  rw [← List.take_append_getElem h, List.map_append]
  rfl

theorem own_ne_of {v : Value} {g F k n c : Nat} (h : v.ownBlock = some g ∨ g = k) (hne : v.ownBlock ≠ some F) (hlt : F < k) : (Value.slice (some ⟨g, 0, none⟩) n c).ownBlock ≠ some F := by
  rcases h with h | h
  · intro e
    exact hne (by rw [h, ← e]; rfl)
  · simp [Value.ownBlock]; omega

/-- A row's head is laid into the block that names it. -/
theorem row_laid {w2 : World} {B F n : Nat} {T U : ByteArray} {v v2 : Value} {xs : List Value} {e ty : TypeId} (hF : w2.heap[F]? = some (.cells #[.string T, .string U, v] ty (0, 0))) (ho : w2.ownsRow B e 2 v2 n xs) (hne : v2.ownBlock ≠ some F) :
    (w2.setCell ⟨F, 2, none⟩ v2).heap[F]? = some (.cells #[.string T, .string U, v2] ty (0, 0)) ∧ (w2.setCell ⟨F, 2, none⟩ v2).ownsRow B e 2 v2 n xs := by
  refine ⟨by simp [World.setCell, Array.getElem?_modify, hF], row_stands ho (fun k hk _ => ?_)⟩
  have hkF : k ≠ F := fun e => hne (by rw [hk, e])
  simp [World.setCell, Array.getElem?_modify, Ne.symm hkF]

end Go.Proofs.YtcbhkcdphbffpaaGreatDoor
