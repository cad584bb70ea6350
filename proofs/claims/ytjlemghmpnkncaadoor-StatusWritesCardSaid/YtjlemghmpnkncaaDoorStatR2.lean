/-
  The walk of package status: a line is read.
-/
import Derived.Test.YtjlemghmpnkncaaDoorStatA
import Derived.Deep.DeepCutAuto
namespace Go.Proofs.YtjlemghmpnkncaaDoor
open Go.RowKit
set_option linter.unusedSimpArgs false
set_option linter.unusedVariables false

/-- How many blanks stand at a place; how many tabs and blanks. -/
def spcN (T : ByteArray) (k : Nat) : Nat := spanN (fun b => b == 32) (restB T k).data.toList

def tabN (T : ByteArray) (k : Nat) : Nat := spanN isTab (restB T k).data.toList

def headT : ByteArray := ⟨#[72, 84, 84, 80, 47]⟩
def dotT : ByteArray := ⟨#[46]⟩
def blankT : ByteArray := ⟨#[32]⟩

abbrev ReadR := (Int × Int) ⊕ (Int × Int × Int × ByteArray)

def finR (T : ByteArray) (r : ByteArray) : ReadR :=
  if goodS (numB T 5 1) (numB T 7 1) (numB T (9 + spcN T 9) 3) r = true then .inr ((numB T 5 1 : Nat), (numB T 7 1 : Nat), (numB T (9 + spcN T 9) 3 : Nat), r) else .inl (0, 2)

/-- What reading gives, or where it throws what. -/
def readR (T : ByteArray) : ReadR :=
  if prefB (restB T 0) headT = false then .inl (((0 : Nat) : Int), 2)
  else if T.size < 6 then .inl (((5 : Nat) : Int), 8)
  else if digB T 5 1 = false then .inl (((6 : Nat) : Int), 2)
  else if prefB (restB T 6) dotT = false then .inl (((6 : Nat) : Int), 2)
  else if T.size < 8 then .inl (((7 : Nat) : Int), 8)
  else if digB T 7 1 = false then .inl (((8 : Nat) : Int), 2)
  else if prefB (restB T 8) blankT = false then .inl (((8 : Nat) : Int), 2)
  else if T.size < 9 + spcN T 9 + 3 then .inl ((9 + spcN T 9 : Nat), 8)
  else if digB T (9 + spcN T 9) 3 = false then .inl ((9 + spcN T 9 + 3 : Nat), 2)
  else if 9 + spcN T 9 + 3 = T.size then finR T ⟨#[]⟩
  else if prefB (restB T (9 + spcN T 9 + 3)) blankT = false then .inl ((9 + spcN T 9 + 3 : Nat), 2)
  else finR T (restB T (9 + spcN T 9 + 3 + 1 + tabN T (9 + spcN T 9 + 3 + 1)))

/-- The state of reading. -/
structure AtS (w cur : World) (g : Nat) (T : ByteArray) (k : Nat) (a b c : Int) (r : ByteArray) : Prop where
  cur_ : Cur cur g T k
  but : But g w cur
  box0 : cur.heap[w.heap.size]? = some (statO 0 0 0 ⟨#[]⟩)
  box1 : cur.heap[w.heap.size + 1]? = some (statO a b c r)

theorem AtS.moved {w cur w' : World} {g : Nat} {T : ByteArray} {k k2 : Nat} {a b c : Int} {r : ByteArray} (h : AtS w cur g T k a b c r) (hm : Moved g T k2 cur w') (hg : g < w.heap.size) : AtS w w' g T k2 a b c r :=
  ⟨hm.1, h.but.trans hm.2, (hm.2.block _ (Array.getElem?_eq_some_iff.1 h.box0).1 (by simp; omega)).trans h.box0, (hm.2.block _ (Array.getElem?_eq_some_iff.1 h.box1).1 (by simp; omega)).trans h.box1⟩

theorem AtS.store {w cur : World} {g : Nat} {T : ByteArray} {k : Nat} {a b c a2 b2 c2 : Int} {r r2 : ByteArray} (h : AtS w cur g T k a b c r) (hg : g < w.heap.size) (i : Nat) (v : Value)
    (hv : (cur.setCell ⟨w.heap.size + 1, i, none⟩ v).heap[w.heap.size + 1]? = some (statO a2 b2 c2 r2)) : AtS w (cur.setCell ⟨w.heap.size + 1, i, none⟩ v) g T k a2 b2 c2 r2 := by
  have e : ∀ b, b ≠ w.heap.size + 1 → (cur.setCell ⟨w.heap.size + 1, i, none⟩ v).heap[b]? = cur.heap[b]? := fun b hb => Below.heap_setCell _ _ _ _ (by simpa using hb)
  refine ⟨(e g (by omega)).trans h.cur_, h.but.setCell (.inr (by simp)) v, (e _ (by omega)).trans h.box0, hv⟩

theorem set_at {cur : World} {x : Nat} {a b c : Int} {r : ByteArray} (h : cur.heap[x]? = some (statO a b c r)) :
    (∀ v : Int, (cur.setCell ⟨x, 0, none⟩ (.int .i64 v)).heap[x]? = some (statO v b c r)) ∧ (∀ v : Int, (cur.setCell ⟨x, 1, none⟩ (.int .i64 v)).heap[x]? = some (statO a v c r)) ∧
    (∀ v : Int, (cur.setCell ⟨x, 2, none⟩ (.int .i64 v)).heap[x]? = some (statO a b v r)) ∧ (∀ v : ByteArray, (cur.setCell ⟨x, 3, none⟩ (.string v)).heap[x]? = some (statO a b c v)) := by
  unfold statO at h ⊢
  refine ⟨?_, ?_, ?_, ?_⟩ <;> (intro v; simp [World.setCell, Array.getElem?_modify, h])

theorem AtS.s0 {w cur : World} {g : Nat} {T : ByteArray} {k : Nat} {a b c : Int} {r : ByteArray} (h : AtS w cur g T k a b c r) (hg : g < w.heap.size) (v : Int) : AtS w (cur.setCell ⟨w.heap.size + 1, 0, none⟩ (.int .i64 v)) g T k v b c r := h.store hg 0 _ ((set_at h.box1).1 v)
theorem AtS.s1 {w cur : World} {g : Nat} {T : ByteArray} {k : Nat} {a b c : Int} {r : ByteArray} (h : AtS w cur g T k a b c r) (hg : g < w.heap.size) (v : Int) : AtS w (cur.setCell ⟨w.heap.size + 1, 1, none⟩ (.int .i64 v)) g T k a v c r := h.store hg 1 _ ((set_at h.box1).2.1 v)
theorem AtS.s2 {w cur : World} {g : Nat} {T : ByteArray} {k : Nat} {a b c : Int} {r : ByteArray} (h : AtS w cur g T k a b c r) (hg : g < w.heap.size) (v : Int) : AtS w (cur.setCell ⟨w.heap.size + 1, 2, none⟩ (.int .i64 v)) g T k a b v r := h.store hg 2 _ ((set_at h.box1).2.2.1 v)
theorem AtS.s3 {w cur : World} {g : Nat} {T : ByteArray} {k : Nat} {a b c : Int} {r : ByteArray} (h : AtS w cur g T k a b c r) (hg : g < w.heap.size) (v : ByteArray) : AtS w (cur.setCell ⟨w.heap.size + 1, 3, none⟩ (.string v)) g T k a b c v := h.store hg 3 _ ((set_at h.box1).2.2.2 v)

theorem AtS.new {w : World} {g : Nat} {T : ByteArray} {k : Nat} (h : Cur w g T k) :
    AtS w ((w.alloc (.cells #[.int .i64 0, .int .i64 0, .int .i64 0, .string ⟨#[]⟩] 27)).alloc (.cells #[.int .i64 0, .int .i64 0, .int .i64 0, .string ⟨#[]⟩] 27)) g T k 0 0 0 ⟨#[]⟩ := by
  refine ⟨(h.alloc _).alloc _, ((But.refl g w).alloc _).alloc _, ?_, ?_⟩
  · rw [Below.heap_alloc _ _ _ (by simp)]
    exact heap_alloc_new w _
  · have := heap_alloc_new (w.alloc (.cells #[.int .i64 0, .int .i64 0, .int .i64 0, .string ⟨#[]⟩] 27)) (.cells #[.int .i64 0, .int .i64 0, .int .i64 0, .string ⟨#[]⟩] 27)
    unfold statO
    simpa using this

theorem rest_list (T : ByteArray) (k : Nat) : (restB T k).data.toList = T.data.toList.drop k := by
  rw [Lib.extract_data, List.take_of_length_le]
  rw [List.length_drop, ← Lib.size_eq]
  exact Nat.le_refl _

/-- The place that a cursor's cell says. -/
def placeN (w : World) (g : Nat) : Nat := match w.cell? ⟨g, 1, none⟩ with | some (.int _ n) => n.toNat | _ => 0

theorem place_at {w : World} {g : Nat} {T : ByteArray} {k : Nat} (h : Cur w g T k) : placeN w g = k := by
  unfold placeN
  rw [h.gone]
  simp

theorem fnTabC : FnPure 71 isTab :=
  ⟨fun args w => MuLone.run_callFunc_enter Tryd.func71 (by kernel_rfl) rfl args w, Tab_any⟩

theorem pref_blank (T : ByteArray) (k : Nat) (hk : k ≤ T.size) : (prefB (restB T k) blankT = true → k + 1 ≤ T.size ∧ spcN T k = spcN T (k + 1) + 1) ∧ (prefB (restB T k) blankT = false → spcN T k = 0) := by
  unfold prefB spcN Lib.hasPrefix spanN
  rw [rest_list, rest_list, show blankT.data.toList = [32] from rfl]
  rcases Nat.lt_or_ge k T.size with h | h
  · rw [List.drop_eq_getElem_cons (by rw [← Lib.size_eq]; exact h)]
    generalize T.data.toList[k]'(by rw [← Lib.size_eq]; exact h) = x
    by_cases hx : x = 32
    · subst hx
      simp
      omega
    · have hx2 : (32 : UInt8) ≠ x := fun e => hx e.symm
      simp [hx, hx2]
  · rw [List.drop_of_length_le (by rw [← Lib.size_eq]; exact h)]
    simp

/-- What reading does. -/
def ReadPost (T : ByteArray) (g : Nat) (w : World) (e : Ending) (w' : World) : Prop :=
  match readR T with
  | .inl (a, c) => e = .panicked [{ v := faultV a c, recovered := false }] ∧ But g w w'
  | .inr (a, b, c, r) => e = .returned (statV a b c r) ∧ But g w w'

theorem readPost_gives {T : ByteArray} {g : Nat} {w w' : World} {a b c : Int} {r : ByteArray} (hR : readR T = .inr (a, b, c, r)) (hb : But g w w') : ReadPost T g w (.returned (statV a b c r)) w' := by
  unfold ReadPost
  rw [hR]
  exact ⟨rfl, hb⟩

theorem readPost_throws {T : ByteArray} {g : Nat} {w w' : World} {a c : Int} (hR : readR T = .inl (a, c)) (hb : But g w w') : ReadPost T g w (.panicked [{ v := faultV a c, recovered := false }]) w' := by
  unfold ReadPost
  rw [hR]
  exact ⟨rfl, hb⟩

set_option maxRecDepth 20000 in
set_option maxHeartbeats 1000000 in
theorem read_any (T : ByteArray) (g : Nat) (w : World) (h : Cur w g T 0) (hs : T.size ≤ maxLen) :
    Calls Tryd.prog 44 #[.pointer (some ⟨g, 0, none⟩)] w (ReadPost T g w) := by
  have hg := h.lt
  have hR : readR T = readR T := rfl
  conv at hR => rhs; unfold readR
  have HA := Lib.hid (AtS.new h)
  clear h
  go_enter Tryd.func44, Tryd.ntmps44
  go_wp2_with fail
  cases h0 : prefB (restB T 0) headT
  · rw [if_pos h0] at hR
    have HR := Lib.hid hR
    refine Calls.mono (sign_throws headT g T 0 _ HA.out.cur_ (Nat.zero_le _) hs h0) ?_
    rintro e w1 ⟨rfl, hm⟩
    exact ⟨rfl, readPost_throws HR.out (HA.out.moved hm hg).but⟩
  rw [if_neg (by rw [h0]; simp)] at hR
  have k5 : 5 ≤ T.size := by
    have := prefB_size h0
    rw [restB_size T 0 (Nat.zero_le _), show headT.size = 5 from rfl] at this
    omega
  refine Calls.mono (sign_gives headT g T 0 _ HA.out.cur_ (Nat.zero_le _) hs h0) ?_
  rintro e w1 ⟨rfl, hm⟩
  have HA1 := Lib.hid (HA.out.moved hm hg)
  clear hm h0 HA
  rw [show 0 + headT.size = 5 from rfl] at HA1
  go_wp2_with fail
  by_cases hl : T.size < 6
  · rw [if_pos hl] at hR
    have HR := Lib.hid hR
    refine Calls.mono (digits_short g T 5 1 _ HA1.out.cur_ k5 hl hs) ?_
    rintro e w1 ⟨rfl, hm⟩
    exact ⟨rfl, readPost_throws HR.out (HA1.out.moved hm hg).but⟩
  rw [if_neg hl] at hR
  have k6 : 6 ≤ T.size := by omega
  cases h0 : digB T 5 1
  · rw [if_pos h0] at hR
    have HR := Lib.hid hR
    refine Calls.mono (digits_bad g T 5 1 _ HA1.out.cur_ k6 (by omega) hs h0) ?_
    rintro e w1 ⟨rfl, hm⟩
    exact ⟨rfl, readPost_throws HR.out (HA1.out.moved hm hg).but⟩
  rw [if_neg (by rw [h0]; simp)] at hR
  refine Calls.mono (digits_gives g T 5 1 _ HA1.out.cur_ k6 (by omega) (by omega) hs h0) ?_
  rintro e w1 ⟨rfl, hm⟩
  have HA1b := Lib.hid (HA1.out.moved hm hg)
  clear hm h0 hl HA1
  obtain ⟨e0, e1, e2, e3, ef⟩ := stat_cells HA1b.out.box1
  go_wp2_with fail
  have HA2 := Lib.hid (HA1b.out.s0 hg (numB T 5 1 : Nat))
  clear HA1b e0 e1 e2 e3 ef
  cases h0 : prefB (restB T 6) dotT
  · rw [if_pos h0] at hR
    have HR := Lib.hid hR
    refine Calls.mono (sign_throws dotT g T 6 _ HA2.out.cur_ k6 hs h0) ?_
    rintro e w1 ⟨rfl, hm⟩
    exact ⟨rfl, readPost_throws HR.out (HA2.out.moved hm hg).but⟩
  rw [if_neg (by rw [h0]; simp)] at hR
  have k7 : 7 ≤ T.size := by
    have := prefB_size h0
    rw [restB_size T 6 k6, show dotT.size = 1 from rfl] at this
    omega
  refine Calls.mono (sign_gives dotT g T 6 _ HA2.out.cur_ k6 hs h0) ?_
  rintro e w1 ⟨rfl, hm⟩
  have HA3 := Lib.hid (HA2.out.moved hm hg)
  clear hm h0 HA2
  rw [show 6 + dotT.size = 7 from rfl] at HA3
  go_wp2_with fail
  by_cases hl : T.size < 8
  · rw [if_pos hl] at hR
    have HR := Lib.hid hR
    refine Calls.mono (digits_short g T 7 1 _ HA3.out.cur_ k7 hl hs) ?_
    rintro e w1 ⟨rfl, hm⟩
    exact ⟨rfl, readPost_throws HR.out (HA3.out.moved hm hg).but⟩
  rw [if_neg hl] at hR
  have k8 : 8 ≤ T.size := by omega
  cases h0 : digB T 7 1
  · rw [if_pos h0] at hR
    have HR := Lib.hid hR
    refine Calls.mono (digits_bad g T 7 1 _ HA3.out.cur_ k8 (by omega) hs h0) ?_
    rintro e w1 ⟨rfl, hm⟩
    exact ⟨rfl, readPost_throws HR.out (HA3.out.moved hm hg).but⟩
  rw [if_neg (by rw [h0]; simp)] at hR
  refine Calls.mono (digits_gives g T 7 1 _ HA3.out.cur_ k8 (by omega) (by omega) hs h0) ?_
  rintro e w1 ⟨rfl, hm⟩
  have HA3b := Lib.hid (HA3.out.moved hm hg)
  clear hm h0 hl HA3
  obtain ⟨e0, e1, e2, e3, ef⟩ := stat_cells HA3b.out.box1
  go_wp2_with fail
  have HA4 := Lib.hid (HA3b.out.s1 hg (numB T 7 1 : Nat))
  clear HA3b e0 e1 e2 e3 ef
  cases h0 : prefB (restB T 8) blankT
  · rw [if_pos h0] at hR
    have HR := Lib.hid hR
    refine Calls.mono (sign_throws blankT g T 8 _ HA4.out.cur_ k8 hs h0) ?_
    rintro e w1 ⟨rfl, hm⟩
    exact ⟨rfl, readPost_throws HR.out (HA4.out.moved hm hg).but⟩
  rw [if_neg (by rw [h0]; simp)] at hR
  have k9 : 9 ≤ T.size := by
    have := prefB_size h0
    rw [restB_size T 8 k8, show blankT.size = 1 from rfl] at this
    omega
  refine Calls.mono (sign_gives blankT g T 8 _ HA4.out.cur_ k8 hs h0) ?_
  rintro e w1 ⟨rfl, hm⟩
  have HA5 := Lib.hid (HA4.out.moved hm hg)
  clear hm h0 HA4
  rw [show 8 + blankT.size = 9 from rfl] at HA5
  go_wp2_with fail
  go_loopw [17] (fun v wr => ∃ k, k ≤ T.size ∧ k + spcN T k = 9 + spcN T 9 ∧ AtS w wr g T k (numB T 5 1 : Nat) (numB T 7 1 : Nat) 0 ⟨#[]⟩) (fun _ wr => T.size - placeN wr g)
  case atStart => exact ⟨9, k9, rfl, HA5.out⟩
  case round =>
    obtain ⟨k, hk, hsp, ha⟩ := hrel
    have HK := Lib.hid ha
    obtain ⟨hp1, hp2⟩ := pref_blank T k hk
    clear ha
    cases h0 : prefB (restB T k) blankT
    · have hz := hp2 h0
      have HS := Lib.hid (Skip_no blankT g T k _ HK.out.cur_ hk hs h0)
      clear hp1 hp2 h0
      rw [hz, Nat.add_zero] at hsp
      go_wp2_with (go_at_call 68; refine Calls.mono HS.out ?_; rintro e w2 ⟨rfl, hm⟩; have HK2 := Lib.hid (HK.out.moved hm hg); clear hm)
      clear HK HS
      generalize hq : 9 + spcN T 9 = q at *
      have hkq := hsp.symm
      subst hkq
      by_cases hl : T.size < q + 3
      · rw [if_pos hl] at hR
        have HR := Lib.hid hR
        refine Calls.mono (digits_short g T q 3 _ HK2.out.cur_ hk hl hs) ?_
        rintro e w1 ⟨rfl, hm⟩
        exact ⟨rfl, readPost_throws HR.out (HK2.out.moved hm hg).but⟩
      rw [if_neg hl] at hR
      have k12 : q + 3 ≤ T.size := by omega
      cases h0 : digB T q 3
      · rw [if_pos h0] at hR
        have HR := Lib.hid hR
        refine Calls.mono (digits_bad g T q 3 _ HK2.out.cur_ k12 (by omega) hs h0) ?_
        rintro e w1 ⟨rfl, hm⟩
        exact ⟨rfl, readPost_throws HR.out (HK2.out.moved hm hg).but⟩
      rw [if_neg (by rw [h0]; simp)] at hR
      refine Calls.mono (digits_gives g T q 3 _ HK2.out.cur_ k12 (by omega) (by omega) hs h0) ?_
      rintro e w1 ⟨rfl, hm⟩
      have HK2b := Lib.hid (HK2.out.moved hm hg)
      clear hm h0 hl HK2
      obtain ⟨e0, e1, e2, e3, ef⟩ := stat_cells HK2b.out.box1
      go_wp2_with fail
      have HA7 := Lib.hid (HK2b.out.s2 hg (numB T q 3 : Nat))
      clear HK2b e0 e1 e2 e3 ef
      have HE := Lib.hid (End_any g T (q + 3) _ HA7.out.cur_ k12 hs)
      by_cases hend : q + 3 = T.size
      · rw [if_pos hend] at hR
        unfold finR at hR
        rw [hq] at hR
        rw [decide_eq_true hend] at HE
        go_upto_region 13 with (go_at_call 69; refine Calls.mono HE.out ?_; rintro e w2 ⟨rfl, hd⟩; have HA8 := Lib.hid (HA7.out.moved (moved_drew HA7.out.cur_ hd) hg); clear hd)
        have hzr : (⟨#[]⟩ : ByteArray).size ≤ maxLen := (by decide)
        obtain ⟨e0, e1, e2, e3, ef⟩ := stat_cells HA8.out.box1
        cases hgd : goodS (numB T 5 1 : Nat) (numB T 7 1 : Nat) (numB T q 3 : Nat) ⟨#[]⟩
        · rw [if_neg (by rw [hgd]; simp)] at hR
          have HR := Lib.hid hR
          have HG := Lib.hid (fun w => goodS_any (numB T 5 1 : Nat) (numB T 7 1 : Nat) (numB T q 3 : Nat) ⟨#[]⟩ w hzr)
          rw [hgd] at HG
          go_wp2_with (first | (go_at_call 36; refine Calls.mono (HG.out _) ?_; rintro e w1 ⟨rfl, hb⟩) | (go_at_call 73; refine (Check_no _ _ _).mono ?_; rintro e w2 ⟨rfl, rfl⟩))
          exact ⟨rfl, readPost_throws HR.out (HA8.out.but.trans (But.of_below hb))⟩
        · rw [if_pos hgd] at hR
          have HR := Lib.hid hR
          have HG := Lib.hid (fun w => goodS_any (numB T 5 1 : Nat) (numB T 7 1 : Nat) (numB T q 3 : Nat) ⟨#[]⟩ w hzr)
          rw [hgd] at HG
          go_upto_region 14 with (first | (go_at_call 36; refine Calls.mono (HG.out _) ?_; rintro e w1 ⟨rfl, hb⟩) | (go_at_call 73; refine (Check_yes _ _ _).mono ?_; rintro e w2 ⟨rfl, rfl⟩))
          have hl0 : w.heap.size < _ := (Array.getElem?_eq_some_iff.1 HA8.out.box0).1
          have hl1 : w.heap.size + 1 < _ := (Array.getElem?_eq_some_iff.1 HA8.out.box1).1
          have B1 := (hb.block _ hl1).trans HA8.out.box1
          have B0 := (hb.block _ hl0).trans HA8.out.box0
          have BT := Lib.hid (HA8.out.but.trans (But.of_below hb))
          clear e0 e1 e2 e3 ef hb hl0 hl1
          obtain ⟨e0, e1, e2, e3, ef⟩ := stat_cells B1
          obtain ⟨z0, z1, z2, z3, zf⟩ := stat_cells B0
          clear B0 B1
          go_wp2_with fail
          refine bodyPost_ret (v := statV (numB T 5 1 : Nat) (numB T 7 1 : Nat) (numB T q 3 : Nat) ⟨#[]⟩) ?_ rfl (readPost_gives HR.out ((((BT.out.setCell (.inr (by simp)) _).setCell (.inr (by simp)) _).setCell (.inr (by simp)) _).setCell (.inr (by simp)) _))
          unfold statV
          simp [results, Tryd.results44, go_sem, z0, z1, z2, z3]
      · rw [if_neg hend] at hR
        rw [decide_eq_false hend] at HE
        go_upto_region 10 with (go_at_call 69; refine Calls.mono HE.out ?_; rintro e w2 ⟨rfl, hd⟩; have HA8 := Lib.hid (HA7.out.moved (moved_drew HA7.out.cur_ hd) hg); clear hd)
        clear HE HA7
        go_wp2_with fail
        cases h0 : prefB (restB T (q + 3)) blankT
        · rw [if_pos h0] at hR
          have HR := Lib.hid hR
          refine Calls.mono (sign_throws blankT g T (q + 3) _ HA8.out.cur_ k12 hs h0) ?_
          rintro e w1 ⟨rfl, hm⟩
          exact ⟨rfl, readPost_throws HR.out (HA8.out.moved hm hg).but⟩
        rw [if_neg (by rw [h0]; simp)] at hR
        have k13 : q + 3 + 1 ≤ T.size := by
          have := prefB_size h0
          rw [restB_size T (q + 3) k12, show blankT.size = 1 from rfl] at this
          omega
        refine Calls.mono (sign_gives blankT g T (q + 3) _ HA8.out.cur_ k12 hs h0) ?_
        rintro e w1 ⟨rfl, hm⟩
        have HA9 := Lib.hid (HA8.out.moved hm hg)
        clear hm h0 HA8
        rw [show (q + 3) + blankT.size = q + 3 + 1 from rfl] at HA9
        go_wp2_with fail
        refine Calls.mono (While_gives 71 isTab fnTabC g T (q + 3 + 1) _ HA9.out.cur_ k13 hs) ?_
        rintro e w1 ⟨rfl, hm⟩
        rw [show spanN isTab (restB T (q + 3 + 1)).data.toList = tabN T (q + 3 + 1) from rfl] at *
        have k14 : q + 3 + 1 + tabN T (q + 3 + 1) ≤ T.size := by
          have := spanN_le isTab (restB T (q + 3 + 1)).data.toList
          rw [← Lib.size_eq, restB_size T _ k13] at this
          unfold tabN
          omega
        have HA10 := Lib.hid (HA9.out.moved hm hg)
        clear hm HA9
        generalize hqq : q + 3 + 1 + tabN T (q + 3 + 1) = q2 at *
        go_wp2_with fail
        refine Calls.mono (Rest_gives g T q2 _ HA10.out.cur_ k14 hs) ?_
        rintro e w1 ⟨rfl, hm⟩
        have HA11 := Lib.hid (HA10.out.moved hm hg)
        clear hm HA10
        obtain ⟨e0, e1, e2, e3, ef⟩ := stat_cells HA11.out.box1
        go_upto_region 13 with fail
        have HA12 := Lib.hid (HA11.out.s3 hg (restB T q2))
        clear HA11 e0 e1 e2 e3 ef
        have hrz : (restB T q2).size ≤ maxLen := by rw [restB_size T q2 k14]; omega
        unfold finR at hR
        rw [hq] at hR
        generalize restB T q2 = R at *
        have hzr : (R : ByteArray).size ≤ maxLen := hrz
        obtain ⟨e0, e1, e2, e3, ef⟩ := stat_cells HA12.out.box1
        cases hgd : goodS (numB T 5 1 : Nat) (numB T 7 1 : Nat) (numB T q 3 : Nat) R
        · rw [if_neg (by rw [hgd]; simp)] at hR
          have HR := Lib.hid hR
          have HG := Lib.hid (fun w => goodS_any (numB T 5 1 : Nat) (numB T 7 1 : Nat) (numB T q 3 : Nat) R w hzr)
          rw [hgd] at HG
          go_wp2_with (first | (go_at_call 36; refine Calls.mono (HG.out _) ?_; rintro e w1 ⟨rfl, hb⟩) | (go_at_call 73; refine (Check_no _ _ _).mono ?_; rintro e w2 ⟨rfl, rfl⟩))
          exact ⟨rfl, readPost_throws HR.out (HA12.out.but.trans (But.of_below hb))⟩
        · rw [if_pos hgd] at hR
          have HR := Lib.hid hR
          have HG := Lib.hid (fun w => goodS_any (numB T 5 1 : Nat) (numB T 7 1 : Nat) (numB T q 3 : Nat) R w hzr)
          rw [hgd] at HG
          go_upto_region 14 with (first | (go_at_call 36; refine Calls.mono (HG.out _) ?_; rintro e w1 ⟨rfl, hb⟩) | (go_at_call 73; refine (Check_yes _ _ _).mono ?_; rintro e w2 ⟨rfl, rfl⟩))
          have hl0 : w.heap.size < _ := (Array.getElem?_eq_some_iff.1 HA12.out.box0).1
          have hl1 : w.heap.size + 1 < _ := (Array.getElem?_eq_some_iff.1 HA12.out.box1).1
          have B1 := (hb.block _ hl1).trans HA12.out.box1
          have B0 := (hb.block _ hl0).trans HA12.out.box0
          have BT := Lib.hid (HA12.out.but.trans (But.of_below hb))
          clear e0 e1 e2 e3 ef hb hl0 hl1
          obtain ⟨e0, e1, e2, e3, ef⟩ := stat_cells B1
          obtain ⟨z0, z1, z2, z3, zf⟩ := stat_cells B0
          clear B0 B1
          go_wp2_with fail
          refine bodyPost_ret (v := statV (numB T 5 1 : Nat) (numB T 7 1 : Nat) (numB T q 3 : Nat) R) ?_ rfl (readPost_gives HR.out ((((BT.out.setCell (.inr (by simp)) _).setCell (.inr (by simp)) _).setCell (.inr (by simp)) _).setCell (.inr (by simp)) _))
          unfold statV
          simp [results, Tryd.results44, go_sem, z0, z1, z2, z3]
    · obtain ⟨hk1, hk2⟩ := hp1 h0
      have HS := Lib.hid (Skip_yes blankT g T k _ HK.out.cur_ hk hs h0)
      have HPL := Lib.hid (place_at HK.out.cur_)
      clear hp1 hp2 h0
      go_wp2_with (go_at_call 68; refine Calls.mono HS.out ?_; rintro e w2 ⟨rfl, hm⟩; have HK2 := Lib.hid (HK.out.moved hm hg); clear hm)
      go_roundw
      case rel => exact ⟨k + 1, hk1, by omega, HK2.out⟩
      case measure => rw [HPL.out, place_at HK2.out.cur_, show blankT.size = 1 from rfl]; omega

end Go.Proofs.YtjlemghmpnkncaaDoor
