/-
  Walks of package partial: what is learnt, and known; a request, somewhat cut.
-/
import Derived.Test.YtjlemghmpnkncaaValidB
import Derived.Test.YtjlemghmpnkncaaClassB
namespace Go.Proofs.Ytjlemghmpnkncaa
open Go.RowKit
set_option linter.unusedSimpArgs false
set_option linter.unusedVariables false

def askV (u : ByteArray) (x y : Bool) (md : Int) : Value := .agg #[.string u, .bool x, .bool y, .int .i64 md]

def judV (vd : Int) (rs : ByteArray) (at_ : Int) (media : Bool) : Value := .agg #[.int .i64 vd, .string rs, .int .i64 at_, .bool media]

set_option maxRecDepth 20000 in
theorem Ask_any (u : ByteArray) (x y : Bool) (md : Int) (w : World) (hu : u.size ≤ maxLen) :
    Calls Try.prog 8 #[askV u x y md] w fun e w' => e = .returned (askV (cutB u 80) x y md) ∧ Below w.heap.size w w' := by
  have HC : Hid (∀ w, Calls Try.prog 14 #[.string u, .int .i64 80] w fun e w' => e = .returned (.string (cutB u 80)) ∧ w = w') := Lib.hid (fun w => Cut_any u 80 w hu (by decide))
  generalize cutB u 80 = u2 at *
  have hb1 : Below w.heap.size w ((w.alloc (.cells #[.string u, .bool x, .bool y, .int .i64 md] 23)).alloc (.cells #[.string ⟨#[]⟩, .bool false, .bool false, .int .i64 0] 23)) := (below_box w _).alloc (by simp) _
  have HB1 := Lib.hid hb1
  clear hb1
  unfold askV
  go_enter Try.func8, Try.ntmps8
  go_wp2_with (go_at_call 14; (with_reducible refine (HC.out _).mono ?_); rintro e w' ⟨rfl, rfl⟩)
  refine bodyPost_ret (v := .agg #[.string u2, .bool x, .bool y, .int .i64 md]) ?_ rfl ⟨rfl, ?_⟩
  · simp [results, Try.results8, go_sem]
  · exact (below_box _ _).alloc (by simp) _

theorem SetAt.below {w w' : World} {g r : Nat} {k : Option ByteArray} {clk : Nat} {nx mo go : Int} (h : SetAt w g r k clk nx mo go) (hb : Below w.heap.size w w') : SetAt w' g r k clk nx mo go :=
  ⟨(hb.block g (Array.getElem?_eq_some_iff.1 h.cells).1).trans h.cells, (hb.block r (Array.getElem?_eq_some_iff.1 h.map).1).trans h.map⟩

set_option maxRecDepth 20000 in
theorem Known_set (g r : Nat) (k : Option ByteArray) (clk : Nat) (nx mo go : Int) (u : ByteArray) (x y : Bool) (md : Int) (w : World) (h : SetAt w g r k clk nx mo go) :
    Calls Try.prog 10 #[.pointer (some ⟨g, 0, none⟩), askV u x y md] w fun e w' => e = .returned (.bool (md == 2 && isKey k u)) ∧ Below w.heap.size w w' := by
  have HH := Lib.hid (fun (w1 : World) (hb : Below w.heap.size w w1) => Has_set g r k clk nx mo go u w1 (h.below hb))
  generalize isKey k u = b at *
  unfold askV
  by_cases hmd : md = 2
  · subst hmd
    go_enter Try.func10, Try.ntmps10
    go_wp2_with (go_at_call 12; (with_reducible refine (HH.out _ (below_box w _)).mono ?_); rintro e w' ⟨rfl, rfl⟩)
    go_ret
    exact ⟨rfl, below_box _ _⟩
  · have hm2 : (md == 2) = false := beq_eq_false_iff_ne.2 hmd
    have HM := Lib.hid hm2
    go_enter Try.func10, Try.ntmps10
    go_wp2_with fail
    go_ret
    exact ⟨by rw [HM.out]; rfl, below_box _ _⟩

set_option maxRecDepth 20000 in
theorem Known_nil (u : ByteArray) (x y : Bool) (md : Int) (w : World) :
    Calls Try.prog 10 #[.pointer none, askV u x y md] w fun e w' => e = .returned (.bool false) ∧ Below w.heap.size w w' := by
  have HH := Lib.hid (fun (w1 : World) => Has_nil u w1)
  unfold askV
  by_cases hmd : md = 2
  · subst hmd
    go_enter Try.func10, Try.ntmps10
    go_wp2_with (go_at_call 12; (with_reducible refine (HH.out _).mono ?_); rintro e w' ⟨rfl, rfl⟩)
    go_ret
    exact ⟨rfl, below_box _ _⟩
  · have hm2 : (md == 2) = false := beq_eq_false_iff_ne.2 hmd
    go_enter Try.func10, Try.ntmps10
    go_wp2_with fail
    go_ret
    exact ⟨rfl, below_box _ _⟩

set_option maxRecDepth 20000 in
theorem Add_empty (g r : Nat) (k : Option ByteArray) (clk : Nat) (nx mo go : Int) (w : World) (h : SetAt w g r k clk nx mo go) :
    Calls Try.prog 31 #[.pointer (some ⟨g, 0, none⟩), .string ⟨#[]⟩] w fun e w' => e = .returned (.tuple #[.string ⟨#[]⟩, .bool false]) ∧ w = w' := by
  have hnn := fun w => ne_nil_set g w
  go_enter Try.func31, Try.ntmps31
  go_wp2_with fail
  go_ret2
  exact ⟨rfl, rfl⟩

def learnsQ (u : ByteArray) (md vd : Int) (media : Bool) : Bool := vd == 1 && media && !(md == 0) && !u.toList.isEmpty

theorem OnlyGR.of_below {g r : Nat} {w w' : World} (h : Below w.heap.size w w') : OnlyGR g r w w' := ⟨h.os, h.tape, h.output, h.size, fun q hq _ _ => h.block q hq⟩

theorem OnlyGR.trans {g r : Nat} {a b c : World} (h : OnlyGR g r a b) (k : OnlyGR g r b c) : OnlyGR g r a c :=
  ⟨k.os.trans h.os, k.tape.trans h.tape, k.output.trans h.output, Nat.le_trans h.size k.size, fun q hq h1 h2 => (k.block q (Nat.lt_of_lt_of_le hq h.size) h1 h2).trans (h.block q hq h1 h2)⟩

def addS (m : Nat) (l : Bool) (u : ByteArray) : ByteArray := if l && decide (m = 0) then u else ⟨#[]⟩
def addB (m : Nat) (l : Bool) : Bool := l && decide (m = 0)
def addK (m : Nat) (l : Bool) (u : ByteArray) : Option ByteArray := if l && !decide (m = 0) then some u else none

theorem Add_yes (g r m : Nat) (s : ByteArray) (w : World) (h : SetAt w g r none 0 0 m 0) (hgr : g ≠ r) (hm : m ≤ 3) (hs : s ≠ ⟨#[]⟩) :
    Calls Try.prog 31 #[.pointer (some ⟨g, 0, none⟩), .string s] w fun e w' => e = .returned (.tuple #[.string (addS m true s), .bool (addB m true)]) ∧ (∃ nx go, SetAt w' g r (addK m true s) 1 nx m go) ∧ OnlyGR g r w w' := by
  refine (Add_set g r m s w h hgr hm hs).mono ?_
  rintro e w' ⟨h1, ⟨nx, go, h2⟩, h3⟩
  refine ⟨?_, ⟨nx, go, ?_⟩, h3⟩
  · rw [h1]; unfold addS addB; simp
  · unfold addK
    by_cases h0 : m = 0 <;> simp [h0] at h2 ⊢ <;> exact h2

set_option maxRecDepth 20000 in
theorem Learn_set (g r m : Nat) (u : ByteArray) (x y : Bool) (md vd : Int) (rs : ByteArray) (at_ : Int) (media : Bool) (w : World) (h : SetAt w g r none 0 0 m 0) (hgr : g ≠ r) (hm : m ≤ 3) :
    Calls Try.prog 11 #[.pointer (some ⟨g, 0, none⟩), askV u x y md, judV vd rs at_ media] w fun e w' =>
      e = .returned (.tuple #[.string (addS m (learnsQ u md vd media) u), .bool (addB m (learnsQ u md vd media))]) ∧
      (∃ clk nx go, SetAt w' g r (addK m (learnsQ u md vd media) u) clk nx m go) ∧ OnlyGR g r w w' := by
  have hb : Below w.heap.size w ((w.alloc (.cells #[.string u, .bool x, .bool y, .int .i64 md] 23)).alloc (.cells #[.int .i64 vd, .string rs, .int .i64 at_, .bool media] 25)) := (below_box w _).alloc (by simp) _
  have HB := Lib.hid hb
  have HS2 := Lib.hid (h.below hb)
  clear hb
  unfold askV judV
  by_cases hl : vd = 1 ∧ media = true ∧ md ≠ 0
  · obtain ⟨rfl, rfl, hmd⟩ := hl
    have hm0 : (md == 0) = false := beq_eq_false_iff_ne.2 hmd
    by_cases hu : u = ⟨#[]⟩
    · subst hu
      have hlq : learnsQ ⟨#[]⟩ md 1 true = false := by unfold learnsQ; rw [Lib.toList_data]; simp
      have HLQ := Lib.hid hlq
      have HA := Lib.hid (Add_empty g r none 0 0 m 0 _ HS2.out)
      clear hlq
      go_enter Try.func11, Try.ntmps11
      go_wp2_with (go_at_call 31; (with_reducible refine HA.out.mono ?_); rintro e w' ⟨rfl, rfl⟩)
      go_ret2
      exact ⟨by rw [HLQ.out]; rfl, ⟨0, 0, 0, by rw [HLQ.out]; exact HS2.out⟩, OnlyGR.of_below HB.out⟩
    · have hne : u.toList.isEmpty = false := by
        rw [Lib.toList_data]
        cases hx : u.data.toList with
        | nil =>
          exfalso; apply hu
          apply ByteArray.ext; apply Array.ext'; rw [hx]
        | cons a b => rfl
      have hlq : learnsQ u md 1 true = true := by unfold learnsQ; rw [hne, hm0]; rfl
      have HLQ := Lib.hid hlq
      have HA := Lib.hid (Add_yes g r m u _ HS2.out hgr hm hu)
      clear hlq hne
      go_enter Try.func11, Try.ntmps11
      go_wp2_with fail
      refine HA.out.mono ?_
      rintro e w2 ⟨rfl, ⟨nx, go, hs2⟩, ho2⟩
      have HS3 := Lib.hid hs2
      have HO3 := Lib.hid ((OnlyGR.of_below HB.out).trans ho2)
      clear hs2 ho2
      go_wp2_with fail
      go_ret2
      exact ⟨by rw [HLQ.out]; rfl, ⟨1, nx, go, by rw [HLQ.out]; exact HS3.out⟩, HO3.out⟩
  · have hlq : learnsQ u md vd media = false := by
      unfold learnsQ
      by_cases h1 : vd = 1
      · subst h1
        cases media
        · rfl
        · have : md = 0 := by
            by_cases h3 : md = 0
            · exact h3
            · exact absurd ⟨rfl, rfl, h3⟩ hl
          subst this
          rfl
      · rw [beq_eq_false_iff_ne.2 h1]; rfl
    have HLQ := Lib.hid hlq
    clear hlq
    go_enter Try.func11, Try.ntmps11
    go_upto_region 1 with fail
    go_cut [20] (fun v wx => v = .bool true ∧ ((w.alloc (.cells #[.string u, .bool x, .bool y, .int .i64 md] 23)).alloc (.cells #[.int .i64 vd, .string rs, .int .i64 at_, .bool media] 25)) = wx)
    case first =>
      by_cases h1 : vd = 1
      · subst h1
        cases media
        · go_wp2_with fail
          go_meet
          exact ⟨rfl, rfl⟩
        · have h3 : md = 0 := by
            by_cases h3 : md = 0
            · exact h3
            · exact absurd ⟨rfl, rfl, h3⟩ hl
          subst h3
          go_wp2_with fail
          go_meet
          exact ⟨rfl, rfl⟩
      · have h2 : (vd == 1) = false := beq_eq_false_iff_ne.2 h1
        go_wp2_with fail
        go_meet
        exact ⟨rfl, rfl⟩
    obtain ⟨rfl, rfl⟩ := hcut
    go_wp2_with fail
    go_ret2
    exact ⟨by rw [HLQ.out]; rfl, ⟨0, 0, 0, by rw [HLQ.out]; exact HS2.out⟩, OnlyGR.of_below HB.out⟩

end Go.Proofs.Ytjlemghmpnkncaa
