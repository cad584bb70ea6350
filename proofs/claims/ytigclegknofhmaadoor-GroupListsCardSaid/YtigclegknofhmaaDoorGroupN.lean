/-
  The words of all groups that a type is in: package group's list, the reference's list, and that they are one. (Printed by wip/tools/gengn.py.)
-/
import Derived.Test.YtigclegknofhmaaDoorGroupP
import Derived.Test.YtigclegknofhmaaDoorQuietTail
import Derived.RangeFuncBox
namespace Go.Proofs.YtigclegknofhmaaDoor
open Go.RowKit
set_option linter.unusedSimpArgs false
set_option linter.unusedVariables false

/-- A word more, if it is so. -/
def addB (l : List ByteArray) (n : ByteArray) (b : Bool) : List ByteArray := if b then l ++ [n] else l

theorem addB_len (l : List ByteArray) (n : ByteArray) (b : Bool) : (addB l n b).length ≤ l.length + 1 := by
  unfold addB; split <;> simp

/-- A variable's box holds a slice of its own with these texts. -/
def RowB (W : World) (R : Nat) (l : List ByteArray) : Prop := ∃ v, Boxed W R 34 v ∧ W.ownsRow R 9 1 v l.length (rowS l)

theorem row_below {w w' : World} {base : Nat} {e : TypeId} {z n : Nat} {r : Value} {xs : List Value} (h : w.ownsRow base e z r n xs) (hb : Below w.heap.size w w') : w'.ownsRow base e z r n xs :=
  row_stands h fun k _ hk => hb.block k hk

theorem RowB.below {W W' : World} {R : Nat} {l : List ByteArray} (h : RowB W R l) (hb : Below W.heap.size W W') : RowB W' R l := by
  obtain ⟨v, h1, h2⟩ := h
  exact ⟨v, (hb.block R h1.lt).trans h1, row_below h2 hb⟩

theorem cells_str (W : World) (x : ByteArray) (e : TypeId) : ∀ j u, ([Value.string x] : List Value)[j]? = some u → (W.alloc (.cells #[.string x] e)).cell? ((⟨W.heap.size, 0, none⟩ : Addr).add j) = some u := by
  intro j u hj
  rw [Addr.add_lit, Nat.zero_add, cell_of_row _ _ _ _ _ (0, 0) (heap_alloc_new W _)]
  simpa using hj

set_option maxRecDepth 20000 in
set_option maxHeartbeats 2000000 in
theorem add_any (name : ByteArray) (so : Bool) (l : List ByteArray) (R : Nat) (w : World) (h : RowB w R l) (hl : l.length ≤ 100) :
    Calls Tryd.prog 52 #[.string name, .bool so, .pointer (some ⟨R, 0, none⟩)] w fun e w' => e = .returned (.tuple #[]) ∧ RowB w' R (addB l name so) ∧ Below R w w' := by
  obtain ⟨i0, hi, hz0, hz1, hz2⟩ := info_parts infoStrT
  have HI := Lib.hid hi; have HZ0 := Lib.hid hz0; have HZ1 := Lib.hid hz1; have HZ2 := Lib.hid hz2
  clear hi hz0 hz1 hz2
  obtain ⟨v, h1, h2⟩ := h
  have cL := h1.cell
  have fL := h1.frozen
  have HL := Lib.hid h1
  have HR := Lib.hid h2
  have hlt := h1.lt
  have k0 := Lib.hid (h2.alloc (.cells #[.string name] 9))
  have k1 := Lib.hid (cells_str w name 9)
  have k2 : Hid (∀ u ∈ ([Value.string name] : List Value), u.oneCell' = true) := Lib.hid (by intro u hu; simp at hu; subst hu; rfl)
  have k3 : Hid (l.length + 1 ≤ maxLen) := Lib.hid (by unfold maxLen; omega)
  have k4 : Hid ((l.length + 1) * 16 ≤ 140737488355328) := Lib.hid (by omega)
  have k5 : Hid (R ≤ (w.alloc (.cells #[.string name] 9)).heap.size) := Lib.hid (by simp; omega)
  have k6 : Hid (R ≤ w.heap.size) := Lib.hid (by omega)
  clear h1 h2 hlt
  go_enter Tryd.func52, Tryd.ntmps52
  cases so
  · go_wp2_with fail
    go_end0
    exact ⟨rfl, ⟨v, HL.out, HR.out⟩, Below.refl _ _⟩
  · go_wp2_with (at_builtin; refine wpList_append_own _ rfl (.tmp 6) (.tmp 8) 34 rfl R 9 i0 (.string ByteArray.empty) 1 16 Tryd.underlying34 HI.out HZ0.out HZ1.out HZ2.out rfl (by decide) _ _ _ rfl k0.out ⟨w.heap.size, 0, none⟩ 1 1 [.string name] rfl rfl k1.out k2.out k3.out k4.out k5.out ?_; intro v2 w1 hown2 hgrow _; obtain ⟨g2, cap2, rfl⟩ := ownsRow_succ hown2; obtain ⟨hv1, hv2, hr2, hk2, hb2⟩ := HL.out.appended (by decide) HR.out k6.out (Nat.le_refl _) hown2 hgrow; have hc1 := hv1.cell; have hf1 := hv1.frozen)
    go_end0
    refine ⟨rfl, ⟨_, hv2, ?_⟩, hb2⟩
    unfold addB
    rw [if_pos rfl, rowS_snoc, List.length_append]
    exact hr2

def namesB (t u : ByteArray) : List ByteArray := addB (addB (addB (addB (addB (addB (addB (addB (addB (addB (addB (addB (addB ([]) ⟨#[106, 115, 111, 110]⟩ (jsonB t u)) ⟨#[120, 109, 108]⟩ (xmlB t u)) ⟨#[104, 116, 109, 108]⟩ (htmlB t u)) ⟨#[115, 99, 114, 105, 112, 116]⟩ (scriptB t u)) ⟨#[105, 109, 97, 103, 101]⟩ (imageB t u)) ⟨#[109, 101, 100, 105, 97]⟩ (mediaB t u)) ⟨#[102, 111, 110, 116]⟩ (fontB t u)) ⟨#[122, 105, 112]⟩ (zipB t u)) ⟨#[97, 114, 99, 104, 105, 118, 101]⟩ (archiveB t u)) ⟨#[115, 99, 114, 105, 112, 116, 97, 98, 108, 101]⟩ (scriptableB t u)) ⟨#[115, 97, 102, 101]⟩ (safeB t u)) ⟨#[110, 101, 118, 101, 114]⟩ (neverB t u)) ⟨#[108, 105, 115, 116, 101, 100]⟩ (listedB t u)

def rNamesB (t u : ByteArray) : List ByteArray := addB (addB (addB (addB (addB (addB (addB (addB (addB (addB (addB (addB (addB ([]) ⟨#[106, 115, 111, 110]⟩ (rJsonB t u)) ⟨#[120, 109, 108]⟩ (rXmlB t u)) ⟨#[104, 116, 109, 108]⟩ (rHtmlB t u)) ⟨#[115, 99, 114, 105, 112, 116]⟩ (rScriptB t u)) ⟨#[105, 109, 97, 103, 101]⟩ (imageB t u)) ⟨#[109, 101, 100, 105, 97]⟩ (rMediaB t u)) ⟨#[102, 111, 110, 116]⟩ (rFontB t u)) ⟨#[122, 105, 112]⟩ (rZipB t u)) ⟨#[97, 114, 99, 104, 105, 118, 101]⟩ (rArchiveB t u)) ⟨#[115, 99, 114, 105, 112, 116, 97, 98, 108, 101]⟩ (rScriptableB t u)) ⟨#[115, 97, 102, 101]⟩ (rSafeB t u)) ⟨#[110, 101, 118, 101, 114]⟩ (rNeverB t u)) ⟨#[108, 105, 115, 116, 101, 100]⟩ (rListedB t u)

theorem names_eq (t u : ByteArray) : namesB t u = rNamesB t u := by
  unfold namesB rNamesB
  rw [json_eq, xml_eq, html_eq, script_eq, media_eq, font_eq, zip_eq, archive_eq, scriptable_eq, safe_eq, never_eq, listed_eq]

theorem strs_of_row {w : World} {R : Nat} {l : List ByteArray} (h : RowB w R l) : ∃ A c, Boxed w R 34 (.slice A l.length c) ∧ StrsIn w A l := by
  obtain ⟨v, h1, h2⟩ := h
  obtain ⟨A, c, rfl, h3⟩ := strs_of_own h2 rfl
  exact ⟨A, c, h1, h3⟩

/-- The row, with a bound of its length. -/
def RowN (W : World) (R : Nat) (l : List ByteArray) (n : Nat) : Prop := RowB W R l ∧ l.length ≤ n

theorem RowN.below {W W' : World} {R n : Nat} {l : List ByteArray} (h : RowN W R l n) (hb : Below W.heap.size W W') : RowN W' R l n := ⟨h.1.below hb, h.2⟩

theorem add_at (W0 : World) (R : Nat) (hR : R = W0.heap.size) (name : ByteArray) (so : Bool) (l : List ByteArray) (n : Nat) (cur : World) (hb : Below W0.heap.size W0 cur) (h : RowN cur R l n) (hn : n ≤ 99) :
    Calls Tryd.prog 52 #[.string name, .bool so, .pointer (some ⟨R, 0, none⟩)] cur fun e w' => e = .returned (.tuple #[]) ∧ RowN w' R (addB l name so) (n + 1) ∧ Below W0.heap.size W0 w' := by
  subst hR
  refine (add_any name so l _ cur h.1 (by have := h.2; omega)).mono ?_
  rintro e w' ⟨he, h1, h2⟩
  exact ⟨he, ⟨h1, by have := addB_len l name so; have := h.2; omega⟩, hb.trans h2⟩

set_option maxHeartbeats 20000000 in
set_option maxRecDepth 20000 in
theorem Names_any (t u : ByteArray) (A : Option Addr) (n c : Nat) (w : World) (hT : Tab w) (ht : t.size ≤ 1000) (hu : u.size ≤ 1000) :
    Calls Tryd.prog 39 #[.agg #[.string t, .string u, .slice A n c]] w (GivesStrs (namesB t u) w) := by
  have hmf : ∀ (fn : Fn) (first cap : Array Value) (w : World), (Instr.makeFunc fn first cap).run Tryd.prog w = .ok (.func fn first cap) w := fun _ _ _ _ => rfl
  have hcf : ∀ (args : Array Value) (w : World), (callFunc 52 args).run Tryd.prog w = .ok (.enter 52 args) w := fun args w => MuLone.run_callFunc_enter Tryd.func52 (by kernel_rfl) rfl args w
  have J0 := Lib.hid (Json_says.at (t := t) (u := u) hT ht hu A n c (below_box w (.cells #[.string t, .string u, .slice A n c] 24)))
  have J1 := Lib.hid (Xml_says.at (t := t) (u := u) hT ht hu A n c (below_box w (.cells #[.string t, .string u, .slice A n c] 24)))
  have J2 := Lib.hid (Html_says.at (t := t) (u := u) hT ht hu A n c (below_box w (.cells #[.string t, .string u, .slice A n c] 24)))
  have J3 := Lib.hid (Script_says.at (t := t) (u := u) hT ht hu A n c (below_box w (.cells #[.string t, .string u, .slice A n c] 24)))
  have J4 := Lib.hid (Image_says.at (t := t) (u := u) hT ht hu A n c (below_box w (.cells #[.string t, .string u, .slice A n c] 24)))
  have J5 := Lib.hid (Media_says.at (t := t) (u := u) hT ht hu A n c (below_box w (.cells #[.string t, .string u, .slice A n c] 24)))
  have J6 := Lib.hid (Font_says.at (t := t) (u := u) hT ht hu A n c (below_box w (.cells #[.string t, .string u, .slice A n c] 24)))
  have J7 := Lib.hid (Zip_says.at (t := t) (u := u) hT ht hu A n c (below_box w (.cells #[.string t, .string u, .slice A n c] 24)))
  have J8 := Lib.hid (Archive_says.at (t := t) (u := u) hT ht hu A n c (below_box w (.cells #[.string t, .string u, .slice A n c] 24)))
  have J9 := Lib.hid (Scriptable_says.at (t := t) (u := u) hT ht hu A n c (below_box w (.cells #[.string t, .string u, .slice A n c] 24)))
  have J10 := Lib.hid (Safe_says.at (t := t) (u := u) hT ht hu A n c (below_box w (.cells #[.string t, .string u, .slice A n c] 24)))
  have J11 := Lib.hid (Never_says.at (t := t) (u := u) hT ht hu A n c (below_box w (.cells #[.string t, .string u, .slice A n c] 24)))
  have J12 := Lib.hid (Listed_says.at (t := t) (u := u) hT ht hu A n c (below_box w (.cells #[.string t, .string u, .slice A n c] 24)))
  unfold namesB
  generalize jsonB t u = b0 at *
  generalize xmlB t u = b1 at *
  generalize htmlB t u = b2 at *
  generalize scriptB t u = b3 at *
  generalize imageB t u = b4 at *
  generalize mediaB t u = b5 at *
  generalize fontB t u = b6 at *
  generalize zipB t u = b7 at *
  generalize archiveB t u = b8 at *
  generalize scriptableB t u = b9 at *
  generalize safeB t u = b10 at *
  generalize neverB t u = b11 at *
  generalize listedB t u = b12 at *
  clear hT ht hu
  have HADD := Lib.hid (add_at (w.alloc (.cells #[.string t, .string u, .slice A n c] 24)) (w.heap.size + 1) (by simp))
  have hb : Below (w.alloc (.cells #[.string t, .string u, .slice A n c] 24)).heap.size (w.alloc (.cells #[.string t, .string u, .slice A n c] 24)) ((w.alloc (.cells #[.string t, .string u, .slice A n c] 24)).alloc (.cells #[.slice none 0 0] 34)) := below_box _ _
  have hrow : RowN ((w.alloc (.cells #[.string t, .string u, .slice A n c] 24)).alloc (.cells #[.slice none 0 0] 34)) (w.heap.size + 1) [] 0 := ⟨⟨.slice none 0 0, by have := Boxed.new (w.alloc (.cells #[.string t, .string u, .slice A n c] 24)) 34 (.slice none 0 0); simpa using this, World.ownsRow_nil _ _ _ _⟩, Nat.le_refl _⟩
  go_enter Tryd.func39, Tryd.ntmps39
  go_upto_region 3 with fail
  obtain ⟨d0, d1, d2⟩ := box_on hb
  go_upto_region 16 with (first | (go_at_call 52; (refine Calls.mono (HADD.out _ _ _ _ _ hb hrow (by decide)) ?_); rintro e w' ⟨rfl, hrow2, hb2⟩; replace hb := hb2; replace hrow := hrow2; clear hrow2 hb2; obtain ⟨d0, d1, d2⟩ := box_on hb) | (go_at_call 8; (with_reducible refine Calls.mono (J0.out _ hb) ?_); rintro e w' ⟨rfl, hb2⟩; replace hb := below_trans hb hb2; replace hrow := RowN.below hrow hb2; clear hb2; obtain ⟨d0, d1, d2⟩ := box_on hb) | (go_at_call 10; (with_reducible refine Calls.mono (J1.out _ hb) ?_); rintro e w' ⟨rfl, hb2⟩; replace hb := below_trans hb hb2; replace hrow := RowN.below hrow hb2; clear hb2; obtain ⟨d0, d1, d2⟩ := box_on hb) | (go_at_call 12; (with_reducible refine Calls.mono (J2.out _ hb) ?_); rintro e w' ⟨rfl, hb2⟩; replace hb := below_trans hb hb2; replace hrow := RowN.below hrow hb2; clear hb2; obtain ⟨d0, d1, d2⟩ := box_on hb) | (go_at_call 14; (with_reducible refine Calls.mono (J3.out _ hb) ?_); rintro e w' ⟨rfl, hb2⟩; replace hb := below_trans hb hb2; replace hrow := RowN.below hrow hb2; clear hb2; obtain ⟨d0, d1, d2⟩ := box_on hb) | (go_at_call 19; (with_reducible refine Calls.mono (J4.out _ hb) ?_); rintro e w' ⟨rfl, hb2⟩; replace hb := below_trans hb hb2; replace hrow := RowN.below hrow hb2; clear hb2; obtain ⟨d0, d1, d2⟩ := box_on hb) | (go_at_call 20; (with_reducible refine Calls.mono (J5.out _ hb) ?_); rintro e w' ⟨rfl, hb2⟩; replace hb := below_trans hb hb2; replace hrow := RowN.below hrow hb2; clear hb2; obtain ⟨d0, d1, d2⟩ := box_on hb) | (go_at_call 22; (with_reducible refine Calls.mono (J6.out _ hb) ?_); rintro e w' ⟨rfl, hb2⟩; replace hb := below_trans hb hb2; replace hrow := RowN.below hrow hb2; clear hb2; obtain ⟨d0, d1, d2⟩ := box_on hb) | (go_at_call 24; (with_reducible refine Calls.mono (J7.out _ hb) ?_); rintro e w' ⟨rfl, hb2⟩; replace hb := below_trans hb hb2; replace hrow := RowN.below hrow hb2; clear hb2; obtain ⟨d0, d1, d2⟩ := box_on hb) | (go_at_call 26; (with_reducible refine Calls.mono (J8.out _ hb) ?_); rintro e w' ⟨rfl, hb2⟩; replace hb := below_trans hb hb2; replace hrow := RowN.below hrow hb2; clear hb2; obtain ⟨d0, d1, d2⟩ := box_on hb) | (go_at_call 16; (with_reducible refine Calls.mono (J9.out _ hb) ?_); rintro e w' ⟨rfl, hb2⟩; replace hb := below_trans hb hb2; replace hrow := RowN.below hrow hb2; clear hb2; obtain ⟨d0, d1, d2⟩ := box_on hb) | (go_at_call 32; (with_reducible refine Calls.mono (J10.out _ hb) ?_); rintro e w' ⟨rfl, hb2⟩; replace hb := below_trans hb hb2; replace hrow := RowN.below hrow hb2; clear hb2; obtain ⟨d0, d1, d2⟩ := box_on hb) | (go_at_call 35; (with_reducible refine Calls.mono (J11.out _ hb) ?_); rintro e w' ⟨rfl, hb2⟩; replace hb := below_trans hb hb2; replace hrow := RowN.below hrow hb2; clear hb2; obtain ⟨d0, d1, d2⟩ := box_on hb) | (go_at_call 33; (with_reducible refine Calls.mono (J12.out _ hb) ?_); rintro e w' ⟨rfl, hb2⟩; replace hb := below_trans hb hb2; replace hrow := RowN.below hrow hb2; clear hb2; obtain ⟨d0, d1, d2⟩ := box_on hb))
  obtain ⟨A2, c2, hbx, hst⟩ := strs_of_row hrow.1
  have hcx := hbx.cell
  have HB := Lib.hid hb
  have HS := Lib.hid hst
  clear hb hst hrow hbx d0 d1 d2
  go_wp2_with fail
  go_ret
  exact ⟨A2, c2, rfl, HS.out, (below_box w _).trans (HB.out.mono (by simp))⟩

end Go.Proofs.YtigclegknofhmaaDoor
