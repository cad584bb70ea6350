/-
  The words of all groups that a type is in: the reference's list. (Printed by wip/tools/gennr.py.)
-/
import Derived.Test.YtigclegknofhmaaDoorGroupN
namespace Go.Proofs.YtigclegknofhmaaDoor
open Go.RowKit
set_option linter.unusedSimpArgs false
set_option linter.unusedVariables false

/-- The words of which it is so, among the first k. -/
def pickTo (ws : List ByteArray) (bs : List Bool) (k : Nat) : List ByteArray := ((ws.zip bs).take k).foldl (fun l p => addB l p.1 p.2) []

theorem pickTo_succ (ws : List ByteArray) (bs : List Bool) (k : Nat) (h1 : k < ws.length) (h2 : k < bs.length) : pickTo ws bs (k + 1) = addB (pickTo ws bs k) ws[k] bs[k] := by
  unfold pickTo
  rw [List.take_succ_eq_append_getElem (by simp; omega), List.foldl_append, List.getElem_zip]
  rfl

theorem pickTo_getD (ws : List ByteArray) (bs : List Bool) (k : Nat) (h1 : k < ws.length) (h2 : k < bs.length) : pickTo ws bs (k + 1) = addB (pickTo ws bs k) (ws.getD k ByteArray.empty) (bs.getD k false) := by
  rw [pickTo_succ ws bs k h1 h2]
  simp [List.getD, h1, h2]

theorem map_at {α : Type} (f : α → Value) (l : List α) (d : α) (k : Nat) (h : k < l.length) : (l.map f).toArray[k]? = some (f (l.getD k d)) := by
  simp [List.getD, h]

theorem pickTo_len (ws : List ByteArray) (bs : List Bool) (k : Nat) : (pickTo ws bs k).length ≤ k := by
  induction k with
  | zero => simp [pickTo]
  | succ k ih =>
    by_cases h1 : k < ws.length
    · by_cases h2 : k < bs.length
      · rw [pickTo_succ ws bs k h1 h2]
        have := addB_len (pickTo ws bs k) ws[k] bs[k]
        omega
      · have : pickTo ws bs (k + 1) = pickTo ws bs k := by
          unfold pickTo
          rw [List.take_of_length_le (by simp; omega), List.take_of_length_le (by simp; omega)]
        rw [this]; omega
    · have : pickTo ws bs (k + 1) = pickTo ws bs k := by
        unfold pickTo
        rw [List.take_of_length_le (by simp; omega), List.take_of_length_le (by simp; omega)]
      rw [this]; omega

theorem own_grownN {B wr w2 : World} {e : TypeId} {v : Value} {n : Nat} {xs : List Value} {o : Obj} (hb : Below B.heap.size B wr) (hr : wr.ownsRow B.heap.size e 1 v n xs) (hg : (wr.alloc o).grownBy w2 v.ownBlock) : Below B.heap.size B w2 := by
  refine (hb.alloc hb.size o).grown hg (by have := hb.size; simp; omega) fun k ek => ?_
  rcases hr.2 with ⟨rfl, _⟩ | ⟨g, cap, cur, rfl, h, _, _⟩
  · simp [Value.ownBlock] at ek
  · obtain rfl : g = k := by simpa [Value.ownBlock] using ek
    exact h

theorem inb_below {W : World} (x : InB W) : Below W.heap.size W x.val := x.property

def wordsL : List ByteArray := [⟨#[106, 115, 111, 110]⟩, ⟨#[120, 109, 108]⟩, ⟨#[104, 116, 109, 108]⟩, ⟨#[115, 99, 114, 105, 112, 116]⟩, ⟨#[105, 109, 97, 103, 101]⟩, ⟨#[109, 101, 100, 105, 97]⟩, ⟨#[102, 111, 110, 116]⟩, ⟨#[122, 105, 112]⟩, ⟨#[97, 114, 99, 104, 105, 118, 101]⟩, ⟨#[115, 99, 114, 105, 112, 116, 97, 98, 108, 101]⟩, ⟨#[115, 97, 102, 101]⟩, ⟨#[110, 101, 118, 101, 114]⟩, ⟨#[108, 105, 115, 116, 101, 100]⟩]

set_option maxHeartbeats 20000000 in
set_option maxRecDepth 20000 in
theorem rNames_any (t u : ByteArray) (A : Option Addr) (n c : Nat) (w : World) (hT : Tab w) (ht : t.size ≤ 1000) (hu : u.size ≤ 1000) :
    Calls Tryd.prog 40 #[.agg #[.string t, .string u, .slice A n c]] w (GivesStrs (rNamesB t u) w) := by
  obtain ⟨i0_, hi, hz0, hz1, hz2⟩ := info_parts infoStrT
  have HI := Lib.hid hi; have HZ0 := Lib.hid hz0; have HZ1 := Lib.hid hz1; have HZ2 := Lib.hid hz2
  clear hi hz0 hz1 hz2
  have J0 := Lib.hid (rJson_says.at (t := t) (u := u) hT ht hu A n c (below_box w (.cells #[.string t, .string u, .slice A n c] 24)))
  have J1 := Lib.hid (rXml_says.at (t := t) (u := u) hT ht hu A n c (below_box w (.cells #[.string t, .string u, .slice A n c] 24)))
  have J2 := Lib.hid (rHtml_says.at (t := t) (u := u) hT ht hu A n c (below_box w (.cells #[.string t, .string u, .slice A n c] 24)))
  have J3 := Lib.hid (rScript_says.at (t := t) (u := u) hT ht hu A n c (below_box w (.cells #[.string t, .string u, .slice A n c] 24)))
  have J5 := Lib.hid (rMedia_says.at (t := t) (u := u) hT ht hu A n c (below_box w (.cells #[.string t, .string u, .slice A n c] 24)))
  have J6 := Lib.hid (rFont_says.at (t := t) (u := u) hT ht hu A n c (below_box w (.cells #[.string t, .string u, .slice A n c] 24)))
  have J7 := Lib.hid (rZip_says.at (t := t) (u := u) hT ht hu A n c (below_box w (.cells #[.string t, .string u, .slice A n c] 24)))
  have J8 := Lib.hid (rArchive_says.at (t := t) (u := u) hT ht hu A n c (below_box w (.cells #[.string t, .string u, .slice A n c] 24)))
  have J9 := Lib.hid (rScriptable_says.at (t := t) (u := u) hT ht hu A n c (below_box w (.cells #[.string t, .string u, .slice A n c] 24)))
  have J10 := Lib.hid (rSafe_says.at (t := t) (u := u) hT ht hu A n c (below_box w (.cells #[.string t, .string u, .slice A n c] 24)))
  have J11 := Lib.hid (rNever_says.at (t := t) (u := u) hT ht hu A n c (below_box w (.cells #[.string t, .string u, .slice A n c] 24)))
  have J12 := Lib.hid (rListed_says.at (t := t) (u := u) hT ht hu A n c (below_box w (.cells #[.string t, .string u, .slice A n c] 24)))
  have q0 : (t.toList == [105, 109, 97, 103, 101]) = isB t ⟨#[105, 109, 97, 103, 101]⟩ := by rw [isB_eq, Lib.toList_data (⟨#[105, 109, 97, 103, 101]⟩ : ByteArray)]
  rw [show rNamesB t u = pickTo wordsL [rJsonB t u, rXmlB t u, rHtmlB t u, rScriptB t u, imageB t u, rMediaB t u, rFontB t u, rZipB t u, rArchiveB t u, rScriptableB t u, rSafeB t u, rNeverB t u, rListedB t u] 13 from rfl]
  unfold imageB
  generalize rJsonB t u = b0 at *
  generalize rXmlB t u = b1 at *
  generalize rHtmlB t u = b2 at *
  generalize rScriptB t u = b3 at *
  generalize isB t ⟨#[105, 109, 97, 103, 101]⟩ = b4 at *
  generalize rMediaB t u = b5 at *
  generalize rFontB t u = b6 at *
  generalize rZipB t u = b7 at *
  generalize rArchiveB t u = b8 at *
  generalize rScriptableB t u = b9 at *
  generalize rSafeB t u = b10 at *
  generalize rNeverB t u = b11 at *
  generalize rListedB t u = b12 at *
  clear hT ht hu
  have hb0 : Below w.heap.size w (w.alloc (.cells #[.string t, .string u, .slice A n c] 24)) := below_box w _
  have hp : (w.alloc (.cells #[.string t, .string u, .slice A n c] 24)).heap[w.heap.size]? = some (.cells #[.string t, .string u, .slice A n c] 24 (0, 0)) := heap_alloc_new w _
  go_enter Tryd.func40, Tryd.ntmps40
  go_upto_region 1 with fail
  generalize w.alloc (.cells #[.string t, .string u, .slice A n c] 24) = W at *
  obtain ⟨p0, p1, p2, pz⟩ := box_cells hp
  have HB0 := Lib.hid hb0
  clear hb0 hp
  go_cut [3] (fun v wx => ∃ g, v = .slice (some ⟨g, 0, none⟩) 13 13 ∧ g < wx.heap.size ∧ wx.heap[g]? = some (.cells #[.bool b0, .bool b1, .bool b2, .bool b3, .bool b4, .bool b5, .bool b6, .bool b7, .bool b8, .bool b9, .bool b10, .bool b11, .bool b12] 4 (0, 0)) ∧ Below W.heap.size W wx)
  case first =>
    have hx := @InB.cells W
    refine wp_region_inb_tail 27 (by kernel_rfl) (by kernel_rfl) ?_
    simp only [List.take_succ_cons, List.take_zero, List.drop_succ_cons, List.drop_zero]
    cases b4
    · have n0 := q0
      rw [beq_eq_false_iff_ne, ne_eq] at n0
      (repeat (first | go_big_quiet_skip | (go_big_quiet_want; go_big_quiet_op; first | go_big_quiet_on | (apply Exists.intro; refine ⟨fun x => ?_, ?_⟩; (· (first | (go_at_call 9; exact inb_call _ (J0.out _ (inb_below _))) | (go_at_call 11; exact inb_call _ (J1.out _ (inb_below _))) | (go_at_call 13; exact inb_call _ (J2.out _ (inb_below _))) | (go_at_call 15; exact inb_call _ (J3.out _ (inb_below _))) | (go_at_call 21; exact inb_call _ (J5.out _ (inb_below _))) | (go_at_call 23; exact inb_call _ (J6.out _ (inb_below _))) | (go_at_call 25; exact inb_call _ (J7.out _ (inb_below _))) | (go_at_call 27; exact inb_call _ (J8.out _ (inb_below _))) | (go_at_call 17; exact inb_call _ (J9.out _ (inb_below _))) | (go_at_call 34; exact inb_call _ (J10.out _ (inb_below _))) | (go_at_call 36; exact inb_call _ (J11.out _ (inb_below _))) | (go_at_call 37; exact inb_call _ (J12.out _ (inb_below _))))); go_big_quiet_on))))
      refine wpQuiet_nil ?_
      intro _ hw'
      obtain ⟨⟨wq, hbq⟩, rfl⟩ := hw'
      go_wp2_with fail
      go_meet
      exact ⟨_, rfl, by simp, heap_alloc_new _ _, hbq.alloc hbq.size _⟩
    · have n0 := q0
      rw [beq_iff_eq] at n0
      (repeat (first | go_big_quiet_skip | (go_big_quiet_want; go_big_quiet_op; first | go_big_quiet_on | (apply Exists.intro; refine ⟨fun x => ?_, ?_⟩; (· (first | (go_at_call 9; exact inb_call _ (J0.out _ (inb_below _))) | (go_at_call 11; exact inb_call _ (J1.out _ (inb_below _))) | (go_at_call 13; exact inb_call _ (J2.out _ (inb_below _))) | (go_at_call 15; exact inb_call _ (J3.out _ (inb_below _))) | (go_at_call 21; exact inb_call _ (J5.out _ (inb_below _))) | (go_at_call 23; exact inb_call _ (J6.out _ (inb_below _))) | (go_at_call 25; exact inb_call _ (J7.out _ (inb_below _))) | (go_at_call 27; exact inb_call _ (J8.out _ (inb_below _))) | (go_at_call 17; exact inb_call _ (J9.out _ (inb_below _))) | (go_at_call 34; exact inb_call _ (J10.out _ (inb_below _))) | (go_at_call 36; exact inb_call _ (J11.out _ (inb_below _))) | (go_at_call 37; exact inb_call _ (J12.out _ (inb_below _))))); go_big_quiet_on))))
      refine wpQuiet_nil ?_
      intro _ hw'
      obtain ⟨⟨wq, hbq⟩, rfl⟩ := hw'
      go_wp2_with fail
      go_meet
      exact ⟨_, rfl, by simp, heap_alloc_new _ _, hbq.alloc hbq.size _⟩
  obtain ⟨g, rfl, hg, hbl, hbq⟩ := hcut
  obtain ⟨W1, rfl⟩ : ∃ W1 : World, W1 = wc := ⟨_, rfl⟩
  have HB1 := Lib.hid (HB0.out.trans (hbq.mono HB0.out.size))
  have HB : Hid (∀ (wr : World), Below (W1.alloc (.cells #[.string ⟨#[106, 115, 111, 110]⟩, .string ⟨#[120, 109, 108]⟩, .string ⟨#[104, 116, 109, 108]⟩, .string ⟨#[115, 99, 114, 105, 112, 116]⟩, .string ⟨#[105, 109, 97, 103, 101]⟩, .string ⟨#[109, 101, 100, 105, 97]⟩, .string ⟨#[102, 111, 110, 116]⟩, .string ⟨#[122, 105, 112]⟩, .string ⟨#[97, 114, 99, 104, 105, 118, 101]⟩, .string ⟨#[115, 99, 114, 105, 112, 116, 97, 98, 108, 101]⟩, .string ⟨#[115, 97, 102, 101]⟩, .string ⟨#[110, 101, 118, 101, 114]⟩, .string ⟨#[108, 105, 115, 116, 101, 100]⟩] 9)).heap.size (W1.alloc (.cells #[.string ⟨#[106, 115, 111, 110]⟩, .string ⟨#[120, 109, 108]⟩, .string ⟨#[104, 116, 109, 108]⟩, .string ⟨#[115, 99, 114, 105, 112, 116]⟩, .string ⟨#[105, 109, 97, 103, 101]⟩, .string ⟨#[109, 101, 100, 105, 97]⟩, .string ⟨#[102, 111, 110, 116]⟩, .string ⟨#[122, 105, 112]⟩, .string ⟨#[97, 114, 99, 104, 105, 118, 101]⟩, .string ⟨#[115, 99, 114, 105, 112, 116, 97, 98, 108, 101]⟩, .string ⟨#[115, 97, 102, 101]⟩, .string ⟨#[110, 101, 118, 101, 114]⟩, .string ⟨#[108, 105, 115, 116, 101, 100]⟩] 9)) wr → ∀ k (h : k < 13), wr.cell? ⟨g, k, none⟩ = some (.bool (([b0, b1, b2, b3, b4, b5, b6, b7, b8, b9, b10, b11, b12] : List Bool).getD k false))) := Lib.hid (fun wr hb k h => by
    rw [cell_below hb (by simp; omega), cell_of_row _ _ _ _ _ (0, 0) ((Below.heap_alloc _ _ g hg).trans hbl)]
    rw [show (#[.bool b0, .bool b1, .bool b2, .bool b3, .bool b4, .bool b5, .bool b6, .bool b7, .bool b8, .bool b9, .bool b10, .bool b11, .bool b12] : Array Value) = (([b0, b1, b2, b3, b4, b5, b6, b7, b8, b9, b10, b11, b12] : List Bool).map Value.bool).toArray from rfl]
    exact map_at _ _ _ _ h)
  have HW : Hid (∀ (wr : World), Below (W1.alloc (.cells #[.string ⟨#[106, 115, 111, 110]⟩, .string ⟨#[120, 109, 108]⟩, .string ⟨#[104, 116, 109, 108]⟩, .string ⟨#[115, 99, 114, 105, 112, 116]⟩, .string ⟨#[105, 109, 97, 103, 101]⟩, .string ⟨#[109, 101, 100, 105, 97]⟩, .string ⟨#[102, 111, 110, 116]⟩, .string ⟨#[122, 105, 112]⟩, .string ⟨#[97, 114, 99, 104, 105, 118, 101]⟩, .string ⟨#[115, 99, 114, 105, 112, 116, 97, 98, 108, 101]⟩, .string ⟨#[115, 97, 102, 101]⟩, .string ⟨#[110, 101, 118, 101, 114]⟩, .string ⟨#[108, 105, 115, 116, 101, 100]⟩] 9)).heap.size (W1.alloc (.cells #[.string ⟨#[106, 115, 111, 110]⟩, .string ⟨#[120, 109, 108]⟩, .string ⟨#[104, 116, 109, 108]⟩, .string ⟨#[115, 99, 114, 105, 112, 116]⟩, .string ⟨#[105, 109, 97, 103, 101]⟩, .string ⟨#[109, 101, 100, 105, 97]⟩, .string ⟨#[102, 111, 110, 116]⟩, .string ⟨#[122, 105, 112]⟩, .string ⟨#[97, 114, 99, 104, 105, 118, 101]⟩, .string ⟨#[115, 99, 114, 105, 112, 116, 97, 98, 108, 101]⟩, .string ⟨#[115, 97, 102, 101]⟩, .string ⟨#[110, 101, 118, 101, 114]⟩, .string ⟨#[108, 105, 115, 116, 101, 100]⟩] 9)) wr → ∀ k (h : k < 13), wr.cell? ⟨W1.heap.size, k, none⟩ = some (.string (wordsL.getD k ByteArray.empty))) := Lib.hid (fun wr hb k h => by
    rw [cell_below hb (by simp), cell_of_row _ _ _ _ _ (0, 0) (heap_alloc_new _ _)]
    rw [show (#[.string ⟨#[106, 115, 111, 110]⟩, .string ⟨#[120, 109, 108]⟩, .string ⟨#[104, 116, 109, 108]⟩, .string ⟨#[115, 99, 114, 105, 112, 116]⟩, .string ⟨#[105, 109, 97, 103, 101]⟩, .string ⟨#[109, 101, 100, 105, 97]⟩, .string ⟨#[102, 111, 110, 116]⟩, .string ⟨#[122, 105, 112]⟩, .string ⟨#[97, 114, 99, 104, 105, 118, 101]⟩, .string ⟨#[115, 99, 114, 105, 112, 116, 97, 98, 108, 101]⟩, .string ⟨#[115, 97, 102, 101]⟩, .string ⟨#[110, 101, 118, 101, 114]⟩, .string ⟨#[108, 105, 115, 116, 101, 100]⟩] : Array Value) = (wordsL.map Value.string).toArray from rfl]
    exact map_at _ _ _ _ h)
  have HS : Hid (∀ k (h : k < 13), pickTo wordsL [b0, b1, b2, b3, b4, b5, b6, b7, b8, b9, b10, b11, b12] (k + 1) = addB (pickTo wordsL [b0, b1, b2, b3, b4, b5, b6, b7, b8, b9, b10, b11, b12] k) (wordsL.getD k ByteArray.empty) (([b0, b1, b2, b3, b4, b5, b6, b7, b8, b9, b10, b11, b12] : List Bool).getD k false)) := Lib.hid (fun k h => pickTo_getD _ _ k h h)
  have HL := Lib.hid (fun k => pickTo_len wordsL [b0, b1, b2, b3, b4, b5, b6, b7, b8, b9, b10, b11, b12] k)
  clear hbl hbq p0 p1 p2 pz q0 J0 J1 J2 J3 J5 J6 J7 J8 J9 J10 J11 J12 HB0
  have HB1z : Hid (w.heap.size ≤ W1.heap.size) := Lib.hid HB1.out.size
  generalize ([b0, b1, b2, b3, b4, b5, b6, b7, b8, b9, b10, b11, b12] : List Bool) = bs at *
  go_wp2_with fail
  have HBA : Hid (Below w.heap.size w (W1.alloc (.cells #[.string ⟨#[106, 115, 111, 110]⟩, .string ⟨#[120, 109, 108]⟩, .string ⟨#[104, 116, 109, 108]⟩, .string ⟨#[115, 99, 114, 105, 112, 116]⟩, .string ⟨#[105, 109, 97, 103, 101]⟩, .string ⟨#[109, 101, 100, 105, 97]⟩, .string ⟨#[102, 111, 110, 116]⟩, .string ⟨#[122, 105, 112]⟩, .string ⟨#[97, 114, 99, 104, 105, 118, 101]⟩, .string ⟨#[115, 99, 114, 105, 112, 116, 97, 98, 108, 101]⟩, .string ⟨#[115, 97, 102, 101]⟩, .string ⟨#[110, 101, 118, 101, 114]⟩, .string ⟨#[108, 105, 115, 116, 101, 100]⟩] 9))) := Lib.hid (HB1.out.alloc HB1z.out _)
  have e0 := (World.ownsRow_lit (base := (W1.alloc (.cells #[.string ⟨#[106, 115, 111, 110]⟩, .string ⟨#[120, 109, 108]⟩, .string ⟨#[104, 116, 109, 108]⟩, .string ⟨#[115, 99, 114, 105, 112, 116]⟩, .string ⟨#[105, 109, 97, 103, 101]⟩, .string ⟨#[109, 101, 100, 105, 97]⟩, .string ⟨#[102, 111, 110, 116]⟩, .string ⟨#[122, 105, 112]⟩, .string ⟨#[97, 114, 99, 104, 105, 118, 101]⟩, .string ⟨#[115, 99, 114, 105, 112, 116, 97, 98, 108, 101]⟩, .string ⟨#[115, 97, 102, 101]⟩, .string ⟨#[110, 101, 118, 101, 114]⟩, .string ⟨#[108, 105, 115, 116, 101, 100]⟩] 9)).heap.size) (e := 9) (size := 1) (W1.alloc (.cells #[.string ⟨#[106, 115, 111, 110]⟩, .string ⟨#[120, 109, 108]⟩, .string ⟨#[104, 116, 109, 108]⟩, .string ⟨#[115, 99, 114, 105, 112, 116]⟩, .string ⟨#[105, 109, 97, 103, 101]⟩, .string ⟨#[109, 101, 100, 105, 97]⟩, .string ⟨#[102, 111, 110, 116]⟩, .string ⟨#[122, 105, 112]⟩, .string ⟨#[97, 114, 99, 104, 105, 118, 101]⟩, .string ⟨#[115, 99, 114, 105, 112, 116, 97, 98, 108, 101]⟩, .string ⟨#[115, 97, 102, 101]⟩, .string ⟨#[110, 101, 118, 101, 114]⟩, .string ⟨#[108, 105, 115, 116, 101, 100]⟩] 9)) #[] 0 (Nat.le_refl _) (Nat.zero_le _) rfl)
  have e1 : Below (W1.alloc (.cells #[.string ⟨#[106, 115, 111, 110]⟩, .string ⟨#[120, 109, 108]⟩, .string ⟨#[104, 116, 109, 108]⟩, .string ⟨#[115, 99, 114, 105, 112, 116]⟩, .string ⟨#[105, 109, 97, 103, 101]⟩, .string ⟨#[109, 101, 100, 105, 97]⟩, .string ⟨#[102, 111, 110, 116]⟩, .string ⟨#[122, 105, 112]⟩, .string ⟨#[97, 114, 99, 104, 105, 118, 101]⟩, .string ⟨#[115, 99, 114, 105, 112, 116, 97, 98, 108, 101]⟩, .string ⟨#[115, 97, 102, 101]⟩, .string ⟨#[110, 101, 118, 101, 114]⟩, .string ⟨#[108, 105, 115, 116, 101, 100]⟩] 9)).heap.size (W1.alloc (.cells #[.string ⟨#[106, 115, 111, 110]⟩, .string ⟨#[120, 109, 108]⟩, .string ⟨#[104, 116, 109, 108]⟩, .string ⟨#[115, 99, 114, 105, 112, 116]⟩, .string ⟨#[105, 109, 97, 103, 101]⟩, .string ⟨#[109, 101, 100, 105, 97]⟩, .string ⟨#[102, 111, 110, 116]⟩, .string ⟨#[122, 105, 112]⟩, .string ⟨#[97, 114, 99, 104, 105, 118, 101]⟩, .string ⟨#[115, 99, 114, 105, 112, 116, 97, 98, 108, 101]⟩, .string ⟨#[115, 97, 102, 101]⟩, .string ⟨#[110, 101, 118, 101, 114]⟩, .string ⟨#[108, 105, 115, 116, 101, 100]⟩] 9)) ((W1.alloc (.cells #[.string ⟨#[106, 115, 111, 110]⟩, .string ⟨#[120, 109, 108]⟩, .string ⟨#[104, 116, 109, 108]⟩, .string ⟨#[115, 99, 114, 105, 112, 116]⟩, .string ⟨#[105, 109, 97, 103, 101]⟩, .string ⟨#[109, 101, 100, 105, 97]⟩, .string ⟨#[102, 111, 110, 116]⟩, .string ⟨#[122, 105, 112]⟩, .string ⟨#[97, 114, 99, 104, 105, 118, 101]⟩, .string ⟨#[115, 99, 114, 105, 112, 116, 97, 98, 108, 101]⟩, .string ⟨#[115, 97, 102, 101]⟩, .string ⟨#[110, 101, 118, 101, 114]⟩, .string ⟨#[108, 105, 115, 116, 101, 100]⟩] 9)).alloc (.cells #[] 9)) := below_box _ _
  generalize hX : W1.alloc (.cells #[.string ⟨#[106, 115, 111, 110]⟩, .string ⟨#[120, 109, 108]⟩, .string ⟨#[104, 116, 109, 108]⟩, .string ⟨#[115, 99, 114, 105, 112, 116]⟩, .string ⟨#[105, 109, 97, 103, 101]⟩, .string ⟨#[109, 101, 100, 105, 97]⟩, .string ⟨#[102, 111, 110, 116]⟩, .string ⟨#[122, 105, 112]⟩, .string ⟨#[97, 114, 99, 104, 105, 118, 101]⟩, .string ⟨#[115, 99, 114, 105, 112, 116, 97, 98, 108, 101]⟩, .string ⟨#[115, 97, 102, 101]⟩, .string ⟨#[110, 101, 118, 101, 114]⟩, .string ⟨#[108, 105, 115, 116, 101, 100]⟩] 9) = X at *
  have HXZ : Hid (X.heap.size = W1.heap.size + 1) := Lib.hid (by rw [← hX]; simp)
  clear hX
  go_loopw [5, 6] (fun v i wr => ∃ k : Nat, k ≤ 13 ∧ i = .int .i64 k ∧ Below X.heap.size X wr ∧ wr.ownsRow X.heap.size 9 1 v (pickTo wordsL bs k).length (rowS (pickTo wordsL bs k))) (fun _ i _ => 13 - (intOf i).toNat)
  case atStart => exact ⟨0, by omega, rfl, e1, by have e2 := e0; rw [HXZ.out] at e2; rw [HXZ.out]; simpa [pickTo, rowS] using e2⟩
  case round =>
    obtain ⟨k, hk, rfl, hb, hown⟩ := hrel
    have HO := Lib.hid hown
    have HBR := Lib.hid hb
    have hz := hb.size
    clear hown e0 e1
    have hln := HL.out k
    by_cases hlt : k < 13
    · have cb := HB.out wr hb k hlt
      have cw := HW.out wr hb k hlt
      have hs := HS.out k hlt
      have i0 : (0 : Int) ≤ (k : Int) := by omega
      have i1 : (k : Int) < 13 := by omega
      generalize wordsL.getD k ByteArray.empty = x at *
      generalize bs.getD k false = b at *
      generalize hP : pickTo wordsL bs k = l1 at *
      have HP := Lib.hid hP
      have HS1 := Lib.hid hs
      clear hP hs
      cases b
      · go_wp2_with fail
        go_roundw
        case rel => exact ⟨k + 1, by omega, by go_num, HBR.out, by rw [HS1.out]; exact HO.out⟩
        case measure => simp [intOf]; omega
      · have k0 := Lib.hid (HO.out.alloc (.cells #[.string x] 9))
        have k1 := Lib.hid (cell_one_new wr (.string x) 9)
        have k2 := Lib.hid (show ∀ v ∈ ([.string x] : List Value), v.oneCell' = true from by intro v hv; simp at hv; subst hv; rfl)
        have k3 := Lib.hid (show l1.length + 1 ≤ maxLen from by unfold maxLen; omega)
        have k4 := Lib.hid (show (l1.length + 1) * 16 ≤ 140737488355328 from by omega)
        have k5 := Lib.hid (show X.heap.size ≤ (wr.alloc (.cells #[.string x] 9)).heap.size from by simp; omega)
        go_upto_region 8 with fail
        go_wp2_with (at_builtin; go_must (refine wpList_append_own _ rfl (.tmp 47) (.tmp 52) 34 rfl X.heap.size 9 i0_ (.string ByteArray.empty) 1 16 Tryd.underlying34 HI.out HZ0.out HZ1.out HZ2.out rfl (by decide) _ _ _ rfl k0.out ⟨wr.heap.size, 0, none⟩ 1 1 _ rfl rfl k1.out k2.out k3.out k4.out k5.out ?_); intro v2 w2 hown2 hg2 hne; have HO2 := Lib.hid hown2; have HK := Lib.hid (own_grownN HBR.out HO.out hg2); clear hown2 hg2 hne)
        go_roundw
        case rel => exact ⟨k + 1, by omega, by go_num, HK.out, by rw [HS1.out]; unfold addB; rw [if_pos rfl, rowS_snoc, List.length_append]; exact HO2.out⟩
        case measure => simp [intOf]; omega
    · obtain rfl : k = 13 := by omega
      clear hln
      obtain ⟨A2, c2, rfl, hst⟩ := strs_of_own HO.out rfl
      have HST := Lib.hid hst
      clear hst
      go_wp2_with fail
      go_ret
      exact ⟨A2, c2, rfl, HST.out, HBA.out.trans (HBR.out.mono HBA.out.size)⟩

end Go.Proofs.YtigclegknofhmaaDoor
