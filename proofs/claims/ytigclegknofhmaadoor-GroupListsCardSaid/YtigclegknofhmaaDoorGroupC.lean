/-
  Walks of the reference of package group: what each of its functions says of a type.
-/
import Derived.Test.YtigclegknofhmaaDoorGroupB
namespace Go.Proofs.YtigclegknofhmaaDoor
open Go.RowKit
set_option linter.unusedSimpArgs false
set_option linter.unusedVariables false

def oneB (s : ByteArray) (zs : List ByteArray) : Bool := zs.any fun z => isB z s

set_option maxHeartbeats 1000000 in
theorem rEssence_any (t u : ByteArray) (A : Option Addr) (n c : Nat) (w : World) (ht : t.size ≤ 1000) (hu : u.size ≤ 1000) :
    Calls Tryd.prog 46 #[.agg #[.string t, .string u, .slice A n c]] w fun e w' => e = .returned (.string (essB t u)) ∧ Below w.heap.size w w' := by
  have h1 : t.size + (⟨#[47]⟩ : ByteArray).size ≤ 9223372036854775807 := by rw [show (⟨#[47]⟩ : ByteArray).size = 1 from rfl]; omega
  have h2 : (t ++ (⟨#[47]⟩ : ByteArray)).size + u.size ≤ 9223372036854775807 := by rw [ByteArray.size_append, show (⟨#[47]⟩ : ByteArray).size = 1 from rfl]; omega
  go_enter Tryd.func46, Tryd.ntmps46
  go_wp2_with fail
  go_ret
  exact ⟨rfl, below_box _ _⟩

theorem ends_plain (s t : ByteArray) : Lib.hasSuffix s.data.toList t.data.toList = (decide (t.size ≤ s.size) && isB (s.extract (s.size - t.size) s.size) t) := by
  unfold Lib.hasSuffix isB
  rw [Bool.eq_iff_iff]
  simp only [List.isSuffixOf_iff_suffix, Bool.and_eq_true, decide_eq_true_eq]
  constructor
  · intro h
    have hl := h.length_le
    rw [← Lib.size_eq, ← Lib.size_eq] at hl
    refine ⟨hl, bytes_ext ?_⟩
    rw [Lib.extract_data]
    obtain ⟨p, hp⟩ := h
    have hps : p.length = s.size - t.size := by
      have := congrArg List.length hp
      rw [List.length_append, ← Lib.size_eq, ← Lib.size_eq] at this
      omega
    rw [← hp, ← hps, List.drop_left]
    apply List.take_of_length_le
    rw [← Lib.size_eq]; omega
  · rintro ⟨hl, he⟩
    have h2 := congrArg (fun x : ByteArray => x.data.toList) he
    simp only [Lib.extract_data] at h2
    rw [List.take_of_length_le (by rw [List.length_drop, ← Lib.size_eq]; omega)] at h2
    rw [← h2]
    exact List.drop_suffix _ _

set_option maxHeartbeats 1000000 in
theorem rends_any (s t : ByteArray) (w : World) (hs : s.size ≤ 1000) (ht : t.size ≤ 1000) :
    Calls Tryd.prog 44 #[.string s, .string t] w fun e w' => e = .returned (.bool (Lib.hasSuffix s.data.toList t.data.toList)) ∧ w = w' := by
  rw [ends_plain, isB_eq]
  go_enter Tryd.func44, Tryd.ntmps44
  by_cases h : t.size ≤ s.size
  · have hz : (t.size : Int) ≤ (s.size : Int) := by omega
    have hw : wrap64 ((s.size : Int) - (t.size : Int)) = ((s.size - t.size : Nat) : Int) := by unfold wrap64; omega
    have h0 : (0 : Int) ≤ ((s.size - t.size : Nat) : Int) := by omega
    have h1 : ((s.size - t.size : Nat) : Int) ≤ (s.size : Int) := by omega
    generalize hd : s.size - t.size = d at *
    go_wp2_with fail
    go_ret
    exact ⟨by simp [h], rfl⟩
  · have hz : ¬ ((t.size : Int) ≤ (s.size : Int)) := by omega
    go_wp2_with fail
    go_ret
    exact ⟨by simp [h], rfl⟩

theorem oneB_step (s : ByteArray) (zs : List ByteArray) (k : Nat) (hk : k < zs.length) : oneB s (zs.drop k) = (isB zs[k] s || oneB s (zs.drop (k + 1))) := by
  rw [List.drop_eq_getElem_cons hk]; rfl

set_option maxHeartbeats 1000000 in
theorem rone_any (s : ByteArray) (zs : List ByteArray) (b c : Nat) (w : World) (hz : zs.length ≤ 1000) (h : ∀ i (hi : i < zs.length), w.cell? ⟨b, i, none⟩ = some (.string zs[i])) :
    Calls Tryd.prog 45 #[.string s, .slice (some ⟨b, 0, none⟩) zs.length c] w fun e w' => e = .returned (.bool (oneB s zs)) ∧ Below w.heap.size w w' := by
  have H := Lib.hid h
  clear h
  go_enter Tryd.func45, Tryd.ntmps45
  go_wp2_with fail
  go_loopw [5] (fun i wr => ∃ n : Nat, n ≤ zs.length ∧ i = .int .i64 n ∧ w = wr ∧ oneB s zs = oneB s (zs.drop n)) (fun i _ => zs.length - (intOf i).toNat)
  case atStart => exact ⟨0, Nat.zero_le _, rfl, rfl, by simp⟩
  case round =>
    obtain ⟨n, hn, rfl, rfl, hone⟩ := hrel
    by_cases hlt : n < zs.length
    · have hc := H.out n hlt
      have i0 : (0 : Int) ≤ (n : Int) := by omega
      have i1 : (n : Int) < (zs.length : Int) := by omega
      rw [oneB_step s zs n hlt, isB_eq] at hone
      have HO := Lib.hid hone
      clear hone
      generalize zs[n] = x at *
      cases hq : (x.toList == s.toList)
      · go_wp2_with fail
        go_roundw
        case rel => exact ⟨n + 1, by omega, by go_num, by trivial, by rw [HO.out, hq]; rfl⟩
        case measure => simp [intOf]; omega
      · go_wp2_with fail
        go_ret
        exact ⟨by rw [HO.out, hq]; rfl, Below.refl _ _⟩
    · obtain rfl : n = zs.length := by omega
      have HO := Lib.hid hone
      clear hone
      go_wp2_with fail
      go_ret
      exact ⟨by rw [HO.out, List.drop_length]; rfl, Below.refl _ _⟩

theorem rone_new (s : ByteArray) (zs : List ByteArray) (X : World) (hz : zs.length ≤ 1000) :
    Calls Tryd.prog 45 #[.string s, .slice (some ⟨X.heap.size, 0, none⟩) zs.length zs.length] (X.alloc (.cells (rowS zs).toArray 9)) fun e w' => e = .returned (.bool (oneB s zs)) ∧ Below (X.alloc (.cells (rowS zs).toArray 9)).heap.size (X.alloc (.cells (rowS zs).toArray 9)) w' := by
  refine rone_any s zs X.heap.size _ _ hz (fun i hi => ?_)
  rw [cell_of_row _ _ _ _ _ (0, 0) (heap_alloc_new X _)]
  simp [rowS, hi]

def rJsonB (t u : ByteArray) : Bool := Lib.hasSuffix u.data.toList [43, 106, 115, 111, 110] || oneB (essB t u) [⟨#[97, 112, 112, 108, 105, 99, 97, 116, 105, 111, 110, 47, 106, 115, 111, 110]⟩, ⟨#[116, 101, 120, 116, 47, 106, 115, 111, 110]⟩]

set_option maxHeartbeats 4000000 in
set_option maxRecDepth 20000 in
theorem rJson_says : Says 9 rJsonB := by
  intro t u A n c w hT ht hu
  have HE := Lib.hid (fun (w1 : World) => rEssence_any t u A n c w1 ht hu)
  have hes : (essB t u).size ≤ 3000 := by rw [essB_size]; omega
  have H0 := Lib.hid (fun (w1 : World) => rends_any u ⟨#[43, 106, 115, 111, 110]⟩ w1 hu (by decide))
  rw [show (⟨#[43, 106, 115, 111, 110]⟩ : ByteArray).data.toList = [43, 106, 115, 111, 110] from rfl] at H0
  have H1 : Hid (∀ X : World, Calls Tryd.prog 45 #[.string (essB t u), .slice (some ⟨X.heap.size, 0, none⟩) 2 2] (X.alloc (.cells #[.string ⟨#[97, 112, 112, 108, 105, 99, 97, 116, 105, 111, 110, 47, 106, 115, 111, 110]⟩, .string ⟨#[116, 101, 120, 116, 47, 106, 115, 111, 110]⟩] 9)) fun e w' => e = .returned (.bool (oneB (essB t u) [⟨#[97, 112, 112, 108, 105, 99, 97, 116, 105, 111, 110, 47, 106, 115, 111, 110]⟩, ⟨#[116, 101, 120, 116, 47, 106, 115, 111, 110]⟩])) ∧ Below (X.alloc (.cells #[.string ⟨#[97, 112, 112, 108, 105, 99, 97, 116, 105, 111, 110, 47, 106, 115, 111, 110]⟩, .string ⟨#[116, 101, 120, 116, 47, 106, 115, 111, 110]⟩] 9)).heap.size (X.alloc (.cells #[.string ⟨#[97, 112, 112, 108, 105, 99, 97, 116, 105, 111, 110, 47, 106, 115, 111, 110]⟩, .string ⟨#[116, 101, 120, 116, 47, 106, 115, 111, 110]⟩] 9)) w') := Lib.hid (fun X => rone_new (essB t u) [⟨#[97, 112, 112, 108, 105, 99, 97, 116, 105, 111, 110, 47, 106, 115, 111, 110]⟩, ⟨#[116, 101, 120, 116, 47, 106, 115, 111, 110]⟩] X (by decide))
  unfold rJsonB
  generalize Lib.hasSuffix u.data.toList [43, 106, 115, 111, 110] = b0 at *
  generalize oneB (essB t u) [⟨#[97, 112, 112, 108, 105, 99, 97, 116, 105, 111, 110, 47, 106, 115, 111, 110]⟩, ⟨#[116, 101, 120, 116, 47, 106, 115, 111, 110]⟩] = b1 at *
  generalize essB t u = E at *
  go_enter Tryd.func9, Tryd.ntmps9
  go_upto_region 1 with fail
  have hb : Below (w.alloc (.cells #[.string t, .string u, .slice A n c] 24)).heap.size (w.alloc (.cells #[.string t, .string u, .slice A n c] 24)) (w.alloc (.cells #[.string t, .string u, .slice A n c] 24)) := Below.refl _ _
  cases b0 <;> cases b1 <;>
    (skip
     go_wp2_with (first | (go_at_call 46; (with_reducible refine Calls.mono (HE.out _) ?_); rintro e w' ⟨rfl, hb2⟩; replace hb := below_trans hb hb2; clear hb2; obtain ⟨d0, d1, d2⟩ := box_on hb) | (go_at_call 44; (with_reducible refine Calls.mono (H0.out _) ?_); rintro e w' ⟨rfl, rfl⟩) | (go_at_call 45; (refine Calls.mono (H1.out _) ?_); rintro e w' ⟨rfl, hb2⟩; replace hb := below_trans (hb.alloc hb.size _) hb2; clear hb2; obtain ⟨d0, d1, d2⟩ := box_on hb))
     go_ret
     exact ⟨rfl, (below_box w _).trans (hb.mono (by simp))⟩)

def rXmlB (t u : ByteArray) : Bool := Lib.hasSuffix u.data.toList [43, 120, 109, 108] || oneB (essB t u) [⟨#[97, 112, 112, 108, 105, 99, 97, 116, 105, 111, 110, 47, 120, 109, 108]⟩, ⟨#[116, 101, 120, 116, 47, 120, 109, 108]⟩]

set_option maxHeartbeats 4000000 in
set_option maxRecDepth 20000 in
theorem rXml_says : Says 11 rXmlB := by
  intro t u A n c w hT ht hu
  have HE := Lib.hid (fun (w1 : World) => rEssence_any t u A n c w1 ht hu)
  have hes : (essB t u).size ≤ 3000 := by rw [essB_size]; omega
  have H0 := Lib.hid (fun (w1 : World) => rends_any u ⟨#[43, 120, 109, 108]⟩ w1 hu (by decide))
  rw [show (⟨#[43, 120, 109, 108]⟩ : ByteArray).data.toList = [43, 120, 109, 108] from rfl] at H0
  have H1 : Hid (∀ X : World, Calls Tryd.prog 45 #[.string (essB t u), .slice (some ⟨X.heap.size, 0, none⟩) 2 2] (X.alloc (.cells #[.string ⟨#[97, 112, 112, 108, 105, 99, 97, 116, 105, 111, 110, 47, 120, 109, 108]⟩, .string ⟨#[116, 101, 120, 116, 47, 120, 109, 108]⟩] 9)) fun e w' => e = .returned (.bool (oneB (essB t u) [⟨#[97, 112, 112, 108, 105, 99, 97, 116, 105, 111, 110, 47, 120, 109, 108]⟩, ⟨#[116, 101, 120, 116, 47, 120, 109, 108]⟩])) ∧ Below (X.alloc (.cells #[.string ⟨#[97, 112, 112, 108, 105, 99, 97, 116, 105, 111, 110, 47, 120, 109, 108]⟩, .string ⟨#[116, 101, 120, 116, 47, 120, 109, 108]⟩] 9)).heap.size (X.alloc (.cells #[.string ⟨#[97, 112, 112, 108, 105, 99, 97, 116, 105, 111, 110, 47, 120, 109, 108]⟩, .string ⟨#[116, 101, 120, 116, 47, 120, 109, 108]⟩] 9)) w') := Lib.hid (fun X => rone_new (essB t u) [⟨#[97, 112, 112, 108, 105, 99, 97, 116, 105, 111, 110, 47, 120, 109, 108]⟩, ⟨#[116, 101, 120, 116, 47, 120, 109, 108]⟩] X (by decide))
  unfold rXmlB
  generalize Lib.hasSuffix u.data.toList [43, 120, 109, 108] = b0 at *
  generalize oneB (essB t u) [⟨#[97, 112, 112, 108, 105, 99, 97, 116, 105, 111, 110, 47, 120, 109, 108]⟩, ⟨#[116, 101, 120, 116, 47, 120, 109, 108]⟩] = b1 at *
  generalize essB t u = E at *
  go_enter Tryd.func11, Tryd.ntmps11
  go_upto_region 1 with fail
  have hb : Below (w.alloc (.cells #[.string t, .string u, .slice A n c] 24)).heap.size (w.alloc (.cells #[.string t, .string u, .slice A n c] 24)) (w.alloc (.cells #[.string t, .string u, .slice A n c] 24)) := Below.refl _ _
  cases b0 <;> cases b1 <;>
    (skip
     go_wp2_with (first | (go_at_call 46; (with_reducible refine Calls.mono (HE.out _) ?_); rintro e w' ⟨rfl, hb2⟩; replace hb := below_trans hb hb2; clear hb2; obtain ⟨d0, d1, d2⟩ := box_on hb) | (go_at_call 44; (with_reducible refine Calls.mono (H0.out _) ?_); rintro e w' ⟨rfl, rfl⟩) | (go_at_call 45; (refine Calls.mono (H1.out _) ?_); rintro e w' ⟨rfl, hb2⟩; replace hb := below_trans (hb.alloc hb.size _) hb2; clear hb2; obtain ⟨d0, d1, d2⟩ := box_on hb))
     go_ret
     exact ⟨rfl, (below_box w _).trans (hb.mono (by simp))⟩)

def rHtmlB (t u : ByteArray) : Bool := isB (essB t u) ⟨#[116, 101, 120, 116, 47, 104, 116, 109, 108]⟩

set_option maxHeartbeats 4000000 in
set_option maxRecDepth 20000 in
theorem rHtml_says : Says 13 rHtmlB := by
  intro t u A n c w hT ht hu
  have HE := Lib.hid (fun (w1 : World) => rEssence_any t u A n c w1 ht hu)
  have hes : (essB t u).size ≤ 3000 := by rw [essB_size]; omega
  have q0 : ((essB t u).toList == [116, 101, 120, 116, 47, 104, 116, 109, 108]) = isB (essB t u) ⟨#[116, 101, 120, 116, 47, 104, 116, 109, 108]⟩ := by rw [isB_eq, Lib.toList_data (⟨#[116, 101, 120, 116, 47, 104, 116, 109, 108]⟩ : ByteArray)]
  unfold rHtmlB
  generalize isB (essB t u) ⟨#[116, 101, 120, 116, 47, 104, 116, 109, 108]⟩ = b0 at *
  generalize essB t u = E at *
  go_enter Tryd.func13, Tryd.ntmps13
  go_upto_region 1 with fail
  have hb : Below (w.alloc (.cells #[.string t, .string u, .slice A n c] 24)).heap.size (w.alloc (.cells #[.string t, .string u, .slice A n c] 24)) (w.alloc (.cells #[.string t, .string u, .slice A n c] 24)) := Below.refl _ _
  cases b0 <;>
    (skip
     have n0 := q0
     (try rw [beq_eq_false_iff_ne, ne_eq] at n0)
     (try rw [beq_iff_eq] at n0)
     go_wp2_with (first | (go_at_call 46; (with_reducible refine Calls.mono (HE.out _) ?_); rintro e w' ⟨rfl, hb2⟩; replace hb := below_trans hb hb2; clear hb2; obtain ⟨d0, d1, d2⟩ := box_on hb))
     go_ret
     exact ⟨rfl, (below_box w _).trans (hb.mono (by simp))⟩)

def rScriptB (t u : ByteArray) : Bool := oneB (essB t u) [⟨#[97, 112, 112, 108, 105, 99, 97, 116, 105, 111, 110, 47, 101, 99, 109, 97, 115, 99, 114, 105, 112, 116]⟩, ⟨#[97, 112, 112, 108, 105, 99, 97, 116, 105, 111, 110, 47, 106, 97, 118, 97, 115, 99, 114, 105, 112, 116]⟩, ⟨#[97, 112, 112, 108, 105, 99, 97, 116, 105, 111, 110, 47, 120, 45, 101, 99, 109, 97, 115, 99, 114, 105, 112, 116]⟩, ⟨#[97, 112, 112, 108, 105, 99, 97, 116, 105, 111, 110, 47, 120, 45, 106, 97, 118, 97, 115, 99, 114, 105, 112, 116]⟩, ⟨#[116, 101, 120, 116, 47, 101, 99, 109, 97, 115, 99, 114, 105, 112, 116]⟩, ⟨#[116, 101, 120, 116, 47, 106, 97, 118, 97, 115, 99, 114, 105, 112, 116]⟩, ⟨#[116, 101, 120, 116, 47, 106, 97, 118, 97, 115, 99, 114, 105, 112, 116, 49, 46, 48]⟩, ⟨#[116, 101, 120, 116, 47, 106, 97, 118, 97, 115, 99, 114, 105, 112, 116, 49, 46, 49]⟩, ⟨#[116, 101, 120, 116, 47, 106, 97, 118, 97, 115, 99, 114, 105, 112, 116, 49, 46, 50]⟩, ⟨#[116, 101, 120, 116, 47, 106, 97, 118, 97, 115, 99, 114, 105, 112, 116, 49, 46, 51]⟩, ⟨#[116, 101, 120, 116, 47, 106, 97, 118, 97, 115, 99, 114, 105, 112, 116, 49, 46, 52]⟩, ⟨#[116, 101, 120, 116, 47, 106, 97, 118, 97, 115, 99, 114, 105, 112, 116, 49, 46, 53]⟩, ⟨#[116, 101, 120, 116, 47, 106, 115, 99, 114, 105, 112, 116]⟩, ⟨#[116, 101, 120, 116, 47, 108, 105, 118, 101, 115, 99, 114, 105, 112, 116]⟩, ⟨#[116, 101, 120, 116, 47, 120, 45, 101, 99, 109, 97, 115, 99, 114, 105, 112, 116]⟩, ⟨#[116, 101, 120, 116, 47, 120, 45, 106, 97, 118, 97, 115, 99, 114, 105, 112, 116]⟩]

set_option maxHeartbeats 4000000 in
set_option maxRecDepth 20000 in
theorem rScript_says : Says 15 rScriptB := by
  intro t u A n c w hT ht hu
  have HE := Lib.hid (fun (w1 : World) => rEssence_any t u A n c w1 ht hu)
  have hes : (essB t u).size ≤ 3000 := by rw [essB_size]; omega
  have H0 : Hid (∀ X : World, Calls Tryd.prog 45 #[.string (essB t u), .slice (some ⟨X.heap.size, 0, none⟩) 16 16] (X.alloc (.cells #[.string ⟨#[97, 112, 112, 108, 105, 99, 97, 116, 105, 111, 110, 47, 101, 99, 109, 97, 115, 99, 114, 105, 112, 116]⟩, .string ⟨#[97, 112, 112, 108, 105, 99, 97, 116, 105, 111, 110, 47, 106, 97, 118, 97, 115, 99, 114, 105, 112, 116]⟩, .string ⟨#[97, 112, 112, 108, 105, 99, 97, 116, 105, 111, 110, 47, 120, 45, 101, 99, 109, 97, 115, 99, 114, 105, 112, 116]⟩, .string ⟨#[97, 112, 112, 108, 105, 99, 97, 116, 105, 111, 110, 47, 120, 45, 106, 97, 118, 97, 115, 99, 114, 105, 112, 116]⟩, .string ⟨#[116, 101, 120, 116, 47, 101, 99, 109, 97, 115, 99, 114, 105, 112, 116]⟩, .string ⟨#[116, 101, 120, 116, 47, 106, 97, 118, 97, 115, 99, 114, 105, 112, 116]⟩, .string ⟨#[116, 101, 120, 116, 47, 106, 97, 118, 97, 115, 99, 114, 105, 112, 116, 49, 46, 48]⟩, .string ⟨#[116, 101, 120, 116, 47, 106, 97, 118, 97, 115, 99, 114, 105, 112, 116, 49, 46, 49]⟩, .string ⟨#[116, 101, 120, 116, 47, 106, 97, 118, 97, 115, 99, 114, 105, 112, 116, 49, 46, 50]⟩, .string ⟨#[116, 101, 120, 116, 47, 106, 97, 118, 97, 115, 99, 114, 105, 112, 116, 49, 46, 51]⟩, .string ⟨#[116, 101, 120, 116, 47, 106, 97, 118, 97, 115, 99, 114, 105, 112, 116, 49, 46, 52]⟩, .string ⟨#[116, 101, 120, 116, 47, 106, 97, 118, 97, 115, 99, 114, 105, 112, 116, 49, 46, 53]⟩, .string ⟨#[116, 101, 120, 116, 47, 106, 115, 99, 114, 105, 112, 116]⟩, .string ⟨#[116, 101, 120, 116, 47, 108, 105, 118, 101, 115, 99, 114, 105, 112, 116]⟩, .string ⟨#[116, 101, 120, 116, 47, 120, 45, 101, 99, 109, 97, 115, 99, 114, 105, 112, 116]⟩, .string ⟨#[116, 101, 120, 116, 47, 120, 45, 106, 97, 118, 97, 115, 99, 114, 105, 112, 116]⟩] 9)) fun e w' => e = .returned (.bool (oneB (essB t u) [⟨#[97, 112, 112, 108, 105, 99, 97, 116, 105, 111, 110, 47, 101, 99, 109, 97, 115, 99, 114, 105, 112, 116]⟩, ⟨#[97, 112, 112, 108, 105, 99, 97, 116, 105, 111, 110, 47, 106, 97, 118, 97, 115, 99, 114, 105, 112, 116]⟩, ⟨#[97, 112, 112, 108, 105, 99, 97, 116, 105, 111, 110, 47, 120, 45, 101, 99, 109, 97, 115, 99, 114, 105, 112, 116]⟩, ⟨#[97, 112, 112, 108, 105, 99, 97, 116, 105, 111, 110, 47, 120, 45, 106, 97, 118, 97, 115, 99, 114, 105, 112, 116]⟩, ⟨#[116, 101, 120, 116, 47, 101, 99, 109, 97, 115, 99, 114, 105, 112, 116]⟩, ⟨#[116, 101, 120, 116, 47, 106, 97, 118, 97, 115, 99, 114, 105, 112, 116]⟩, ⟨#[116, 101, 120, 116, 47, 106, 97, 118, 97, 115, 99, 114, 105, 112, 116, 49, 46, 48]⟩, ⟨#[116, 101, 120, 116, 47, 106, 97, 118, 97, 115, 99, 114, 105, 112, 116, 49, 46, 49]⟩, ⟨#[116, 101, 120, 116, 47, 106, 97, 118, 97, 115, 99, 114, 105, 112, 116, 49, 46, 50]⟩, ⟨#[116, 101, 120, 116, 47, 106, 97, 118, 97, 115, 99, 114, 105, 112, 116, 49, 46, 51]⟩, ⟨#[116, 101, 120, 116, 47, 106, 97, 118, 97, 115, 99, 114, 105, 112, 116, 49, 46, 52]⟩, ⟨#[116, 101, 120, 116, 47, 106, 97, 118, 97, 115, 99, 114, 105, 112, 116, 49, 46, 53]⟩, ⟨#[116, 101, 120, 116, 47, 106, 115, 99, 114, 105, 112, 116]⟩, ⟨#[116, 101, 120, 116, 47, 108, 105, 118, 101, 115, 99, 114, 105, 112, 116]⟩, ⟨#[116, 101, 120, 116, 47, 120, 45, 101, 99, 109, 97, 115, 99, 114, 105, 112, 116]⟩, ⟨#[116, 101, 120, 116, 47, 120, 45, 106, 97, 118, 97, 115, 99, 114, 105, 112, 116]⟩])) ∧ Below (X.alloc (.cells #[.string ⟨#[97, 112, 112, 108, 105, 99, 97, 116, 105, 111, 110, 47, 101, 99, 109, 97, 115, 99, 114, 105, 112, 116]⟩, .string ⟨#[97, 112, 112, 108, 105, 99, 97, 116, 105, 111, 110, 47, 106, 97, 118, 97, 115, 99, 114, 105, 112, 116]⟩, .string ⟨#[97, 112, 112, 108, 105, 99, 97, 116, 105, 111, 110, 47, 120, 45, 101, 99, 109, 97, 115, 99, 114, 105, 112, 116]⟩, .string ⟨#[97, 112, 112, 108, 105, 99, 97, 116, 105, 111, 110, 47, 120, 45, 106, 97, 118, 97, 115, 99, 114, 105, 112, 116]⟩, .string ⟨#[116, 101, 120, 116, 47, 101, 99, 109, 97, 115, 99, 114, 105, 112, 116]⟩, .string ⟨#[116, 101, 120, 116, 47, 106, 97, 118, 97, 115, 99, 114, 105, 112, 116]⟩, .string ⟨#[116, 101, 120, 116, 47, 106, 97, 118, 97, 115, 99, 114, 105, 112, 116, 49, 46, 48]⟩, .string ⟨#[116, 101, 120, 116, 47, 106, 97, 118, 97, 115, 99, 114, 105, 112, 116, 49, 46, 49]⟩, .string ⟨#[116, 101, 120, 116, 47, 106, 97, 118, 97, 115, 99, 114, 105, 112, 116, 49, 46, 50]⟩, .string ⟨#[116, 101, 120, 116, 47, 106, 97, 118, 97, 115, 99, 114, 105, 112, 116, 49, 46, 51]⟩, .string ⟨#[116, 101, 120, 116, 47, 106, 97, 118, 97, 115, 99, 114, 105, 112, 116, 49, 46, 52]⟩, .string ⟨#[116, 101, 120, 116, 47, 106, 97, 118, 97, 115, 99, 114, 105, 112, 116, 49, 46, 53]⟩, .string ⟨#[116, 101, 120, 116, 47, 106, 115, 99, 114, 105, 112, 116]⟩, .string ⟨#[116, 101, 120, 116, 47, 108, 105, 118, 101, 115, 99, 114, 105, 112, 116]⟩, .string ⟨#[116, 101, 120, 116, 47, 120, 45, 101, 99, 109, 97, 115, 99, 114, 105, 112, 116]⟩, .string ⟨#[116, 101, 120, 116, 47, 120, 45, 106, 97, 118, 97, 115, 99, 114, 105, 112, 116]⟩] 9)).heap.size (X.alloc (.cells #[.string ⟨#[97, 112, 112, 108, 105, 99, 97, 116, 105, 111, 110, 47, 101, 99, 109, 97, 115, 99, 114, 105, 112, 116]⟩, .string ⟨#[97, 112, 112, 108, 105, 99, 97, 116, 105, 111, 110, 47, 106, 97, 118, 97, 115, 99, 114, 105, 112, 116]⟩, .string ⟨#[97, 112, 112, 108, 105, 99, 97, 116, 105, 111, 110, 47, 120, 45, 101, 99, 109, 97, 115, 99, 114, 105, 112, 116]⟩, .string ⟨#[97, 112, 112, 108, 105, 99, 97, 116, 105, 111, 110, 47, 120, 45, 106, 97, 118, 97, 115, 99, 114, 105, 112, 116]⟩, .string ⟨#[116, 101, 120, 116, 47, 101, 99, 109, 97, 115, 99, 114, 105, 112, 116]⟩, .string ⟨#[116, 101, 120, 116, 47, 106, 97, 118, 97, 115, 99, 114, 105, 112, 116]⟩, .string ⟨#[116, 101, 120, 116, 47, 106, 97, 118, 97, 115, 99, 114, 105, 112, 116, 49, 46, 48]⟩, .string ⟨#[116, 101, 120, 116, 47, 106, 97, 118, 97, 115, 99, 114, 105, 112, 116, 49, 46, 49]⟩, .string ⟨#[116, 101, 120, 116, 47, 106, 97, 118, 97, 115, 99, 114, 105, 112, 116, 49, 46, 50]⟩, .string ⟨#[116, 101, 120, 116, 47, 106, 97, 118, 97, 115, 99, 114, 105, 112, 116, 49, 46, 51]⟩, .string ⟨#[116, 101, 120, 116, 47, 106, 97, 118, 97, 115, 99, 114, 105, 112, 116, 49, 46, 52]⟩, .string ⟨#[116, 101, 120, 116, 47, 106, 97, 118, 97, 115, 99, 114, 105, 112, 116, 49, 46, 53]⟩, .string ⟨#[116, 101, 120, 116, 47, 106, 115, 99, 114, 105, 112, 116]⟩, .string ⟨#[116, 101, 120, 116, 47, 108, 105, 118, 101, 115, 99, 114, 105, 112, 116]⟩, .string ⟨#[116, 101, 120, 116, 47, 120, 45, 101, 99, 109, 97, 115, 99, 114, 105, 112, 116]⟩, .string ⟨#[116, 101, 120, 116, 47, 120, 45, 106, 97, 118, 97, 115, 99, 114, 105, 112, 116]⟩] 9)) w') := Lib.hid (fun X => rone_new (essB t u) [⟨#[97, 112, 112, 108, 105, 99, 97, 116, 105, 111, 110, 47, 101, 99, 109, 97, 115, 99, 114, 105, 112, 116]⟩, ⟨#[97, 112, 112, 108, 105, 99, 97, 116, 105, 111, 110, 47, 106, 97, 118, 97, 115, 99, 114, 105, 112, 116]⟩, ⟨#[97, 112, 112, 108, 105, 99, 97, 116, 105, 111, 110, 47, 120, 45, 101, 99, 109, 97, 115, 99, 114, 105, 112, 116]⟩, ⟨#[97, 112, 112, 108, 105, 99, 97, 116, 105, 111, 110, 47, 120, 45, 106, 97, 118, 97, 115, 99, 114, 105, 112, 116]⟩, ⟨#[116, 101, 120, 116, 47, 101, 99, 109, 97, 115, 99, 114, 105, 112, 116]⟩, ⟨#[116, 101, 120, 116, 47, 106, 97, 118, 97, 115, 99, 114, 105, 112, 116]⟩, ⟨#[116, 101, 120, 116, 47, 106, 97, 118, 97, 115, 99, 114, 105, 112, 116, 49, 46, 48]⟩, ⟨#[116, 101, 120, 116, 47, 106, 97, 118, 97, 115, 99, 114, 105, 112, 116, 49, 46, 49]⟩, ⟨#[116, 101, 120, 116, 47, 106, 97, 118, 97, 115, 99, 114, 105, 112, 116, 49, 46, 50]⟩, ⟨#[116, 101, 120, 116, 47, 106, 97, 118, 97, 115, 99, 114, 105, 112, 116, 49, 46, 51]⟩, ⟨#[116, 101, 120, 116, 47, 106, 97, 118, 97, 115, 99, 114, 105, 112, 116, 49, 46, 52]⟩, ⟨#[116, 101, 120, 116, 47, 106, 97, 118, 97, 115, 99, 114, 105, 112, 116, 49, 46, 53]⟩, ⟨#[116, 101, 120, 116, 47, 106, 115, 99, 114, 105, 112, 116]⟩, ⟨#[116, 101, 120, 116, 47, 108, 105, 118, 101, 115, 99, 114, 105, 112, 116]⟩, ⟨#[116, 101, 120, 116, 47, 120, 45, 101, 99, 109, 97, 115, 99, 114, 105, 112, 116]⟩, ⟨#[116, 101, 120, 116, 47, 120, 45, 106, 97, 118, 97, 115, 99, 114, 105, 112, 116]⟩] X (by decide))
  unfold rScriptB
  generalize oneB (essB t u) [⟨#[97, 112, 112, 108, 105, 99, 97, 116, 105, 111, 110, 47, 101, 99, 109, 97, 115, 99, 114, 105, 112, 116]⟩, ⟨#[97, 112, 112, 108, 105, 99, 97, 116, 105, 111, 110, 47, 106, 97, 118, 97, 115, 99, 114, 105, 112, 116]⟩, ⟨#[97, 112, 112, 108, 105, 99, 97, 116, 105, 111, 110, 47, 120, 45, 101, 99, 109, 97, 115, 99, 114, 105, 112, 116]⟩, ⟨#[97, 112, 112, 108, 105, 99, 97, 116, 105, 111, 110, 47, 120, 45, 106, 97, 118, 97, 115, 99, 114, 105, 112, 116]⟩, ⟨#[116, 101, 120, 116, 47, 101, 99, 109, 97, 115, 99, 114, 105, 112, 116]⟩, ⟨#[116, 101, 120, 116, 47, 106, 97, 118, 97, 115, 99, 114, 105, 112, 116]⟩, ⟨#[116, 101, 120, 116, 47, 106, 97, 118, 97, 115, 99, 114, 105, 112, 116, 49, 46, 48]⟩, ⟨#[116, 101, 120, 116, 47, 106, 97, 118, 97, 115, 99, 114, 105, 112, 116, 49, 46, 49]⟩, ⟨#[116, 101, 120, 116, 47, 106, 97, 118, 97, 115, 99, 114, 105, 112, 116, 49, 46, 50]⟩, ⟨#[116, 101, 120, 116, 47, 106, 97, 118, 97, 115, 99, 114, 105, 112, 116, 49, 46, 51]⟩, ⟨#[116, 101, 120, 116, 47, 106, 97, 118, 97, 115, 99, 114, 105, 112, 116, 49, 46, 52]⟩, ⟨#[116, 101, 120, 116, 47, 106, 97, 118, 97, 115, 99, 114, 105, 112, 116, 49, 46, 53]⟩, ⟨#[116, 101, 120, 116, 47, 106, 115, 99, 114, 105, 112, 116]⟩, ⟨#[116, 101, 120, 116, 47, 108, 105, 118, 101, 115, 99, 114, 105, 112, 116]⟩, ⟨#[116, 101, 120, 116, 47, 120, 45, 101, 99, 109, 97, 115, 99, 114, 105, 112, 116]⟩, ⟨#[116, 101, 120, 116, 47, 120, 45, 106, 97, 118, 97, 115, 99, 114, 105, 112, 116]⟩] = b0 at *
  generalize essB t u = E at *
  go_enter Tryd.func15, Tryd.ntmps15
  go_upto_region 1 with fail
  have hb : Below (w.alloc (.cells #[.string t, .string u, .slice A n c] 24)).heap.size (w.alloc (.cells #[.string t, .string u, .slice A n c] 24)) (w.alloc (.cells #[.string t, .string u, .slice A n c] 24)) := Below.refl _ _
  cases b0 <;>
    (skip
     go_wp2_with (first | (go_at_call 46; (with_reducible refine Calls.mono (HE.out _) ?_); rintro e w' ⟨rfl, hb2⟩; replace hb := below_trans hb hb2; clear hb2; obtain ⟨d0, d1, d2⟩ := box_on hb) | (go_at_call 45; (refine Calls.mono (H0.out _) ?_); rintro e w' ⟨rfl, hb2⟩; replace hb := below_trans (hb.alloc hb.size _) hb2; clear hb2; obtain ⟨d0, d1, d2⟩ := box_on hb))
     go_ret
     exact ⟨rfl, (below_box w _).trans (hb.mono (by simp))⟩)

def rMediaB (t u : ByteArray) : Bool := isB t ⟨#[97, 117, 100, 105, 111]⟩ || isB t ⟨#[118, 105, 100, 101, 111]⟩ || isB (essB t u) ⟨#[97, 112, 112, 108, 105, 99, 97, 116, 105, 111, 110, 47, 111, 103, 103]⟩

set_option maxHeartbeats 4000000 in
set_option maxRecDepth 20000 in
theorem rMedia_says : Says 21 rMediaB := by
  intro t u A n c w hT ht hu
  have HE := Lib.hid (fun (w1 : World) => rEssence_any t u A n c w1 ht hu)
  have hes : (essB t u).size ≤ 3000 := by rw [essB_size]; omega
  have q0 : (t.toList == [97, 117, 100, 105, 111]) = isB t ⟨#[97, 117, 100, 105, 111]⟩ := by rw [isB_eq, Lib.toList_data (⟨#[97, 117, 100, 105, 111]⟩ : ByteArray)]
  have q1 : (t.toList == [118, 105, 100, 101, 111]) = isB t ⟨#[118, 105, 100, 101, 111]⟩ := by rw [isB_eq, Lib.toList_data (⟨#[118, 105, 100, 101, 111]⟩ : ByteArray)]
  have q2 : ((essB t u).toList == [97, 112, 112, 108, 105, 99, 97, 116, 105, 111, 110, 47, 111, 103, 103]) = isB (essB t u) ⟨#[97, 112, 112, 108, 105, 99, 97, 116, 105, 111, 110, 47, 111, 103, 103]⟩ := by rw [isB_eq, Lib.toList_data (⟨#[97, 112, 112, 108, 105, 99, 97, 116, 105, 111, 110, 47, 111, 103, 103]⟩ : ByteArray)]
  unfold rMediaB
  generalize isB t ⟨#[97, 117, 100, 105, 111]⟩ = b0 at *
  generalize isB t ⟨#[118, 105, 100, 101, 111]⟩ = b1 at *
  generalize isB (essB t u) ⟨#[97, 112, 112, 108, 105, 99, 97, 116, 105, 111, 110, 47, 111, 103, 103]⟩ = b2 at *
  generalize essB t u = E at *
  go_enter Tryd.func21, Tryd.ntmps21
  go_upto_region 1 with fail
  have hb : Below (w.alloc (.cells #[.string t, .string u, .slice A n c] 24)).heap.size (w.alloc (.cells #[.string t, .string u, .slice A n c] 24)) (w.alloc (.cells #[.string t, .string u, .slice A n c] 24)) := Below.refl _ _
  cases b0 <;> cases b1 <;> cases b2 <;>
    (skip
     have n0 := q0
     (try rw [beq_eq_false_iff_ne, ne_eq] at n0)
     (try rw [beq_iff_eq] at n0)
     have n1 := q1
     (try rw [beq_eq_false_iff_ne, ne_eq] at n1)
     (try rw [beq_iff_eq] at n1)
     have n2 := q2
     (try rw [beq_eq_false_iff_ne, ne_eq] at n2)
     (try rw [beq_iff_eq] at n2)
     go_wp2_with (first | (go_at_call 46; (with_reducible refine Calls.mono (HE.out _) ?_); rintro e w' ⟨rfl, hb2⟩; replace hb := below_trans hb hb2; clear hb2; obtain ⟨d0, d1, d2⟩ := box_on hb))
     go_ret
     exact ⟨rfl, (below_box w _).trans (hb.mono (by simp))⟩)

def rFontB (t u : ByteArray) : Bool := isB t ⟨#[102, 111, 110, 116]⟩ || oneB (essB t u) [⟨#[97, 112, 112, 108, 105, 99, 97, 116, 105, 111, 110, 47, 102, 111, 110, 116, 45, 99, 102, 102]⟩, ⟨#[97, 112, 112, 108, 105, 99, 97, 116, 105, 111, 110, 47, 102, 111, 110, 116, 45, 111, 102, 102]⟩, ⟨#[97, 112, 112, 108, 105, 99, 97, 116, 105, 111, 110, 47, 102, 111, 110, 116, 45, 115, 102, 110, 116]⟩, ⟨#[97, 112, 112, 108, 105, 99, 97, 116, 105, 111, 110, 47, 102, 111, 110, 116, 45, 116, 116, 102]⟩, ⟨#[97, 112, 112, 108, 105, 99, 97, 116, 105, 111, 110, 47, 102, 111, 110, 116, 45, 119, 111, 102, 102]⟩, ⟨#[97, 112, 112, 108, 105, 99, 97, 116, 105, 111, 110, 47, 118, 110, 100, 46, 109, 115, 45, 102, 111, 110, 116, 111, 98, 106, 101, 99, 116]⟩, ⟨#[97, 112, 112, 108, 105, 99, 97, 116, 105, 111, 110, 47, 118, 110, 100, 46, 109, 115, 45, 111, 112, 101, 110, 116, 121, 112, 101]⟩]

set_option maxHeartbeats 4000000 in
set_option maxRecDepth 20000 in
theorem rFont_says : Says 23 rFontB := by
  intro t u A n c w hT ht hu
  have HE := Lib.hid (fun (w1 : World) => rEssence_any t u A n c w1 ht hu)
  have hes : (essB t u).size ≤ 3000 := by rw [essB_size]; omega
  have q0 : (t.toList == [102, 111, 110, 116]) = isB t ⟨#[102, 111, 110, 116]⟩ := by rw [isB_eq, Lib.toList_data (⟨#[102, 111, 110, 116]⟩ : ByteArray)]
  have H1 : Hid (∀ X : World, Calls Tryd.prog 45 #[.string (essB t u), .slice (some ⟨X.heap.size, 0, none⟩) 7 7] (X.alloc (.cells #[.string ⟨#[97, 112, 112, 108, 105, 99, 97, 116, 105, 111, 110, 47, 102, 111, 110, 116, 45, 99, 102, 102]⟩, .string ⟨#[97, 112, 112, 108, 105, 99, 97, 116, 105, 111, 110, 47, 102, 111, 110, 116, 45, 111, 102, 102]⟩, .string ⟨#[97, 112, 112, 108, 105, 99, 97, 116, 105, 111, 110, 47, 102, 111, 110, 116, 45, 115, 102, 110, 116]⟩, .string ⟨#[97, 112, 112, 108, 105, 99, 97, 116, 105, 111, 110, 47, 102, 111, 110, 116, 45, 116, 116, 102]⟩, .string ⟨#[97, 112, 112, 108, 105, 99, 97, 116, 105, 111, 110, 47, 102, 111, 110, 116, 45, 119, 111, 102, 102]⟩, .string ⟨#[97, 112, 112, 108, 105, 99, 97, 116, 105, 111, 110, 47, 118, 110, 100, 46, 109, 115, 45, 102, 111, 110, 116, 111, 98, 106, 101, 99, 116]⟩, .string ⟨#[97, 112, 112, 108, 105, 99, 97, 116, 105, 111, 110, 47, 118, 110, 100, 46, 109, 115, 45, 111, 112, 101, 110, 116, 121, 112, 101]⟩] 9)) fun e w' => e = .returned (.bool (oneB (essB t u) [⟨#[97, 112, 112, 108, 105, 99, 97, 116, 105, 111, 110, 47, 102, 111, 110, 116, 45, 99, 102, 102]⟩, ⟨#[97, 112, 112, 108, 105, 99, 97, 116, 105, 111, 110, 47, 102, 111, 110, 116, 45, 111, 102, 102]⟩, ⟨#[97, 112, 112, 108, 105, 99, 97, 116, 105, 111, 110, 47, 102, 111, 110, 116, 45, 115, 102, 110, 116]⟩, ⟨#[97, 112, 112, 108, 105, 99, 97, 116, 105, 111, 110, 47, 102, 111, 110, 116, 45, 116, 116, 102]⟩, ⟨#[97, 112, 112, 108, 105, 99, 97, 116, 105, 111, 110, 47, 102, 111, 110, 116, 45, 119, 111, 102, 102]⟩, ⟨#[97, 112, 112, 108, 105, 99, 97, 116, 105, 111, 110, 47, 118, 110, 100, 46, 109, 115, 45, 102, 111, 110, 116, 111, 98, 106, 101, 99, 116]⟩, ⟨#[97, 112, 112, 108, 105, 99, 97, 116, 105, 111, 110, 47, 118, 110, 100, 46, 109, 115, 45, 111, 112, 101, 110, 116, 121, 112, 101]⟩])) ∧ Below (X.alloc (.cells #[.string ⟨#[97, 112, 112, 108, 105, 99, 97, 116, 105, 111, 110, 47, 102, 111, 110, 116, 45, 99, 102, 102]⟩, .string ⟨#[97, 112, 112, 108, 105, 99, 97, 116, 105, 111, 110, 47, 102, 111, 110, 116, 45, 111, 102, 102]⟩, .string ⟨#[97, 112, 112, 108, 105, 99, 97, 116, 105, 111, 110, 47, 102, 111, 110, 116, 45, 115, 102, 110, 116]⟩, .string ⟨#[97, 112, 112, 108, 105, 99, 97, 116, 105, 111, 110, 47, 102, 111, 110, 116, 45, 116, 116, 102]⟩, .string ⟨#[97, 112, 112, 108, 105, 99, 97, 116, 105, 111, 110, 47, 102, 111, 110, 116, 45, 119, 111, 102, 102]⟩, .string ⟨#[97, 112, 112, 108, 105, 99, 97, 116, 105, 111, 110, 47, 118, 110, 100, 46, 109, 115, 45, 102, 111, 110, 116, 111, 98, 106, 101, 99, 116]⟩, .string ⟨#[97, 112, 112, 108, 105, 99, 97, 116, 105, 111, 110, 47, 118, 110, 100, 46, 109, 115, 45, 111, 112, 101, 110, 116, 121, 112, 101]⟩] 9)).heap.size (X.alloc (.cells #[.string ⟨#[97, 112, 112, 108, 105, 99, 97, 116, 105, 111, 110, 47, 102, 111, 110, 116, 45, 99, 102, 102]⟩, .string ⟨#[97, 112, 112, 108, 105, 99, 97, 116, 105, 111, 110, 47, 102, 111, 110, 116, 45, 111, 102, 102]⟩, .string ⟨#[97, 112, 112, 108, 105, 99, 97, 116, 105, 111, 110, 47, 102, 111, 110, 116, 45, 115, 102, 110, 116]⟩, .string ⟨#[97, 112, 112, 108, 105, 99, 97, 116, 105, 111, 110, 47, 102, 111, 110, 116, 45, 116, 116, 102]⟩, .string ⟨#[97, 112, 112, 108, 105, 99, 97, 116, 105, 111, 110, 47, 102, 111, 110, 116, 45, 119, 111, 102, 102]⟩, .string ⟨#[97, 112, 112, 108, 105, 99, 97, 116, 105, 111, 110, 47, 118, 110, 100, 46, 109, 115, 45, 102, 111, 110, 116, 111, 98, 106, 101, 99, 116]⟩, .string ⟨#[97, 112, 112, 108, 105, 99, 97, 116, 105, 111, 110, 47, 118, 110, 100, 46, 109, 115, 45, 111, 112, 101, 110, 116, 121, 112, 101]⟩] 9)) w') := Lib.hid (fun X => rone_new (essB t u) [⟨#[97, 112, 112, 108, 105, 99, 97, 116, 105, 111, 110, 47, 102, 111, 110, 116, 45, 99, 102, 102]⟩, ⟨#[97, 112, 112, 108, 105, 99, 97, 116, 105, 111, 110, 47, 102, 111, 110, 116, 45, 111, 102, 102]⟩, ⟨#[97, 112, 112, 108, 105, 99, 97, 116, 105, 111, 110, 47, 102, 111, 110, 116, 45, 115, 102, 110, 116]⟩, ⟨#[97, 112, 112, 108, 105, 99, 97, 116, 105, 111, 110, 47, 102, 111, 110, 116, 45, 116, 116, 102]⟩, ⟨#[97, 112, 112, 108, 105, 99, 97, 116, 105, 111, 110, 47, 102, 111, 110, 116, 45, 119, 111, 102, 102]⟩, ⟨#[97, 112, 112, 108, 105, 99, 97, 116, 105, 111, 110, 47, 118, 110, 100, 46, 109, 115, 45, 102, 111, 110, 116, 111, 98, 106, 101, 99, 116]⟩, ⟨#[97, 112, 112, 108, 105, 99, 97, 116, 105, 111, 110, 47, 118, 110, 100, 46, 109, 115, 45, 111, 112, 101, 110, 116, 121, 112, 101]⟩] X (by decide))
  unfold rFontB
  generalize isB t ⟨#[102, 111, 110, 116]⟩ = b0 at *
  generalize oneB (essB t u) [⟨#[97, 112, 112, 108, 105, 99, 97, 116, 105, 111, 110, 47, 102, 111, 110, 116, 45, 99, 102, 102]⟩, ⟨#[97, 112, 112, 108, 105, 99, 97, 116, 105, 111, 110, 47, 102, 111, 110, 116, 45, 111, 102, 102]⟩, ⟨#[97, 112, 112, 108, 105, 99, 97, 116, 105, 111, 110, 47, 102, 111, 110, 116, 45, 115, 102, 110, 116]⟩, ⟨#[97, 112, 112, 108, 105, 99, 97, 116, 105, 111, 110, 47, 102, 111, 110, 116, 45, 116, 116, 102]⟩, ⟨#[97, 112, 112, 108, 105, 99, 97, 116, 105, 111, 110, 47, 102, 111, 110, 116, 45, 119, 111, 102, 102]⟩, ⟨#[97, 112, 112, 108, 105, 99, 97, 116, 105, 111, 110, 47, 118, 110, 100, 46, 109, 115, 45, 102, 111, 110, 116, 111, 98, 106, 101, 99, 116]⟩, ⟨#[97, 112, 112, 108, 105, 99, 97, 116, 105, 111, 110, 47, 118, 110, 100, 46, 109, 115, 45, 111, 112, 101, 110, 116, 121, 112, 101]⟩] = b1 at *
  generalize essB t u = E at *
  go_enter Tryd.func23, Tryd.ntmps23
  go_upto_region 1 with fail
  have hb : Below (w.alloc (.cells #[.string t, .string u, .slice A n c] 24)).heap.size (w.alloc (.cells #[.string t, .string u, .slice A n c] 24)) (w.alloc (.cells #[.string t, .string u, .slice A n c] 24)) := Below.refl _ _
  cases b0 <;> cases b1 <;>
    (skip
     have n0 := q0
     (try rw [beq_eq_false_iff_ne, ne_eq] at n0)
     (try rw [beq_iff_eq] at n0)
     go_wp2_with (first | (go_at_call 46; (with_reducible refine Calls.mono (HE.out _) ?_); rintro e w' ⟨rfl, hb2⟩; replace hb := below_trans hb hb2; clear hb2; obtain ⟨d0, d1, d2⟩ := box_on hb) | (go_at_call 45; (refine Calls.mono (H1.out _) ?_); rintro e w' ⟨rfl, hb2⟩; replace hb := below_trans (hb.alloc hb.size _) hb2; clear hb2; obtain ⟨d0, d1, d2⟩ := box_on hb))
     go_ret
     exact ⟨rfl, (below_box w _).trans (hb.mono (by simp))⟩)

def rZipB (t u : ByteArray) : Bool := Lib.hasSuffix u.data.toList [43, 122, 105, 112] || isB (essB t u) ⟨#[97, 112, 112, 108, 105, 99, 97, 116, 105, 111, 110, 47, 122, 105, 112]⟩

set_option maxHeartbeats 4000000 in
set_option maxRecDepth 20000 in
theorem rZip_says : Says 25 rZipB := by
  intro t u A n c w hT ht hu
  have HE := Lib.hid (fun (w1 : World) => rEssence_any t u A n c w1 ht hu)
  have hes : (essB t u).size ≤ 3000 := by rw [essB_size]; omega
  have H0 := Lib.hid (fun (w1 : World) => rends_any u ⟨#[43, 122, 105, 112]⟩ w1 hu (by decide))
  rw [show (⟨#[43, 122, 105, 112]⟩ : ByteArray).data.toList = [43, 122, 105, 112] from rfl] at H0
  have q1 : ((essB t u).toList == [97, 112, 112, 108, 105, 99, 97, 116, 105, 111, 110, 47, 122, 105, 112]) = isB (essB t u) ⟨#[97, 112, 112, 108, 105, 99, 97, 116, 105, 111, 110, 47, 122, 105, 112]⟩ := by rw [isB_eq, Lib.toList_data (⟨#[97, 112, 112, 108, 105, 99, 97, 116, 105, 111, 110, 47, 122, 105, 112]⟩ : ByteArray)]
  unfold rZipB
  generalize Lib.hasSuffix u.data.toList [43, 122, 105, 112] = b0 at *
  generalize isB (essB t u) ⟨#[97, 112, 112, 108, 105, 99, 97, 116, 105, 111, 110, 47, 122, 105, 112]⟩ = b1 at *
  generalize essB t u = E at *
  go_enter Tryd.func25, Tryd.ntmps25
  go_upto_region 1 with fail
  have hb : Below (w.alloc (.cells #[.string t, .string u, .slice A n c] 24)).heap.size (w.alloc (.cells #[.string t, .string u, .slice A n c] 24)) (w.alloc (.cells #[.string t, .string u, .slice A n c] 24)) := Below.refl _ _
  cases b0 <;> cases b1 <;>
    (skip
     have n1 := q1
     (try rw [beq_eq_false_iff_ne, ne_eq] at n1)
     (try rw [beq_iff_eq] at n1)
     go_wp2_with (first | (go_at_call 46; (with_reducible refine Calls.mono (HE.out _) ?_); rintro e w' ⟨rfl, hb2⟩; replace hb := below_trans hb hb2; clear hb2; obtain ⟨d0, d1, d2⟩ := box_on hb) | (go_at_call 44; (with_reducible refine Calls.mono (H0.out _) ?_); rintro e w' ⟨rfl, rfl⟩))
     go_ret
     exact ⟨rfl, (below_box w _).trans (hb.mono (by simp))⟩)

def rArchiveB (t u : ByteArray) : Bool := oneB (essB t u) [⟨#[97, 112, 112, 108, 105, 99, 97, 116, 105, 111, 110, 47, 120, 45, 114, 97, 114, 45, 99, 111, 109, 112, 114, 101, 115, 115, 101, 100]⟩, ⟨#[97, 112, 112, 108, 105, 99, 97, 116, 105, 111, 110, 47, 122, 105, 112]⟩, ⟨#[97, 112, 112, 108, 105, 99, 97, 116, 105, 111, 110, 47, 120, 45, 103, 122, 105, 112]⟩]

set_option maxHeartbeats 4000000 in
set_option maxRecDepth 20000 in
theorem rArchive_says : Says 27 rArchiveB := by
  intro t u A n c w hT ht hu
  have HE := Lib.hid (fun (w1 : World) => rEssence_any t u A n c w1 ht hu)
  have hes : (essB t u).size ≤ 3000 := by rw [essB_size]; omega
  have H0 : Hid (∀ X : World, Calls Tryd.prog 45 #[.string (essB t u), .slice (some ⟨X.heap.size, 0, none⟩) 3 3] (X.alloc (.cells #[.string ⟨#[97, 112, 112, 108, 105, 99, 97, 116, 105, 111, 110, 47, 120, 45, 114, 97, 114, 45, 99, 111, 109, 112, 114, 101, 115, 115, 101, 100]⟩, .string ⟨#[97, 112, 112, 108, 105, 99, 97, 116, 105, 111, 110, 47, 122, 105, 112]⟩, .string ⟨#[97, 112, 112, 108, 105, 99, 97, 116, 105, 111, 110, 47, 120, 45, 103, 122, 105, 112]⟩] 9)) fun e w' => e = .returned (.bool (oneB (essB t u) [⟨#[97, 112, 112, 108, 105, 99, 97, 116, 105, 111, 110, 47, 120, 45, 114, 97, 114, 45, 99, 111, 109, 112, 114, 101, 115, 115, 101, 100]⟩, ⟨#[97, 112, 112, 108, 105, 99, 97, 116, 105, 111, 110, 47, 122, 105, 112]⟩, ⟨#[97, 112, 112, 108, 105, 99, 97, 116, 105, 111, 110, 47, 120, 45, 103, 122, 105, 112]⟩])) ∧ Below (X.alloc (.cells #[.string ⟨#[97, 112, 112, 108, 105, 99, 97, 116, 105, 111, 110, 47, 120, 45, 114, 97, 114, 45, 99, 111, 109, 112, 114, 101, 115, 115, 101, 100]⟩, .string ⟨#[97, 112, 112, 108, 105, 99, 97, 116, 105, 111, 110, 47, 122, 105, 112]⟩, .string ⟨#[97, 112, 112, 108, 105, 99, 97, 116, 105, 111, 110, 47, 120, 45, 103, 122, 105, 112]⟩] 9)).heap.size (X.alloc (.cells #[.string ⟨#[97, 112, 112, 108, 105, 99, 97, 116, 105, 111, 110, 47, 120, 45, 114, 97, 114, 45, 99, 111, 109, 112, 114, 101, 115, 115, 101, 100]⟩, .string ⟨#[97, 112, 112, 108, 105, 99, 97, 116, 105, 111, 110, 47, 122, 105, 112]⟩, .string ⟨#[97, 112, 112, 108, 105, 99, 97, 116, 105, 111, 110, 47, 120, 45, 103, 122, 105, 112]⟩] 9)) w') := Lib.hid (fun X => rone_new (essB t u) [⟨#[97, 112, 112, 108, 105, 99, 97, 116, 105, 111, 110, 47, 120, 45, 114, 97, 114, 45, 99, 111, 109, 112, 114, 101, 115, 115, 101, 100]⟩, ⟨#[97, 112, 112, 108, 105, 99, 97, 116, 105, 111, 110, 47, 122, 105, 112]⟩, ⟨#[97, 112, 112, 108, 105, 99, 97, 116, 105, 111, 110, 47, 120, 45, 103, 122, 105, 112]⟩] X (by decide))
  unfold rArchiveB
  generalize oneB (essB t u) [⟨#[97, 112, 112, 108, 105, 99, 97, 116, 105, 111, 110, 47, 120, 45, 114, 97, 114, 45, 99, 111, 109, 112, 114, 101, 115, 115, 101, 100]⟩, ⟨#[97, 112, 112, 108, 105, 99, 97, 116, 105, 111, 110, 47, 122, 105, 112]⟩, ⟨#[97, 112, 112, 108, 105, 99, 97, 116, 105, 111, 110, 47, 120, 45, 103, 122, 105, 112]⟩] = b0 at *
  generalize essB t u = E at *
  go_enter Tryd.func27, Tryd.ntmps27
  go_upto_region 1 with fail
  have hb : Below (w.alloc (.cells #[.string t, .string u, .slice A n c] 24)).heap.size (w.alloc (.cells #[.string t, .string u, .slice A n c] 24)) (w.alloc (.cells #[.string t, .string u, .slice A n c] 24)) := Below.refl _ _
  cases b0 <;>
    (skip
     go_wp2_with (first | (go_at_call 46; (with_reducible refine Calls.mono (HE.out _) ?_); rintro e w' ⟨rfl, hb2⟩; replace hb := below_trans hb hb2; clear hb2; obtain ⟨d0, d1, d2⟩ := box_on hb) | (go_at_call 45; (refine Calls.mono (H0.out _) ?_); rintro e w' ⟨rfl, hb2⟩; replace hb := below_trans (hb.alloc hb.size _) hb2; clear hb2; obtain ⟨d0, d1, d2⟩ := box_on hb))
     go_ret
     exact ⟨rfl, (below_box w _).trans (hb.mono (by simp))⟩)

def rScriptableB (t u : ByteArray) : Bool := rXmlB t u || rHtmlB t u || isB (essB t u) ⟨#[97, 112, 112, 108, 105, 99, 97, 116, 105, 111, 110, 47, 112, 100, 102]⟩

set_option maxHeartbeats 4000000 in
set_option maxRecDepth 20000 in
theorem rScriptable_says : Says 17 rScriptableB := by
  intro t u A n c w hT ht hu
  have HE := Lib.hid (fun (w1 : World) => rEssence_any t u A n c w1 ht hu)
  have hes : (essB t u).size ≤ 3000 := by rw [essB_size]; omega
  have H0 := Lib.hid (rXml_says.at (t := t) (u := u) hT ht hu A n c (below_box w (.cells #[.string t, .string u, .slice A n c] 24)))
  have H1 := Lib.hid (rHtml_says.at (t := t) (u := u) hT ht hu A n c (below_box w (.cells #[.string t, .string u, .slice A n c] 24)))
  have q2 : ((essB t u).toList == [97, 112, 112, 108, 105, 99, 97, 116, 105, 111, 110, 47, 112, 100, 102]) = isB (essB t u) ⟨#[97, 112, 112, 108, 105, 99, 97, 116, 105, 111, 110, 47, 112, 100, 102]⟩ := by rw [isB_eq, Lib.toList_data (⟨#[97, 112, 112, 108, 105, 99, 97, 116, 105, 111, 110, 47, 112, 100, 102]⟩ : ByteArray)]
  unfold rScriptableB
  generalize rXmlB t u = b0 at *
  generalize rHtmlB t u = b1 at *
  generalize isB (essB t u) ⟨#[97, 112, 112, 108, 105, 99, 97, 116, 105, 111, 110, 47, 112, 100, 102]⟩ = b2 at *
  generalize essB t u = E at *
  go_enter Tryd.func17, Tryd.ntmps17
  go_upto_region 1 with fail
  have hb : Below (w.alloc (.cells #[.string t, .string u, .slice A n c] 24)).heap.size (w.alloc (.cells #[.string t, .string u, .slice A n c] 24)) (w.alloc (.cells #[.string t, .string u, .slice A n c] 24)) := Below.refl _ _
  cases b0 <;> cases b1 <;> cases b2 <;>
    (skip
     have n2 := q2
     (try rw [beq_eq_false_iff_ne, ne_eq] at n2)
     (try rw [beq_iff_eq] at n2)
     go_wp2_with (first | (go_at_call 46; (with_reducible refine Calls.mono (HE.out _) ?_); rintro e w' ⟨rfl, hb2⟩; replace hb := below_trans hb hb2; clear hb2; obtain ⟨d0, d1, d2⟩ := box_on hb) | (go_at_call 11; (with_reducible refine Calls.mono (H0.out _ hb) ?_); rintro e w' ⟨rfl, hb2⟩; replace hb := below_trans hb hb2; clear hb2; obtain ⟨d0, d1, d2⟩ := box_on hb) | (go_at_call 13; (with_reducible refine Calls.mono (H1.out _ hb) ?_); rintro e w' ⟨rfl, hb2⟩; replace hb := below_trans hb hb2; clear hb2; obtain ⟨d0, d1, d2⟩ := box_on hb))
     go_ret
     exact ⟨rfl, (below_box w _).trans (hb.mono (by simp))⟩)

def rSafeB (t u : ByteArray) : Bool := rScriptB t u || oneB (essB t u) [⟨#[116, 101, 120, 116, 47, 99, 115, 115]⟩, ⟨#[105, 109, 97, 103, 101, 47, 115, 118, 103, 43, 120, 109, 108]⟩]

set_option maxHeartbeats 4000000 in
set_option maxRecDepth 20000 in
theorem rSafe_says : Says 34 rSafeB := by
  intro t u A n c w hT ht hu
  have HE := Lib.hid (fun (w1 : World) => rEssence_any t u A n c w1 ht hu)
  have hes : (essB t u).size ≤ 3000 := by rw [essB_size]; omega
  have H0 := Lib.hid (rScript_says.at (t := t) (u := u) hT ht hu A n c (below_box w (.cells #[.string t, .string u, .slice A n c] 24)))
  have H1 : Hid (∀ X : World, Calls Tryd.prog 45 #[.string (essB t u), .slice (some ⟨X.heap.size, 0, none⟩) 2 2] (X.alloc (.cells #[.string ⟨#[116, 101, 120, 116, 47, 99, 115, 115]⟩, .string ⟨#[105, 109, 97, 103, 101, 47, 115, 118, 103, 43, 120, 109, 108]⟩] 9)) fun e w' => e = .returned (.bool (oneB (essB t u) [⟨#[116, 101, 120, 116, 47, 99, 115, 115]⟩, ⟨#[105, 109, 97, 103, 101, 47, 115, 118, 103, 43, 120, 109, 108]⟩])) ∧ Below (X.alloc (.cells #[.string ⟨#[116, 101, 120, 116, 47, 99, 115, 115]⟩, .string ⟨#[105, 109, 97, 103, 101, 47, 115, 118, 103, 43, 120, 109, 108]⟩] 9)).heap.size (X.alloc (.cells #[.string ⟨#[116, 101, 120, 116, 47, 99, 115, 115]⟩, .string ⟨#[105, 109, 97, 103, 101, 47, 115, 118, 103, 43, 120, 109, 108]⟩] 9)) w') := Lib.hid (fun X => rone_new (essB t u) [⟨#[116, 101, 120, 116, 47, 99, 115, 115]⟩, ⟨#[105, 109, 97, 103, 101, 47, 115, 118, 103, 43, 120, 109, 108]⟩] X (by decide))
  unfold rSafeB
  generalize rScriptB t u = b0 at *
  generalize oneB (essB t u) [⟨#[116, 101, 120, 116, 47, 99, 115, 115]⟩, ⟨#[105, 109, 97, 103, 101, 47, 115, 118, 103, 43, 120, 109, 108]⟩] = b1 at *
  generalize essB t u = E at *
  go_enter Tryd.func34, Tryd.ntmps34
  go_upto_region 1 with fail
  have hb : Below (w.alloc (.cells #[.string t, .string u, .slice A n c] 24)).heap.size (w.alloc (.cells #[.string t, .string u, .slice A n c] 24)) (w.alloc (.cells #[.string t, .string u, .slice A n c] 24)) := Below.refl _ _
  cases b0 <;> cases b1 <;>
    (skip
     go_wp2_with (first | (go_at_call 46; (with_reducible refine Calls.mono (HE.out _) ?_); rintro e w' ⟨rfl, hb2⟩; replace hb := below_trans hb hb2; clear hb2; obtain ⟨d0, d1, d2⟩ := box_on hb) | (go_at_call 15; (with_reducible refine Calls.mono (H0.out _ hb) ?_); rintro e w' ⟨rfl, hb2⟩; replace hb := below_trans hb hb2; clear hb2; obtain ⟨d0, d1, d2⟩ := box_on hb) | (go_at_call 45; (refine Calls.mono (H1.out _) ?_); rintro e w' ⟨rfl, hb2⟩; replace hb := below_trans (hb.alloc hb.size _) hb2; clear hb2; obtain ⟨d0, d1, d2⟩ := box_on hb))
     go_ret
     exact ⟨rfl, (below_box w _).trans (hb.mono (by simp))⟩)

def rNeverB (t u : ByteArray) : Bool := oneB (essB t u) [⟨#[97, 112, 112, 108, 105, 99, 97, 116, 105, 111, 110, 47, 100, 97, 115, 104, 43, 120, 109, 108]⟩, ⟨#[97, 112, 112, 108, 105, 99, 97, 116, 105, 111, 110, 47, 103, 122, 105, 112]⟩, ⟨#[97, 112, 112, 108, 105, 99, 97, 116, 105, 111, 110, 47, 109, 115, 101, 120, 99, 101, 108]⟩, ⟨#[97, 112, 112, 108, 105, 99, 97, 116, 105, 111, 110, 47, 109, 115, 112, 111, 119, 101, 114, 112, 111, 105, 110, 116]⟩, ⟨#[97, 112, 112, 108, 105, 99, 97, 116, 105, 111, 110, 47, 109, 115, 119, 111, 114, 100]⟩, ⟨#[97, 112, 112, 108, 105, 99, 97, 116, 105, 111, 110, 47, 112, 100, 102]⟩, ⟨#[97, 112, 112, 108, 105, 99, 97, 116, 105, 111, 110, 47, 120, 45, 103, 122, 105, 112]⟩, ⟨#[97, 112, 112, 108, 105, 99, 97, 116, 105, 111, 110, 47, 120, 45, 112, 114, 111, 116, 111, 98, 117, 102]⟩, ⟨#[97, 112, 112, 108, 105, 99, 97, 116, 105, 111, 110, 47, 122, 105, 112]⟩, ⟨#[97, 112, 112, 108, 105, 99, 97, 116, 105, 111, 110, 47, 118, 110, 100, 46, 97, 112, 112, 108, 101, 46, 109, 112, 101, 103, 117, 114, 108]⟩, ⟨#[97, 112, 112, 108, 105, 99, 97, 116, 105, 111, 110, 47, 118, 110, 100, 46, 109, 115, 45, 101, 120, 99, 101, 108]⟩, ⟨#[97, 112, 112, 108, 105, 99, 97, 116, 105, 111, 110, 47, 118, 110, 100, 46, 109, 115, 45, 112, 111, 119, 101, 114, 112, 111, 105, 110, 116]⟩, ⟨#[97, 112, 112, 108, 105, 99, 97, 116, 105, 111, 110, 47, 118, 110, 100, 46, 109, 115, 45, 119, 111, 114, 100]⟩, ⟨#[97, 112, 112, 108, 105, 99, 97, 116, 105, 111, 110, 47, 118, 110, 100, 46, 111, 112, 101, 110, 120, 109, 108, 102, 111, 114, 109, 97, 116, 115, 45, 111, 102, 102, 105, 99, 101, 100, 111, 99, 117, 109, 101, 110, 116, 46, 119, 111, 114, 100, 112, 114, 111, 99, 101, 115, 115, 105, 110, 103, 109, 108, 46, 100, 111, 99, 117, 109, 101, 110, 116]⟩, ⟨#[97, 117, 100, 105, 111, 47, 109, 112, 101, 103, 117, 114, 108]⟩, ⟨#[116, 101, 120, 116, 47, 99, 115, 118]⟩, ⟨#[116, 101, 120, 116, 47, 101, 118, 101, 110, 116, 45, 115, 116, 114, 101, 97, 109]⟩, ⟨#[116, 101, 120, 116, 47, 118, 116, 116]⟩, ⟨#[109, 117, 108, 116, 105, 112, 97, 114, 116, 47, 98, 121, 116, 101, 114, 97, 110, 103, 101, 115]⟩, ⟨#[109, 117, 108, 116, 105, 112, 97, 114, 116, 47, 115, 105, 103, 110, 101, 100]⟩]

set_option maxHeartbeats 4000000 in
set_option maxRecDepth 20000 in
theorem rNever_says : Says 36 rNeverB := by
  intro t u A n c w hT ht hu
  have HE := Lib.hid (fun (w1 : World) => rEssence_any t u A n c w1 ht hu)
  have hes : (essB t u).size ≤ 3000 := by rw [essB_size]; omega
  have H0 : Hid (∀ X : World, Calls Tryd.prog 45 #[.string (essB t u), .slice (some ⟨X.heap.size, 0, none⟩) 20 20] (X.alloc (.cells #[.string ⟨#[97, 112, 112, 108, 105, 99, 97, 116, 105, 111, 110, 47, 100, 97, 115, 104, 43, 120, 109, 108]⟩, .string ⟨#[97, 112, 112, 108, 105, 99, 97, 116, 105, 111, 110, 47, 103, 122, 105, 112]⟩, .string ⟨#[97, 112, 112, 108, 105, 99, 97, 116, 105, 111, 110, 47, 109, 115, 101, 120, 99, 101, 108]⟩, .string ⟨#[97, 112, 112, 108, 105, 99, 97, 116, 105, 111, 110, 47, 109, 115, 112, 111, 119, 101, 114, 112, 111, 105, 110, 116]⟩, .string ⟨#[97, 112, 112, 108, 105, 99, 97, 116, 105, 111, 110, 47, 109, 115, 119, 111, 114, 100]⟩, .string ⟨#[97, 112, 112, 108, 105, 99, 97, 116, 105, 111, 110, 47, 112, 100, 102]⟩, .string ⟨#[97, 112, 112, 108, 105, 99, 97, 116, 105, 111, 110, 47, 120, 45, 103, 122, 105, 112]⟩, .string ⟨#[97, 112, 112, 108, 105, 99, 97, 116, 105, 111, 110, 47, 120, 45, 112, 114, 111, 116, 111, 98, 117, 102]⟩, .string ⟨#[97, 112, 112, 108, 105, 99, 97, 116, 105, 111, 110, 47, 122, 105, 112]⟩, .string ⟨#[97, 112, 112, 108, 105, 99, 97, 116, 105, 111, 110, 47, 118, 110, 100, 46, 97, 112, 112, 108, 101, 46, 109, 112, 101, 103, 117, 114, 108]⟩, .string ⟨#[97, 112, 112, 108, 105, 99, 97, 116, 105, 111, 110, 47, 118, 110, 100, 46, 109, 115, 45, 101, 120, 99, 101, 108]⟩, .string ⟨#[97, 112, 112, 108, 105, 99, 97, 116, 105, 111, 110, 47, 118, 110, 100, 46, 109, 115, 45, 112, 111, 119, 101, 114, 112, 111, 105, 110, 116]⟩, .string ⟨#[97, 112, 112, 108, 105, 99, 97, 116, 105, 111, 110, 47, 118, 110, 100, 46, 109, 115, 45, 119, 111, 114, 100]⟩, .string ⟨#[97, 112, 112, 108, 105, 99, 97, 116, 105, 111, 110, 47, 118, 110, 100, 46, 111, 112, 101, 110, 120, 109, 108, 102, 111, 114, 109, 97, 116, 115, 45, 111, 102, 102, 105, 99, 101, 100, 111, 99, 117, 109, 101, 110, 116, 46, 119, 111, 114, 100, 112, 114, 111, 99, 101, 115, 115, 105, 110, 103, 109, 108, 46, 100, 111, 99, 117, 109, 101, 110, 116]⟩, .string ⟨#[97, 117, 100, 105, 111, 47, 109, 112, 101, 103, 117, 114, 108]⟩, .string ⟨#[116, 101, 120, 116, 47, 99, 115, 118]⟩, .string ⟨#[116, 101, 120, 116, 47, 101, 118, 101, 110, 116, 45, 115, 116, 114, 101, 97, 109]⟩, .string ⟨#[116, 101, 120, 116, 47, 118, 116, 116]⟩, .string ⟨#[109, 117, 108, 116, 105, 112, 97, 114, 116, 47, 98, 121, 116, 101, 114, 97, 110, 103, 101, 115]⟩, .string ⟨#[109, 117, 108, 116, 105, 112, 97, 114, 116, 47, 115, 105, 103, 110, 101, 100]⟩] 9)) fun e w' => e = .returned (.bool (oneB (essB t u) [⟨#[97, 112, 112, 108, 105, 99, 97, 116, 105, 111, 110, 47, 100, 97, 115, 104, 43, 120, 109, 108]⟩, ⟨#[97, 112, 112, 108, 105, 99, 97, 116, 105, 111, 110, 47, 103, 122, 105, 112]⟩, ⟨#[97, 112, 112, 108, 105, 99, 97, 116, 105, 111, 110, 47, 109, 115, 101, 120, 99, 101, 108]⟩, ⟨#[97, 112, 112, 108, 105, 99, 97, 116, 105, 111, 110, 47, 109, 115, 112, 111, 119, 101, 114, 112, 111, 105, 110, 116]⟩, ⟨#[97, 112, 112, 108, 105, 99, 97, 116, 105, 111, 110, 47, 109, 115, 119, 111, 114, 100]⟩, ⟨#[97, 112, 112, 108, 105, 99, 97, 116, 105, 111, 110, 47, 112, 100, 102]⟩, ⟨#[97, 112, 112, 108, 105, 99, 97, 116, 105, 111, 110, 47, 120, 45, 103, 122, 105, 112]⟩, ⟨#[97, 112, 112, 108, 105, 99, 97, 116, 105, 111, 110, 47, 120, 45, 112, 114, 111, 116, 111, 98, 117, 102]⟩, ⟨#[97, 112, 112, 108, 105, 99, 97, 116, 105, 111, 110, 47, 122, 105, 112]⟩, ⟨#[97, 112, 112, 108, 105, 99, 97, 116, 105, 111, 110, 47, 118, 110, 100, 46, 97, 112, 112, 108, 101, 46, 109, 112, 101, 103, 117, 114, 108]⟩, ⟨#[97, 112, 112, 108, 105, 99, 97, 116, 105, 111, 110, 47, 118, 110, 100, 46, 109, 115, 45, 101, 120, 99, 101, 108]⟩, ⟨#[97, 112, 112, 108, 105, 99, 97, 116, 105, 111, 110, 47, 118, 110, 100, 46, 109, 115, 45, 112, 111, 119, 101, 114, 112, 111, 105, 110, 116]⟩, ⟨#[97, 112, 112, 108, 105, 99, 97, 116, 105, 111, 110, 47, 118, 110, 100, 46, 109, 115, 45, 119, 111, 114, 100]⟩, ⟨#[97, 112, 112, 108, 105, 99, 97, 116, 105, 111, 110, 47, 118, 110, 100, 46, 111, 112, 101, 110, 120, 109, 108, 102, 111, 114, 109, 97, 116, 115, 45, 111, 102, 102, 105, 99, 101, 100, 111, 99, 117, 109, 101, 110, 116, 46, 119, 111, 114, 100, 112, 114, 111, 99, 101, 115, 115, 105, 110, 103, 109, 108, 46, 100, 111, 99, 117, 109, 101, 110, 116]⟩, ⟨#[97, 117, 100, 105, 111, 47, 109, 112, 101, 103, 117, 114, 108]⟩, ⟨#[116, 101, 120, 116, 47, 99, 115, 118]⟩, ⟨#[116, 101, 120, 116, 47, 101, 118, 101, 110, 116, 45, 115, 116, 114, 101, 97, 109]⟩, ⟨#[116, 101, 120, 116, 47, 118, 116, 116]⟩, ⟨#[109, 117, 108, 116, 105, 112, 97, 114, 116, 47, 98, 121, 116, 101, 114, 97, 110, 103, 101, 115]⟩, ⟨#[109, 117, 108, 116, 105, 112, 97, 114, 116, 47, 115, 105, 103, 110, 101, 100]⟩])) ∧ Below (X.alloc (.cells #[.string ⟨#[97, 112, 112, 108, 105, 99, 97, 116, 105, 111, 110, 47, 100, 97, 115, 104, 43, 120, 109, 108]⟩, .string ⟨#[97, 112, 112, 108, 105, 99, 97, 116, 105, 111, 110, 47, 103, 122, 105, 112]⟩, .string ⟨#[97, 112, 112, 108, 105, 99, 97, 116, 105, 111, 110, 47, 109, 115, 101, 120, 99, 101, 108]⟩, .string ⟨#[97, 112, 112, 108, 105, 99, 97, 116, 105, 111, 110, 47, 109, 115, 112, 111, 119, 101, 114, 112, 111, 105, 110, 116]⟩, .string ⟨#[97, 112, 112, 108, 105, 99, 97, 116, 105, 111, 110, 47, 109, 115, 119, 111, 114, 100]⟩, .string ⟨#[97, 112, 112, 108, 105, 99, 97, 116, 105, 111, 110, 47, 112, 100, 102]⟩, .string ⟨#[97, 112, 112, 108, 105, 99, 97, 116, 105, 111, 110, 47, 120, 45, 103, 122, 105, 112]⟩, .string ⟨#[97, 112, 112, 108, 105, 99, 97, 116, 105, 111, 110, 47, 120, 45, 112, 114, 111, 116, 111, 98, 117, 102]⟩, .string ⟨#[97, 112, 112, 108, 105, 99, 97, 116, 105, 111, 110, 47, 122, 105, 112]⟩, .string ⟨#[97, 112, 112, 108, 105, 99, 97, 116, 105, 111, 110, 47, 118, 110, 100, 46, 97, 112, 112, 108, 101, 46, 109, 112, 101, 103, 117, 114, 108]⟩, .string ⟨#[97, 112, 112, 108, 105, 99, 97, 116, 105, 111, 110, 47, 118, 110, 100, 46, 109, 115, 45, 101, 120, 99, 101, 108]⟩, .string ⟨#[97, 112, 112, 108, 105, 99, 97, 116, 105, 111, 110, 47, 118, 110, 100, 46, 109, 115, 45, 112, 111, 119, 101, 114, 112, 111, 105, 110, 116]⟩, .string ⟨#[97, 112, 112, 108, 105, 99, 97, 116, 105, 111, 110, 47, 118, 110, 100, 46, 109, 115, 45, 119, 111, 114, 100]⟩, .string ⟨#[97, 112, 112, 108, 105, 99, 97, 116, 105, 111, 110, 47, 118, 110, 100, 46, 111, 112, 101, 110, 120, 109, 108, 102, 111, 114, 109, 97, 116, 115, 45, 111, 102, 102, 105, 99, 101, 100, 111, 99, 117, 109, 101, 110, 116, 46, 119, 111, 114, 100, 112, 114, 111, 99, 101, 115, 115, 105, 110, 103, 109, 108, 46, 100, 111, 99, 117, 109, 101, 110, 116]⟩, .string ⟨#[97, 117, 100, 105, 111, 47, 109, 112, 101, 103, 117, 114, 108]⟩, .string ⟨#[116, 101, 120, 116, 47, 99, 115, 118]⟩, .string ⟨#[116, 101, 120, 116, 47, 101, 118, 101, 110, 116, 45, 115, 116, 114, 101, 97, 109]⟩, .string ⟨#[116, 101, 120, 116, 47, 118, 116, 116]⟩, .string ⟨#[109, 117, 108, 116, 105, 112, 97, 114, 116, 47, 98, 121, 116, 101, 114, 97, 110, 103, 101, 115]⟩, .string ⟨#[109, 117, 108, 116, 105, 112, 97, 114, 116, 47, 115, 105, 103, 110, 101, 100]⟩] 9)).heap.size (X.alloc (.cells #[.string ⟨#[97, 112, 112, 108, 105, 99, 97, 116, 105, 111, 110, 47, 100, 97, 115, 104, 43, 120, 109, 108]⟩, .string ⟨#[97, 112, 112, 108, 105, 99, 97, 116, 105, 111, 110, 47, 103, 122, 105, 112]⟩, .string ⟨#[97, 112, 112, 108, 105, 99, 97, 116, 105, 111, 110, 47, 109, 115, 101, 120, 99, 101, 108]⟩, .string ⟨#[97, 112, 112, 108, 105, 99, 97, 116, 105, 111, 110, 47, 109, 115, 112, 111, 119, 101, 114, 112, 111, 105, 110, 116]⟩, .string ⟨#[97, 112, 112, 108, 105, 99, 97, 116, 105, 111, 110, 47, 109, 115, 119, 111, 114, 100]⟩, .string ⟨#[97, 112, 112, 108, 105, 99, 97, 116, 105, 111, 110, 47, 112, 100, 102]⟩, .string ⟨#[97, 112, 112, 108, 105, 99, 97, 116, 105, 111, 110, 47, 120, 45, 103, 122, 105, 112]⟩, .string ⟨#[97, 112, 112, 108, 105, 99, 97, 116, 105, 111, 110, 47, 120, 45, 112, 114, 111, 116, 111, 98, 117, 102]⟩, .string ⟨#[97, 112, 112, 108, 105, 99, 97, 116, 105, 111, 110, 47, 122, 105, 112]⟩, .string ⟨#[97, 112, 112, 108, 105, 99, 97, 116, 105, 111, 110, 47, 118, 110, 100, 46, 97, 112, 112, 108, 101, 46, 109, 112, 101, 103, 117, 114, 108]⟩, .string ⟨#[97, 112, 112, 108, 105, 99, 97, 116, 105, 111, 110, 47, 118, 110, 100, 46, 109, 115, 45, 101, 120, 99, 101, 108]⟩, .string ⟨#[97, 112, 112, 108, 105, 99, 97, 116, 105, 111, 110, 47, 118, 110, 100, 46, 109, 115, 45, 112, 111, 119, 101, 114, 112, 111, 105, 110, 116]⟩, .string ⟨#[97, 112, 112, 108, 105, 99, 97, 116, 105, 111, 110, 47, 118, 110, 100, 46, 109, 115, 45, 119, 111, 114, 100]⟩, .string ⟨#[97, 112, 112, 108, 105, 99, 97, 116, 105, 111, 110, 47, 118, 110, 100, 46, 111, 112, 101, 110, 120, 109, 108, 102, 111, 114, 109, 97, 116, 115, 45, 111, 102, 102, 105, 99, 101, 100, 111, 99, 117, 109, 101, 110, 116, 46, 119, 111, 114, 100, 112, 114, 111, 99, 101, 115, 115, 105, 110, 103, 109, 108, 46, 100, 111, 99, 117, 109, 101, 110, 116]⟩, .string ⟨#[97, 117, 100, 105, 111, 47, 109, 112, 101, 103, 117, 114, 108]⟩, .string ⟨#[116, 101, 120, 116, 47, 99, 115, 118]⟩, .string ⟨#[116, 101, 120, 116, 47, 101, 118, 101, 110, 116, 45, 115, 116, 114, 101, 97, 109]⟩, .string ⟨#[116, 101, 120, 116, 47, 118, 116, 116]⟩, .string ⟨#[109, 117, 108, 116, 105, 112, 97, 114, 116, 47, 98, 121, 116, 101, 114, 97, 110, 103, 101, 115]⟩, .string ⟨#[109, 117, 108, 116, 105, 112, 97, 114, 116, 47, 115, 105, 103, 110, 101, 100]⟩] 9)) w') := Lib.hid (fun X => rone_new (essB t u) [⟨#[97, 112, 112, 108, 105, 99, 97, 116, 105, 111, 110, 47, 100, 97, 115, 104, 43, 120, 109, 108]⟩, ⟨#[97, 112, 112, 108, 105, 99, 97, 116, 105, 111, 110, 47, 103, 122, 105, 112]⟩, ⟨#[97, 112, 112, 108, 105, 99, 97, 116, 105, 111, 110, 47, 109, 115, 101, 120, 99, 101, 108]⟩, ⟨#[97, 112, 112, 108, 105, 99, 97, 116, 105, 111, 110, 47, 109, 115, 112, 111, 119, 101, 114, 112, 111, 105, 110, 116]⟩, ⟨#[97, 112, 112, 108, 105, 99, 97, 116, 105, 111, 110, 47, 109, 115, 119, 111, 114, 100]⟩, ⟨#[97, 112, 112, 108, 105, 99, 97, 116, 105, 111, 110, 47, 112, 100, 102]⟩, ⟨#[97, 112, 112, 108, 105, 99, 97, 116, 105, 111, 110, 47, 120, 45, 103, 122, 105, 112]⟩, ⟨#[97, 112, 112, 108, 105, 99, 97, 116, 105, 111, 110, 47, 120, 45, 112, 114, 111, 116, 111, 98, 117, 102]⟩, ⟨#[97, 112, 112, 108, 105, 99, 97, 116, 105, 111, 110, 47, 122, 105, 112]⟩, ⟨#[97, 112, 112, 108, 105, 99, 97, 116, 105, 111, 110, 47, 118, 110, 100, 46, 97, 112, 112, 108, 101, 46, 109, 112, 101, 103, 117, 114, 108]⟩, ⟨#[97, 112, 112, 108, 105, 99, 97, 116, 105, 111, 110, 47, 118, 110, 100, 46, 109, 115, 45, 101, 120, 99, 101, 108]⟩, ⟨#[97, 112, 112, 108, 105, 99, 97, 116, 105, 111, 110, 47, 118, 110, 100, 46, 109, 115, 45, 112, 111, 119, 101, 114, 112, 111, 105, 110, 116]⟩, ⟨#[97, 112, 112, 108, 105, 99, 97, 116, 105, 111, 110, 47, 118, 110, 100, 46, 109, 115, 45, 119, 111, 114, 100]⟩, ⟨#[97, 112, 112, 108, 105, 99, 97, 116, 105, 111, 110, 47, 118, 110, 100, 46, 111, 112, 101, 110, 120, 109, 108, 102, 111, 114, 109, 97, 116, 115, 45, 111, 102, 102, 105, 99, 101, 100, 111, 99, 117, 109, 101, 110, 116, 46, 119, 111, 114, 100, 112, 114, 111, 99, 101, 115, 115, 105, 110, 103, 109, 108, 46, 100, 111, 99, 117, 109, 101, 110, 116]⟩, ⟨#[97, 117, 100, 105, 111, 47, 109, 112, 101, 103, 117, 114, 108]⟩, ⟨#[116, 101, 120, 116, 47, 99, 115, 118]⟩, ⟨#[116, 101, 120, 116, 47, 101, 118, 101, 110, 116, 45, 115, 116, 114, 101, 97, 109]⟩, ⟨#[116, 101, 120, 116, 47, 118, 116, 116]⟩, ⟨#[109, 117, 108, 116, 105, 112, 97, 114, 116, 47, 98, 121, 116, 101, 114, 97, 110, 103, 101, 115]⟩, ⟨#[109, 117, 108, 116, 105, 112, 97, 114, 116, 47, 115, 105, 103, 110, 101, 100]⟩] X (by decide))
  unfold rNeverB
  generalize oneB (essB t u) [⟨#[97, 112, 112, 108, 105, 99, 97, 116, 105, 111, 110, 47, 100, 97, 115, 104, 43, 120, 109, 108]⟩, ⟨#[97, 112, 112, 108, 105, 99, 97, 116, 105, 111, 110, 47, 103, 122, 105, 112]⟩, ⟨#[97, 112, 112, 108, 105, 99, 97, 116, 105, 111, 110, 47, 109, 115, 101, 120, 99, 101, 108]⟩, ⟨#[97, 112, 112, 108, 105, 99, 97, 116, 105, 111, 110, 47, 109, 115, 112, 111, 119, 101, 114, 112, 111, 105, 110, 116]⟩, ⟨#[97, 112, 112, 108, 105, 99, 97, 116, 105, 111, 110, 47, 109, 115, 119, 111, 114, 100]⟩, ⟨#[97, 112, 112, 108, 105, 99, 97, 116, 105, 111, 110, 47, 112, 100, 102]⟩, ⟨#[97, 112, 112, 108, 105, 99, 97, 116, 105, 111, 110, 47, 120, 45, 103, 122, 105, 112]⟩, ⟨#[97, 112, 112, 108, 105, 99, 97, 116, 105, 111, 110, 47, 120, 45, 112, 114, 111, 116, 111, 98, 117, 102]⟩, ⟨#[97, 112, 112, 108, 105, 99, 97, 116, 105, 111, 110, 47, 122, 105, 112]⟩, ⟨#[97, 112, 112, 108, 105, 99, 97, 116, 105, 111, 110, 47, 118, 110, 100, 46, 97, 112, 112, 108, 101, 46, 109, 112, 101, 103, 117, 114, 108]⟩, ⟨#[97, 112, 112, 108, 105, 99, 97, 116, 105, 111, 110, 47, 118, 110, 100, 46, 109, 115, 45, 101, 120, 99, 101, 108]⟩, ⟨#[97, 112, 112, 108, 105, 99, 97, 116, 105, 111, 110, 47, 118, 110, 100, 46, 109, 115, 45, 112, 111, 119, 101, 114, 112, 111, 105, 110, 116]⟩, ⟨#[97, 112, 112, 108, 105, 99, 97, 116, 105, 111, 110, 47, 118, 110, 100, 46, 109, 115, 45, 119, 111, 114, 100]⟩, ⟨#[97, 112, 112, 108, 105, 99, 97, 116, 105, 111, 110, 47, 118, 110, 100, 46, 111, 112, 101, 110, 120, 109, 108, 102, 111, 114, 109, 97, 116, 115, 45, 111, 102, 102, 105, 99, 101, 100, 111, 99, 117, 109, 101, 110, 116, 46, 119, 111, 114, 100, 112, 114, 111, 99, 101, 115, 115, 105, 110, 103, 109, 108, 46, 100, 111, 99, 117, 109, 101, 110, 116]⟩, ⟨#[97, 117, 100, 105, 111, 47, 109, 112, 101, 103, 117, 114, 108]⟩, ⟨#[116, 101, 120, 116, 47, 99, 115, 118]⟩, ⟨#[116, 101, 120, 116, 47, 101, 118, 101, 110, 116, 45, 115, 116, 114, 101, 97, 109]⟩, ⟨#[116, 101, 120, 116, 47, 118, 116, 116]⟩, ⟨#[109, 117, 108, 116, 105, 112, 97, 114, 116, 47, 98, 121, 116, 101, 114, 97, 110, 103, 101, 115]⟩, ⟨#[109, 117, 108, 116, 105, 112, 97, 114, 116, 47, 115, 105, 103, 110, 101, 100]⟩] = b0 at *
  generalize essB t u = E at *
  go_enter Tryd.func36, Tryd.ntmps36
  go_upto_region 1 with fail
  have hb : Below (w.alloc (.cells #[.string t, .string u, .slice A n c] 24)).heap.size (w.alloc (.cells #[.string t, .string u, .slice A n c] 24)) (w.alloc (.cells #[.string t, .string u, .slice A n c] 24)) := Below.refl _ _
  cases b0 <;>
    (skip
     go_wp2_with (first | (go_at_call 46; (with_reducible refine Calls.mono (HE.out _) ?_); rintro e w' ⟨rfl, hb2⟩; replace hb := below_trans hb hb2; clear hb2; obtain ⟨d0, d1, d2⟩ := box_on hb) | (go_at_call 45; (refine Calls.mono (H0.out _) ?_); rintro e w' ⟨rfl, hb2⟩; replace hb := below_trans (hb.alloc hb.size _) hb2; clear hb2; obtain ⟨d0, d1, d2⟩ := box_on hb))
     go_ret
     exact ⟨rfl, (below_box w _).trans (hb.mono (by simp))⟩)

def rListedB (t u : ByteArray) : Bool := rHtmlB t u || rJsonB t u || (rXmlB t u && !(isB (essB t u) ⟨#[105, 109, 97, 103, 101, 47, 115, 118, 103, 43, 120, 109, 108]⟩))

set_option maxHeartbeats 4000000 in
set_option maxRecDepth 20000 in
theorem rListed_says : Says 37 rListedB := by
  intro t u A n c w hT ht hu
  have HE := Lib.hid (fun (w1 : World) => rEssence_any t u A n c w1 ht hu)
  have hes : (essB t u).size ≤ 3000 := by rw [essB_size]; omega
  have H0 := Lib.hid (rHtml_says.at (t := t) (u := u) hT ht hu A n c (below_box w (.cells #[.string t, .string u, .slice A n c] 24)))
  have H1 := Lib.hid (rJson_says.at (t := t) (u := u) hT ht hu A n c (below_box w (.cells #[.string t, .string u, .slice A n c] 24)))
  have H2 := Lib.hid (rXml_says.at (t := t) (u := u) hT ht hu A n c (below_box w (.cells #[.string t, .string u, .slice A n c] 24)))
  have q3 : ((essB t u).toList == [105, 109, 97, 103, 101, 47, 115, 118, 103, 43, 120, 109, 108]) = isB (essB t u) ⟨#[105, 109, 97, 103, 101, 47, 115, 118, 103, 43, 120, 109, 108]⟩ := by rw [isB_eq, Lib.toList_data (⟨#[105, 109, 97, 103, 101, 47, 115, 118, 103, 43, 120, 109, 108]⟩ : ByteArray)]
  unfold rListedB
  generalize rHtmlB t u = b0 at *
  generalize rJsonB t u = b1 at *
  generalize rXmlB t u = b2 at *
  generalize isB (essB t u) ⟨#[105, 109, 97, 103, 101, 47, 115, 118, 103, 43, 120, 109, 108]⟩ = b3 at *
  generalize essB t u = E at *
  go_enter Tryd.func37, Tryd.ntmps37
  go_upto_region 1 with fail
  have hb : Below (w.alloc (.cells #[.string t, .string u, .slice A n c] 24)).heap.size (w.alloc (.cells #[.string t, .string u, .slice A n c] 24)) (w.alloc (.cells #[.string t, .string u, .slice A n c] 24)) := Below.refl _ _
  cases b0 <;> cases b1 <;> cases b2 <;> cases b3 <;>
    (skip
     have n3 := q3
     (try rw [beq_eq_false_iff_ne, ne_eq] at n3)
     (try rw [beq_iff_eq] at n3)
     go_wp2_with (first | (go_at_call 46; (with_reducible refine Calls.mono (HE.out _) ?_); rintro e w' ⟨rfl, hb2⟩; replace hb := below_trans hb hb2; clear hb2; obtain ⟨d0, d1, d2⟩ := box_on hb) | (go_at_call 13; (with_reducible refine Calls.mono (H0.out _ hb) ?_); rintro e w' ⟨rfl, hb2⟩; replace hb := below_trans hb hb2; clear hb2; obtain ⟨d0, d1, d2⟩ := box_on hb) | (go_at_call 9; (with_reducible refine Calls.mono (H1.out _ hb) ?_); rintro e w' ⟨rfl, hb2⟩; replace hb := below_trans hb hb2; clear hb2; obtain ⟨d0, d1, d2⟩ := box_on hb) | (go_at_call 11; (with_reducible refine Calls.mono (H2.out _ hb) ?_); rintro e w' ⟨rfl, hb2⟩; replace hb := below_trans hb hb2; clear hb2; obtain ⟨d0, d1, d2⟩ := box_on hb))
     go_ret
     exact ⟨rfl, (below_box w _).trans (hb.mono (by simp))⟩)

end Go.Proofs.YtigclegknofhmaaDoor
