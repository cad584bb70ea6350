/-
  Walks of package group: what each of its functions says of a type.
-/
import Derived.Test.YtigclegknofhmaaDoorGroupA
namespace Go.Proofs.YtigclegknofhmaaDoor
open Go.RowKit
set_option linter.unusedSimpArgs false
set_option linter.unusedVariables false

/-- A function that tells of a type by its two texts. -/
def Says (K : FuncId) (p : ByteArray → ByteArray → Bool) : Prop :=
  ∀ (t u : ByteArray) (A : Option Addr) (n c : Nat) (w : World), Tab w → t.size ≤ 1000 → u.size ≤ 1000 →
    Calls Tryd.prog K #[.agg #[.string t, .string u, .slice A n c]] w fun e w' => e = .returned (.bool (p t u)) ∧ Below w.heap.size w w'

theorem Says.at {K : FuncId} {p : ByteArray → ByteArray → Bool} (h : Says K p) {t u : ByteArray} {w W : World} (hT : Tab w) (ht : t.size ≤ 1000) (hu : u.size ≤ 1000) (A : Option Addr) (n c : Nat) (hB : Below w.heap.size w W) :
    ∀ w1, Below W.heap.size W w1 → Calls Tryd.prog K #[.agg #[.string t, .string u, .slice A n c]] w1 fun e w' => e = .returned (.bool (p t u)) ∧ Below w1.heap.size w1 w' :=
  fun w1 hb => h t u A n c w1 (hT.on (hB.trans (hb.mono hB.size))) ht hu

theorem under_at (kind subs : ByteArray) (hS : Asc subs) {t u : ByteArray} {w W : World} (hT : Tab w) (A : Option Addr) (n c : Nat) (hB : Below w.heap.size w W) :
    ∀ w1, Below W.heap.size W w1 → Calls Tryd.prog 43 #[.agg #[.string t, .string u, .slice A n c], .string kind, .string subs] w1 fun e w' => e = .returned (.bool (underB t u kind subs)) ∧ Below w1.heap.size w1 w' :=
  fun w1 hb => under_any t u kind subs A n c w1 (hT.on (hB.trans (hb.mono hB.size))) hS

theorem asc_of (s : ByteArray) (h : (decide (s.size < 1000) && s.data.toList.all fun b => decide (b.toNat < 128)) = true) : Asc s := by
  simp only [Bool.and_eq_true, decide_eq_true_eq, List.all_eq_true] at h
  exact ⟨h.1, fun j b hj => h.2 b (List.mem_of_getElem? hj)⟩

theorem box_on {w w' : World} {a b c : Value} {T : TypeId} (hb : Below (w.alloc (.cells #[a, b, c] T)).heap.size (w.alloc (.cells #[a, b, c] T)) w') :
    w'.cell? ⟨w.heap.size, 0, none⟩ = some a ∧ w'.cell? ⟨w.heap.size, 1, none⟩ = some b ∧ w'.cell? ⟨w.heap.size, 2, none⟩ = some c := by
  refine ⟨?_, ?_, ?_⟩ <;> (rw [cell_below hb (by simp)]; simp [go_sem])

def isB (a b : ByteArray) : Bool := decide (a = b)

theorem isB_eq (a b : ByteArray) : isB a b = (a.toList == b.toList) := by
  rw [Lib.toList_data, Lib.toList_data]
  unfold isB
  by_cases h : a = b
  · simp [h]
  · have hne : (a.data.toList == b.data.toList) = false := beq_eq_false_iff_ne.2 fun e => h (bytes_ext e)
    rw [hne]
    exact decide_eq_false h

/-- A type's two names. -/
def essB (t u : ByteArray) : ByteArray := t ++ ⟨#[47]⟩ ++ u

theorem essB_size (t u : ByteArray) : (essB t u).size = t.size + 1 + u.size := by
  unfold essB
  rw [ByteArray.size_append, ByteArray.size_append]
  rfl

set_option maxHeartbeats 1000000 in
theorem Essence_any (t u : ByteArray) (A : Option Addr) (n c : Nat) (w : World) (ht : t.size ≤ 1000) (hu : u.size ≤ 1000) :
    Calls Tryd.prog 59 #[.agg #[.string t, .string u, .slice A n c]] w fun e w' => e = .returned (.string (essB t u)) ∧ Below w.heap.size w w' := by
  have h1 : t.size + (⟨#[47]⟩ : ByteArray).size ≤ 9223372036854775807 := by rw [show (⟨#[47]⟩ : ByteArray).size = 1 from rfl]; omega
  have h2 : (t ++ (⟨#[47]⟩ : ByteArray)).size + u.size ≤ 9223372036854775807 := by rw [ByteArray.size_append, show (⟨#[47]⟩ : ByteArray).size = 1 from rfl]; omega
  have inner : ∀ w1 : World, Calls Tryd.prog 65 #[.agg #[.string t, .string u, .slice A n c]] w1 fun e w' => e = .returned (.string (essB t u)) ∧ Below w1.heap.size w1 w' := by
    intro w1
    go_enter Tryd.func65, Tryd.ntmps65
    go_wp2_with fail
    go_ret
    exact ⟨rfl, below_box _ _⟩
  have HI := Lib.hid inner
  clear inner
  go_enter Tryd.func59, Tryd.ntmps59
  go_wp2_with (go_at_call 65; refine (HI.out _).mono ?_; rintro e w' ⟨rfl, hb⟩)
  go_ret
  exact ⟨rfl, (below_box w _).trans (hb.mono (by simp))⟩

set_option maxHeartbeats 1000000 in
theorem is_any (t u s : ByteArray) (A : Option Addr) (n c : Nat) (w : World) (ht : t.size ≤ 1000) (hu : u.size ≤ 1000) :
    Calls Tryd.prog 51 #[.agg #[.string t, .string u, .slice A n c], .string s] w fun e w' => e = .returned (.bool (isB (essB t u) s)) ∧ Below w.heap.size w w' := by
  have HE := Lib.hid (fun (w1 : World) => Essence_any t u A n c w1 ht hu)
  rw [isB_eq]
  generalize essB t u = E at *
  go_enter Tryd.func51, Tryd.ntmps51
  go_wp2_with (go_at_call 59; refine (HE.out _).mono ?_; rintro e w' ⟨rfl, hb⟩)
  all_goals (go_ret; exact ⟨by simp_all, (below_box w _).trans (hb.mono (by simp))⟩)

def jsonB (t u : ByteArray) : Bool := Lib.hasSuffix u.data.toList [43, 106, 115, 111, 110] || underB t u ⟨#[97, 112, 112, 108, 105, 99, 97, 116, 105, 111, 110]⟩ ⟨#[106, 115, 111, 110]⟩ || underB t u ⟨#[116, 101, 120, 116]⟩ ⟨#[106, 115, 111, 110]⟩

set_option maxHeartbeats 4000000 in
set_option maxRecDepth 20000 in
theorem Json_says : Says 8 jsonB := by
  intro t u A n c w hT ht hu
  have H0 := Lib.hid (fun (w1 : World) => Tryd.strings_HasSuffix u ⟨#[43, 106, 115, 111, 110]⟩ w1 (by omega))
  rw [show (⟨#[43, 106, 115, 111, 110]⟩ : ByteArray).data.toList = [43, 106, 115, 111, 110] from rfl] at H0
  have H1 := Lib.hid (under_at ⟨#[97, 112, 112, 108, 105, 99, 97, 116, 105, 111, 110]⟩ ⟨#[106, 115, 111, 110]⟩ (asc_of _ (by decide)) (t := t) (u := u) hT A n c (below_box w (.cells #[.string t, .string u, .slice A n c] 24)))
  have H2 := Lib.hid (under_at ⟨#[116, 101, 120, 116]⟩ ⟨#[106, 115, 111, 110]⟩ (asc_of _ (by decide)) (t := t) (u := u) hT A n c (below_box w (.cells #[.string t, .string u, .slice A n c] 24)))
  unfold jsonB
  generalize Lib.hasSuffix u.data.toList [43, 106, 115, 111, 110] = b0 at *
  generalize underB t u ⟨#[97, 112, 112, 108, 105, 99, 97, 116, 105, 111, 110]⟩ ⟨#[106, 115, 111, 110]⟩ = b1 at *
  generalize underB t u ⟨#[116, 101, 120, 116]⟩ ⟨#[106, 115, 111, 110]⟩ = b2 at *
  go_enter Tryd.func8, Tryd.ntmps8
  go_upto_region 1 with fail
  have hb : Below (w.alloc (.cells #[.string t, .string u, .slice A n c] 24)).heap.size (w.alloc (.cells #[.string t, .string u, .slice A n c] 24)) (w.alloc (.cells #[.string t, .string u, .slice A n c] 24)) := Below.refl _ _
  cases b0 <;> cases b1 <;> cases b2 <;>
    (skip
     go_wp2_with (first | (go_at_call 42; (with_reducible refine Calls.mono (H0.out _) ?_); rintro e w' ⟨rfl, rfl⟩) | (go_at_call 43; (with_reducible refine Calls.mono (H1.out _ hb) ?_); rintro e w' ⟨rfl, hb2⟩; replace hb := below_trans hb hb2; clear hb2; obtain ⟨d0, d1, d2⟩ := box_on hb) | (go_at_call 43; (with_reducible refine Calls.mono (H2.out _ hb) ?_); rintro e w' ⟨rfl, hb2⟩; replace hb := below_trans hb hb2; clear hb2; obtain ⟨d0, d1, d2⟩ := box_on hb))
     go_ret
     exact ⟨rfl, (below_box w _).trans (hb.mono (by simp))⟩)

def xmlB (t u : ByteArray) : Bool := Lib.hasSuffix u.data.toList [43, 120, 109, 108] || underB t u ⟨#[116, 101, 120, 116]⟩ ⟨#[120, 109, 108]⟩ || underB t u ⟨#[97, 112, 112, 108, 105, 99, 97, 116, 105, 111, 110]⟩ ⟨#[120, 109, 108]⟩

set_option maxHeartbeats 4000000 in
set_option maxRecDepth 20000 in
theorem Xml_says : Says 10 xmlB := by
  intro t u A n c w hT ht hu
  have H0 := Lib.hid (fun (w1 : World) => Tryd.strings_HasSuffix u ⟨#[43, 120, 109, 108]⟩ w1 (by omega))
  rw [show (⟨#[43, 120, 109, 108]⟩ : ByteArray).data.toList = [43, 120, 109, 108] from rfl] at H0
  have H1 := Lib.hid (under_at ⟨#[116, 101, 120, 116]⟩ ⟨#[120, 109, 108]⟩ (asc_of _ (by decide)) (t := t) (u := u) hT A n c (below_box w (.cells #[.string t, .string u, .slice A n c] 24)))
  have H2 := Lib.hid (under_at ⟨#[97, 112, 112, 108, 105, 99, 97, 116, 105, 111, 110]⟩ ⟨#[120, 109, 108]⟩ (asc_of _ (by decide)) (t := t) (u := u) hT A n c (below_box w (.cells #[.string t, .string u, .slice A n c] 24)))
  unfold xmlB
  generalize Lib.hasSuffix u.data.toList [43, 120, 109, 108] = b0 at *
  generalize underB t u ⟨#[116, 101, 120, 116]⟩ ⟨#[120, 109, 108]⟩ = b1 at *
  generalize underB t u ⟨#[97, 112, 112, 108, 105, 99, 97, 116, 105, 111, 110]⟩ ⟨#[120, 109, 108]⟩ = b2 at *
  go_enter Tryd.func10, Tryd.ntmps10
  go_upto_region 1 with fail
  have hb : Below (w.alloc (.cells #[.string t, .string u, .slice A n c] 24)).heap.size (w.alloc (.cells #[.string t, .string u, .slice A n c] 24)) (w.alloc (.cells #[.string t, .string u, .slice A n c] 24)) := Below.refl _ _
  cases b0 <;> cases b1 <;> cases b2 <;>
    (skip
     go_wp2_with (first | (go_at_call 42; (with_reducible refine Calls.mono (H0.out _) ?_); rintro e w' ⟨rfl, rfl⟩) | (go_at_call 43; (with_reducible refine Calls.mono (H1.out _ hb) ?_); rintro e w' ⟨rfl, hb2⟩; replace hb := below_trans hb hb2; clear hb2; obtain ⟨d0, d1, d2⟩ := box_on hb) | (go_at_call 43; (with_reducible refine Calls.mono (H2.out _ hb) ?_); rintro e w' ⟨rfl, hb2⟩; replace hb := below_trans hb hb2; clear hb2; obtain ⟨d0, d1, d2⟩ := box_on hb))
     go_ret
     exact ⟨rfl, (below_box w _).trans (hb.mono (by simp))⟩)

def htmlB (t u : ByteArray) : Bool := underB t u ⟨#[116, 101, 120, 116]⟩ ⟨#[104, 116, 109, 108]⟩

set_option maxHeartbeats 4000000 in
set_option maxRecDepth 20000 in
theorem Html_says : Says 12 htmlB := by
  intro t u A n c w hT ht hu
  have H0 := Lib.hid (under_at ⟨#[116, 101, 120, 116]⟩ ⟨#[104, 116, 109, 108]⟩ (asc_of _ (by decide)) (t := t) (u := u) hT A n c (below_box w (.cells #[.string t, .string u, .slice A n c] 24)))
  unfold htmlB
  generalize underB t u ⟨#[116, 101, 120, 116]⟩ ⟨#[104, 116, 109, 108]⟩ = b0 at *
  go_enter Tryd.func12, Tryd.ntmps12
  go_upto_region 1 with fail
  have hb : Below (w.alloc (.cells #[.string t, .string u, .slice A n c] 24)).heap.size (w.alloc (.cells #[.string t, .string u, .slice A n c] 24)) (w.alloc (.cells #[.string t, .string u, .slice A n c] 24)) := Below.refl _ _
  cases b0 <;>
    (skip
     go_wp2_with (first | (go_at_call 43; (with_reducible refine Calls.mono (H0.out _ hb) ?_); rintro e w' ⟨rfl, hb2⟩; replace hb := below_trans hb hb2; clear hb2; obtain ⟨d0, d1, d2⟩ := box_on hb))
     go_ret
     exact ⟨rfl, (below_box w _).trans (hb.mono (by simp))⟩)

def scriptB (t u : ByteArray) : Bool := underB t u ⟨#[97, 112, 112, 108, 105, 99, 97, 116, 105, 111, 110]⟩ ⟨#[101, 99, 109, 97, 115, 99, 114, 105, 112, 116, 32, 106, 97, 118, 97, 115, 99, 114, 105, 112, 116, 32, 120, 45, 101, 99, 109, 97, 115, 99, 114, 105, 112, 116, 32, 120, 45, 106, 97, 118, 97, 115, 99, 114, 105, 112, 116, 32]⟩ || underB t u ⟨#[116, 101, 120, 116]⟩ ⟨#[101, 99, 109, 97, 115, 99, 114, 105, 112, 116, 32, 106, 97, 118, 97, 115, 99, 114, 105, 112, 116, 32, 120, 45, 101, 99, 109, 97, 115, 99, 114, 105, 112, 116, 32, 120, 45, 106, 97, 118, 97, 115, 99, 114, 105, 112, 116, 32, 106, 97, 118, 97, 115, 99, 114, 105, 112, 116, 49, 46, 48, 32, 106, 97, 118, 97, 115, 99, 114, 105, 112, 116, 49, 46, 49, 32, 106, 97, 118, 97, 115, 99, 114, 105, 112, 116, 49, 46, 50, 32, 106, 97, 118, 97, 115, 99, 114, 105, 112, 116, 49, 46, 51, 32, 106, 97, 118, 97, 115, 99, 114, 105, 112, 116, 49, 46, 52, 32, 106, 97, 118, 97, 115, 99, 114, 105, 112, 116, 49, 46, 53, 32, 106, 115, 99, 114, 105, 112, 116, 32, 108, 105, 118, 101, 115, 99, 114, 105, 112, 116]⟩

set_option maxHeartbeats 4000000 in
set_option maxRecDepth 20000 in
theorem Script_says : Says 14 scriptB := by
  intro t u A n c w hT ht hu
  have H0 := Lib.hid (under_at ⟨#[97, 112, 112, 108, 105, 99, 97, 116, 105, 111, 110]⟩ ⟨#[101, 99, 109, 97, 115, 99, 114, 105, 112, 116, 32, 106, 97, 118, 97, 115, 99, 114, 105, 112, 116, 32, 120, 45, 101, 99, 109, 97, 115, 99, 114, 105, 112, 116, 32, 120, 45, 106, 97, 118, 97, 115, 99, 114, 105, 112, 116, 32]⟩ (asc_of _ (by decide)) (t := t) (u := u) hT A n c (below_box w (.cells #[.string t, .string u, .slice A n c] 24)))
  have H1 := Lib.hid (under_at ⟨#[116, 101, 120, 116]⟩ ⟨#[101, 99, 109, 97, 115, 99, 114, 105, 112, 116, 32, 106, 97, 118, 97, 115, 99, 114, 105, 112, 116, 32, 120, 45, 101, 99, 109, 97, 115, 99, 114, 105, 112, 116, 32, 120, 45, 106, 97, 118, 97, 115, 99, 114, 105, 112, 116, 32, 106, 97, 118, 97, 115, 99, 114, 105, 112, 116, 49, 46, 48, 32, 106, 97, 118, 97, 115, 99, 114, 105, 112, 116, 49, 46, 49, 32, 106, 97, 118, 97, 115, 99, 114, 105, 112, 116, 49, 46, 50, 32, 106, 97, 118, 97, 115, 99, 114, 105, 112, 116, 49, 46, 51, 32, 106, 97, 118, 97, 115, 99, 114, 105, 112, 116, 49, 46, 52, 32, 106, 97, 118, 97, 115, 99, 114, 105, 112, 116, 49, 46, 53, 32, 106, 115, 99, 114, 105, 112, 116, 32, 108, 105, 118, 101, 115, 99, 114, 105, 112, 116]⟩ (asc_of _ (by decide)) (t := t) (u := u) hT A n c (below_box w (.cells #[.string t, .string u, .slice A n c] 24)))
  unfold scriptB
  generalize underB t u ⟨#[97, 112, 112, 108, 105, 99, 97, 116, 105, 111, 110]⟩ ⟨#[101, 99, 109, 97, 115, 99, 114, 105, 112, 116, 32, 106, 97, 118, 97, 115, 99, 114, 105, 112, 116, 32, 120, 45, 101, 99, 109, 97, 115, 99, 114, 105, 112, 116, 32, 120, 45, 106, 97, 118, 97, 115, 99, 114, 105, 112, 116, 32]⟩ = b0 at *
  generalize underB t u ⟨#[116, 101, 120, 116]⟩ ⟨#[101, 99, 109, 97, 115, 99, 114, 105, 112, 116, 32, 106, 97, 118, 97, 115, 99, 114, 105, 112, 116, 32, 120, 45, 101, 99, 109, 97, 115, 99, 114, 105, 112, 116, 32, 120, 45, 106, 97, 118, 97, 115, 99, 114, 105, 112, 116, 32, 106, 97, 118, 97, 115, 99, 114, 105, 112, 116, 49, 46, 48, 32, 106, 97, 118, 97, 115, 99, 114, 105, 112, 116, 49, 46, 49, 32, 106, 97, 118, 97, 115, 99, 114, 105, 112, 116, 49, 46, 50, 32, 106, 97, 118, 97, 115, 99, 114, 105, 112, 116, 49, 46, 51, 32, 106, 97, 118, 97, 115, 99, 114, 105, 112, 116, 49, 46, 52, 32, 106, 97, 118, 97, 115, 99, 114, 105, 112, 116, 49, 46, 53, 32, 106, 115, 99, 114, 105, 112, 116, 32, 108, 105, 118, 101, 115, 99, 114, 105, 112, 116]⟩ = b1 at *
  go_enter Tryd.func14, Tryd.ntmps14
  go_upto_region 1 with fail
  have hb : Below (w.alloc (.cells #[.string t, .string u, .slice A n c] 24)).heap.size (w.alloc (.cells #[.string t, .string u, .slice A n c] 24)) (w.alloc (.cells #[.string t, .string u, .slice A n c] 24)) := Below.refl _ _
  cases b0 <;> cases b1 <;>
    (skip
     go_wp2_with (first | (go_at_call 43; (with_reducible refine Calls.mono (H0.out _ hb) ?_); rintro e w' ⟨rfl, hb2⟩; replace hb := below_trans hb hb2; clear hb2; obtain ⟨d0, d1, d2⟩ := box_on hb) | (go_at_call 43; (with_reducible refine Calls.mono (H1.out _ hb) ?_); rintro e w' ⟨rfl, hb2⟩; replace hb := below_trans hb hb2; clear hb2; obtain ⟨d0, d1, d2⟩ := box_on hb))
     go_ret
     exact ⟨rfl, (below_box w _).trans (hb.mono (by simp))⟩)

def imageB (t u : ByteArray) : Bool := isB t ⟨#[105, 109, 97, 103, 101]⟩

set_option maxHeartbeats 4000000 in
set_option maxRecDepth 20000 in
theorem Image_says : Says 19 imageB := by
  intro t u A n c w hT ht hu
  have q0 : (t.toList == [105, 109, 97, 103, 101]) = isB t ⟨#[105, 109, 97, 103, 101]⟩ := by rw [isB_eq, Lib.toList_data (⟨#[105, 109, 97, 103, 101]⟩ : ByteArray)]
  unfold imageB
  generalize isB t ⟨#[105, 109, 97, 103, 101]⟩ = b0 at *
  go_enter Tryd.func19, Tryd.ntmps19
  go_upto_region 1 with fail
  have hb : Below (w.alloc (.cells #[.string t, .string u, .slice A n c] 24)).heap.size (w.alloc (.cells #[.string t, .string u, .slice A n c] 24)) (w.alloc (.cells #[.string t, .string u, .slice A n c] 24)) := Below.refl _ _
  cases b0 <;>
    (skip
     have n0 := q0
     (try rw [beq_eq_false_iff_ne, ne_eq] at n0)
     (try rw [beq_iff_eq] at n0)
     go_wp2_with fail
     go_ret
     exact ⟨rfl, (below_box w _).trans (hb.mono (by simp))⟩)

def mediaB (t u : ByteArray) : Bool := isB t ⟨#[97, 117, 100, 105, 111]⟩ || isB t ⟨#[118, 105, 100, 101, 111]⟩ || underB t u ⟨#[97, 112, 112, 108, 105, 99, 97, 116, 105, 111, 110]⟩ ⟨#[111, 103, 103]⟩

set_option maxHeartbeats 4000000 in
set_option maxRecDepth 20000 in
theorem Media_says : Says 20 mediaB := by
  intro t u A n c w hT ht hu
  have q0 : (t.toList == [97, 117, 100, 105, 111]) = isB t ⟨#[97, 117, 100, 105, 111]⟩ := by rw [isB_eq, Lib.toList_data (⟨#[97, 117, 100, 105, 111]⟩ : ByteArray)]
  have q1 : (t.toList == [118, 105, 100, 101, 111]) = isB t ⟨#[118, 105, 100, 101, 111]⟩ := by rw [isB_eq, Lib.toList_data (⟨#[118, 105, 100, 101, 111]⟩ : ByteArray)]
  have H2 := Lib.hid (under_at ⟨#[97, 112, 112, 108, 105, 99, 97, 116, 105, 111, 110]⟩ ⟨#[111, 103, 103]⟩ (asc_of _ (by decide)) (t := t) (u := u) hT A n c (below_box w (.cells #[.string t, .string u, .slice A n c] 24)))
  unfold mediaB
  generalize isB t ⟨#[97, 117, 100, 105, 111]⟩ = b0 at *
  generalize isB t ⟨#[118, 105, 100, 101, 111]⟩ = b1 at *
  generalize underB t u ⟨#[97, 112, 112, 108, 105, 99, 97, 116, 105, 111, 110]⟩ ⟨#[111, 103, 103]⟩ = b2 at *
  go_enter Tryd.func20, Tryd.ntmps20
  go_upto_region 1 with fail
  have hb : Below (w.alloc (.cells #[.string t, .string u, .slice A n c] 24)).heap.size (w.alloc (.cells #[.string t, .string u, .slice A n c] 24)) (w.alloc (.cells #[.string t, .string u, .slice A n c] 24)) := Below.refl _ _
  cases b0 <;> cases b1 <;> cases b2 <;>
    (skip
     have n0 := q0
     (try rw [beq_eq_false_iff_ne, ne_eq] at n0)
     (try rw [beq_iff_eq] at n0)
     have n1 := q1
     (try rw [beq_eq_false_iff_ne, ne_eq] at n1)
     (try rw [beq_iff_eq] at n1)
     go_wp2_with (first | (go_at_call 43; (with_reducible refine Calls.mono (H2.out _ hb) ?_); rintro e w' ⟨rfl, hb2⟩; replace hb := below_trans hb hb2; clear hb2; obtain ⟨d0, d1, d2⟩ := box_on hb))
     go_ret
     exact ⟨rfl, (below_box w _).trans (hb.mono (by simp))⟩)

def fontB (t u : ByteArray) : Bool := isB t ⟨#[102, 111, 110, 116]⟩ || underB t u ⟨#[97, 112, 112, 108, 105, 99, 97, 116, 105, 111, 110]⟩ ⟨#[102, 111, 110, 116, 45, 99, 102, 102, 32, 102, 111, 110, 116, 45, 111, 102, 102, 32, 102, 111, 110, 116, 45, 115, 102, 110, 116, 32, 102, 111, 110, 116, 45, 116, 116, 102, 32, 102, 111, 110, 116, 45, 119, 111, 102, 102, 32, 118, 110, 100, 46, 109, 115, 45, 102, 111, 110, 116, 111, 98, 106, 101, 99, 116, 32, 118, 110, 100, 46, 109, 115, 45, 111, 112, 101, 110, 116, 121, 112, 101]⟩

set_option maxHeartbeats 4000000 in
set_option maxRecDepth 20000 in
theorem Font_says : Says 22 fontB := by
  intro t u A n c w hT ht hu
  have q0 : (t.toList == [102, 111, 110, 116]) = isB t ⟨#[102, 111, 110, 116]⟩ := by rw [isB_eq, Lib.toList_data (⟨#[102, 111, 110, 116]⟩ : ByteArray)]
  have H1 := Lib.hid (under_at ⟨#[97, 112, 112, 108, 105, 99, 97, 116, 105, 111, 110]⟩ ⟨#[102, 111, 110, 116, 45, 99, 102, 102, 32, 102, 111, 110, 116, 45, 111, 102, 102, 32, 102, 111, 110, 116, 45, 115, 102, 110, 116, 32, 102, 111, 110, 116, 45, 116, 116, 102, 32, 102, 111, 110, 116, 45, 119, 111, 102, 102, 32, 118, 110, 100, 46, 109, 115, 45, 102, 111, 110, 116, 111, 98, 106, 101, 99, 116, 32, 118, 110, 100, 46, 109, 115, 45, 111, 112, 101, 110, 116, 121, 112, 101]⟩ (asc_of _ (by decide)) (t := t) (u := u) hT A n c (below_box w (.cells #[.string t, .string u, .slice A n c] 24)))
  unfold fontB
  generalize isB t ⟨#[102, 111, 110, 116]⟩ = b0 at *
  generalize underB t u ⟨#[97, 112, 112, 108, 105, 99, 97, 116, 105, 111, 110]⟩ ⟨#[102, 111, 110, 116, 45, 99, 102, 102, 32, 102, 111, 110, 116, 45, 111, 102, 102, 32, 102, 111, 110, 116, 45, 115, 102, 110, 116, 32, 102, 111, 110, 116, 45, 116, 116, 102, 32, 102, 111, 110, 116, 45, 119, 111, 102, 102, 32, 118, 110, 100, 46, 109, 115, 45, 102, 111, 110, 116, 111, 98, 106, 101, 99, 116, 32, 118, 110, 100, 46, 109, 115, 45, 111, 112, 101, 110, 116, 121, 112, 101]⟩ = b1 at *
  go_enter Tryd.func22, Tryd.ntmps22
  go_upto_region 1 with fail
  have hb : Below (w.alloc (.cells #[.string t, .string u, .slice A n c] 24)).heap.size (w.alloc (.cells #[.string t, .string u, .slice A n c] 24)) (w.alloc (.cells #[.string t, .string u, .slice A n c] 24)) := Below.refl _ _
  cases b0 <;> cases b1 <;>
    (skip
     have n0 := q0
     (try rw [beq_eq_false_iff_ne, ne_eq] at n0)
     (try rw [beq_iff_eq] at n0)
     go_wp2_with (first | (go_at_call 43; (with_reducible refine Calls.mono (H1.out _ hb) ?_); rintro e w' ⟨rfl, hb2⟩; replace hb := below_trans hb hb2; clear hb2; obtain ⟨d0, d1, d2⟩ := box_on hb))
     go_ret
     exact ⟨rfl, (below_box w _).trans (hb.mono (by simp))⟩)

def zipB (t u : ByteArray) : Bool := Lib.hasSuffix u.data.toList [43, 122, 105, 112] || underB t u ⟨#[97, 112, 112, 108, 105, 99, 97, 116, 105, 111, 110]⟩ ⟨#[122, 105, 112]⟩

set_option maxHeartbeats 4000000 in
set_option maxRecDepth 20000 in
theorem Zip_says : Says 24 zipB := by
  intro t u A n c w hT ht hu
  have H0 := Lib.hid (fun (w1 : World) => Tryd.strings_HasSuffix u ⟨#[43, 122, 105, 112]⟩ w1 (by omega))
  rw [show (⟨#[43, 122, 105, 112]⟩ : ByteArray).data.toList = [43, 122, 105, 112] from rfl] at H0
  have H1 := Lib.hid (under_at ⟨#[97, 112, 112, 108, 105, 99, 97, 116, 105, 111, 110]⟩ ⟨#[122, 105, 112]⟩ (asc_of _ (by decide)) (t := t) (u := u) hT A n c (below_box w (.cells #[.string t, .string u, .slice A n c] 24)))
  unfold zipB
  generalize Lib.hasSuffix u.data.toList [43, 122, 105, 112] = b0 at *
  generalize underB t u ⟨#[97, 112, 112, 108, 105, 99, 97, 116, 105, 111, 110]⟩ ⟨#[122, 105, 112]⟩ = b1 at *
  go_enter Tryd.func24, Tryd.ntmps24
  go_upto_region 1 with fail
  have hb : Below (w.alloc (.cells #[.string t, .string u, .slice A n c] 24)).heap.size (w.alloc (.cells #[.string t, .string u, .slice A n c] 24)) (w.alloc (.cells #[.string t, .string u, .slice A n c] 24)) := Below.refl _ _
  cases b0 <;> cases b1 <;>
    (skip
     go_wp2_with (first | (go_at_call 42; (with_reducible refine Calls.mono (H0.out _) ?_); rintro e w' ⟨rfl, rfl⟩) | (go_at_call 43; (with_reducible refine Calls.mono (H1.out _ hb) ?_); rintro e w' ⟨rfl, hb2⟩; replace hb := below_trans hb hb2; clear hb2; obtain ⟨d0, d1, d2⟩ := box_on hb))
     go_ret
     exact ⟨rfl, (below_box w _).trans (hb.mono (by simp))⟩)

def archiveB (t u : ByteArray) : Bool := underB t u ⟨#[97, 112, 112, 108, 105, 99, 97, 116, 105, 111, 110]⟩ ⟨#[120, 45, 114, 97, 114, 45, 99, 111, 109, 112, 114, 101, 115, 115, 101, 100, 32, 122, 105, 112, 32, 120, 45, 103, 122, 105, 112]⟩

set_option maxHeartbeats 4000000 in
set_option maxRecDepth 20000 in
theorem Archive_says : Says 26 archiveB := by
  intro t u A n c w hT ht hu
  have H0 := Lib.hid (under_at ⟨#[97, 112, 112, 108, 105, 99, 97, 116, 105, 111, 110]⟩ ⟨#[120, 45, 114, 97, 114, 45, 99, 111, 109, 112, 114, 101, 115, 115, 101, 100, 32, 122, 105, 112, 32, 120, 45, 103, 122, 105, 112]⟩ (asc_of _ (by decide)) (t := t) (u := u) hT A n c (below_box w (.cells #[.string t, .string u, .slice A n c] 24)))
  unfold archiveB
  generalize underB t u ⟨#[97, 112, 112, 108, 105, 99, 97, 116, 105, 111, 110]⟩ ⟨#[120, 45, 114, 97, 114, 45, 99, 111, 109, 112, 114, 101, 115, 115, 101, 100, 32, 122, 105, 112, 32, 120, 45, 103, 122, 105, 112]⟩ = b0 at *
  go_enter Tryd.func26, Tryd.ntmps26
  go_upto_region 1 with fail
  have hb : Below (w.alloc (.cells #[.string t, .string u, .slice A n c] 24)).heap.size (w.alloc (.cells #[.string t, .string u, .slice A n c] 24)) (w.alloc (.cells #[.string t, .string u, .slice A n c] 24)) := Below.refl _ _
  cases b0 <;>
    (skip
     go_wp2_with (first | (go_at_call 43; (with_reducible refine Calls.mono (H0.out _ hb) ?_); rintro e w' ⟨rfl, hb2⟩; replace hb := below_trans hb hb2; clear hb2; obtain ⟨d0, d1, d2⟩ := box_on hb))
     go_ret
     exact ⟨rfl, (below_box w _).trans (hb.mono (by simp))⟩)

def scriptableB (t u : ByteArray) : Bool := xmlB t u || htmlB t u || underB t u ⟨#[97, 112, 112, 108, 105, 99, 97, 116, 105, 111, 110]⟩ ⟨#[112, 100, 102]⟩

set_option maxHeartbeats 4000000 in
set_option maxRecDepth 20000 in
theorem Scriptable_says : Says 16 scriptableB := by
  intro t u A n c w hT ht hu
  have H0 := Lib.hid (Xml_says.at (t := t) (u := u) hT ht hu A n c (below_box w (.cells #[.string t, .string u, .slice A n c] 24)))
  have H1 := Lib.hid (Html_says.at (t := t) (u := u) hT ht hu A n c (below_box w (.cells #[.string t, .string u, .slice A n c] 24)))
  have H2 := Lib.hid (under_at ⟨#[97, 112, 112, 108, 105, 99, 97, 116, 105, 111, 110]⟩ ⟨#[112, 100, 102]⟩ (asc_of _ (by decide)) (t := t) (u := u) hT A n c (below_box w (.cells #[.string t, .string u, .slice A n c] 24)))
  unfold scriptableB
  generalize xmlB t u = b0 at *
  generalize htmlB t u = b1 at *
  generalize underB t u ⟨#[97, 112, 112, 108, 105, 99, 97, 116, 105, 111, 110]⟩ ⟨#[112, 100, 102]⟩ = b2 at *
  go_enter Tryd.func16, Tryd.ntmps16
  go_upto_region 1 with fail
  have hb : Below (w.alloc (.cells #[.string t, .string u, .slice A n c] 24)).heap.size (w.alloc (.cells #[.string t, .string u, .slice A n c] 24)) (w.alloc (.cells #[.string t, .string u, .slice A n c] 24)) := Below.refl _ _
  cases b0 <;> cases b1 <;> cases b2 <;>
    (skip
     go_wp2_with (first | (go_at_call 10; (with_reducible refine Calls.mono (H0.out _ hb) ?_); rintro e w' ⟨rfl, hb2⟩; replace hb := below_trans hb hb2; clear hb2; obtain ⟨d0, d1, d2⟩ := box_on hb) | (go_at_call 12; (with_reducible refine Calls.mono (H1.out _ hb) ?_); rintro e w' ⟨rfl, hb2⟩; replace hb := below_trans hb hb2; clear hb2; obtain ⟨d0, d1, d2⟩ := box_on hb) | (go_at_call 43; (with_reducible refine Calls.mono (H2.out _ hb) ?_); rintro e w' ⟨rfl, hb2⟩; replace hb := below_trans hb hb2; clear hb2; obtain ⟨d0, d1, d2⟩ := box_on hb))
     go_ret
     exact ⟨rfl, (below_box w _).trans (hb.mono (by simp))⟩)

def safeB (t u : ByteArray) : Bool := scriptB t u || underB t u ⟨#[116, 101, 120, 116]⟩ ⟨#[99, 115, 115]⟩ || isB (essB t u) ⟨#[105, 109, 97, 103, 101, 47, 115, 118, 103, 43, 120, 109, 108]⟩

set_option maxHeartbeats 4000000 in
set_option maxRecDepth 20000 in
theorem Safe_says : Says 32 safeB := by
  intro t u A n c w hT ht hu
  have H0 := Lib.hid (Script_says.at (t := t) (u := u) hT ht hu A n c (below_box w (.cells #[.string t, .string u, .slice A n c] 24)))
  have H1 := Lib.hid (under_at ⟨#[116, 101, 120, 116]⟩ ⟨#[99, 115, 115]⟩ (asc_of _ (by decide)) (t := t) (u := u) hT A n c (below_box w (.cells #[.string t, .string u, .slice A n c] 24)))
  have H2 := Lib.hid (fun (w1 : World) => is_any t u ⟨#[105, 109, 97, 103, 101, 47, 115, 118, 103, 43, 120, 109, 108]⟩ A n c w1 ht hu)
  unfold safeB
  generalize scriptB t u = b0 at *
  generalize underB t u ⟨#[116, 101, 120, 116]⟩ ⟨#[99, 115, 115]⟩ = b1 at *
  generalize isB (essB t u) ⟨#[105, 109, 97, 103, 101, 47, 115, 118, 103, 43, 120, 109, 108]⟩ = b2 at *
  go_enter Tryd.func32, Tryd.ntmps32
  go_upto_region 1 with fail
  have hb : Below (w.alloc (.cells #[.string t, .string u, .slice A n c] 24)).heap.size (w.alloc (.cells #[.string t, .string u, .slice A n c] 24)) (w.alloc (.cells #[.string t, .string u, .slice A n c] 24)) := Below.refl _ _
  cases b0 <;> cases b1 <;> cases b2 <;>
    (skip
     go_wp2_with (first | (go_at_call 14; (with_reducible refine Calls.mono (H0.out _ hb) ?_); rintro e w' ⟨rfl, hb2⟩; replace hb := below_trans hb hb2; clear hb2; obtain ⟨d0, d1, d2⟩ := box_on hb) | (go_at_call 43; (with_reducible refine Calls.mono (H1.out _ hb) ?_); rintro e w' ⟨rfl, hb2⟩; replace hb := below_trans hb hb2; clear hb2; obtain ⟨d0, d1, d2⟩ := box_on hb) | (go_at_call 51; (with_reducible refine Calls.mono (H2.out _) ?_); rintro e w' ⟨rfl, hb2⟩; replace hb := below_trans hb hb2; clear hb2; obtain ⟨d0, d1, d2⟩ := box_on hb))
     go_ret
     exact ⟨rfl, (below_box w _).trans (hb.mono (by simp))⟩)

def neverB (t u : ByteArray) : Bool := underB t u ⟨#[97, 112, 112, 108, 105, 99, 97, 116, 105, 111, 110]⟩ ⟨#[100, 97, 115, 104, 43, 120, 109, 108, 32, 103, 122, 105, 112, 32, 109, 115, 101, 120, 99, 101, 108, 32, 109, 115, 112, 111, 119, 101, 114, 112, 111, 105, 110, 116, 32, 109, 115, 119, 111, 114, 100, 32, 112, 100, 102, 32, 120, 45, 103, 122, 105, 112, 32, 120, 45, 112, 114, 111, 116, 111, 98, 117, 102, 32, 122, 105, 112, 32, 118, 110, 100, 46, 97, 112, 112, 108, 101, 46, 109, 112, 101, 103, 117, 114, 108, 32, 118, 110, 100, 46, 109, 115, 45, 101, 120, 99, 101, 108, 32, 118, 110, 100, 46, 109, 115, 45, 112, 111, 119, 101, 114, 112, 111, 105, 110, 116, 32, 118, 110, 100, 46, 109, 115, 45, 119, 111, 114, 100, 32, 118, 110, 100, 46, 111, 112, 101, 110, 120, 109, 108, 102, 111, 114, 109, 97, 116, 115, 45, 111, 102, 102, 105, 99, 101, 100, 111, 99, 117, 109, 101, 110, 116, 46, 119, 111, 114, 100, 112, 114, 111, 99, 101, 115, 115, 105, 110, 103, 109, 108, 46, 100, 111, 99, 117, 109, 101, 110, 116]⟩ || isB (essB t u) ⟨#[97, 117, 100, 105, 111, 47, 109, 112, 101, 103, 117, 114, 108]⟩ || underB t u ⟨#[116, 101, 120, 116]⟩ ⟨#[99, 115, 118, 32, 101, 118, 101, 110, 116, 45, 115, 116, 114, 101, 97, 109, 32, 118, 116, 116]⟩ || underB t u ⟨#[109, 117, 108, 116, 105, 112, 97, 114, 116]⟩ ⟨#[98, 121, 116, 101, 114, 97, 110, 103, 101, 115, 32, 115, 105, 103, 110, 101, 100]⟩

set_option maxHeartbeats 4000000 in
set_option maxRecDepth 20000 in
theorem Never_says : Says 35 neverB := by
  intro t u A n c w hT ht hu
  have H0 := Lib.hid (under_at ⟨#[97, 112, 112, 108, 105, 99, 97, 116, 105, 111, 110]⟩ ⟨#[100, 97, 115, 104, 43, 120, 109, 108, 32, 103, 122, 105, 112, 32, 109, 115, 101, 120, 99, 101, 108, 32, 109, 115, 112, 111, 119, 101, 114, 112, 111, 105, 110, 116, 32, 109, 115, 119, 111, 114, 100, 32, 112, 100, 102, 32, 120, 45, 103, 122, 105, 112, 32, 120, 45, 112, 114, 111, 116, 111, 98, 117, 102, 32, 122, 105, 112, 32, 118, 110, 100, 46, 97, 112, 112, 108, 101, 46, 109, 112, 101, 103, 117, 114, 108, 32, 118, 110, 100, 46, 109, 115, 45, 101, 120, 99, 101, 108, 32, 118, 110, 100, 46, 109, 115, 45, 112, 111, 119, 101, 114, 112, 111, 105, 110, 116, 32, 118, 110, 100, 46, 109, 115, 45, 119, 111, 114, 100, 32, 118, 110, 100, 46, 111, 112, 101, 110, 120, 109, 108, 102, 111, 114, 109, 97, 116, 115, 45, 111, 102, 102, 105, 99, 101, 100, 111, 99, 117, 109, 101, 110, 116, 46, 119, 111, 114, 100, 112, 114, 111, 99, 101, 115, 115, 105, 110, 103, 109, 108, 46, 100, 111, 99, 117, 109, 101, 110, 116]⟩ (asc_of _ (by decide)) (t := t) (u := u) hT A n c (below_box w (.cells #[.string t, .string u, .slice A n c] 24)))
  have H1 := Lib.hid (fun (w1 : World) => is_any t u ⟨#[97, 117, 100, 105, 111, 47, 109, 112, 101, 103, 117, 114, 108]⟩ A n c w1 ht hu)
  have H2 := Lib.hid (under_at ⟨#[116, 101, 120, 116]⟩ ⟨#[99, 115, 118, 32, 101, 118, 101, 110, 116, 45, 115, 116, 114, 101, 97, 109, 32, 118, 116, 116]⟩ (asc_of _ (by decide)) (t := t) (u := u) hT A n c (below_box w (.cells #[.string t, .string u, .slice A n c] 24)))
  have H3 := Lib.hid (under_at ⟨#[109, 117, 108, 116, 105, 112, 97, 114, 116]⟩ ⟨#[98, 121, 116, 101, 114, 97, 110, 103, 101, 115, 32, 115, 105, 103, 110, 101, 100]⟩ (asc_of _ (by decide)) (t := t) (u := u) hT A n c (below_box w (.cells #[.string t, .string u, .slice A n c] 24)))
  unfold neverB
  generalize underB t u ⟨#[97, 112, 112, 108, 105, 99, 97, 116, 105, 111, 110]⟩ ⟨#[100, 97, 115, 104, 43, 120, 109, 108, 32, 103, 122, 105, 112, 32, 109, 115, 101, 120, 99, 101, 108, 32, 109, 115, 112, 111, 119, 101, 114, 112, 111, 105, 110, 116, 32, 109, 115, 119, 111, 114, 100, 32, 112, 100, 102, 32, 120, 45, 103, 122, 105, 112, 32, 120, 45, 112, 114, 111, 116, 111, 98, 117, 102, 32, 122, 105, 112, 32, 118, 110, 100, 46, 97, 112, 112, 108, 101, 46, 109, 112, 101, 103, 117, 114, 108, 32, 118, 110, 100, 46, 109, 115, 45, 101, 120, 99, 101, 108, 32, 118, 110, 100, 46, 109, 115, 45, 112, 111, 119, 101, 114, 112, 111, 105, 110, 116, 32, 118, 110, 100, 46, 109, 115, 45, 119, 111, 114, 100, 32, 118, 110, 100, 46, 111, 112, 101, 110, 120, 109, 108, 102, 111, 114, 109, 97, 116, 115, 45, 111, 102, 102, 105, 99, 101, 100, 111, 99, 117, 109, 101, 110, 116, 46, 119, 111, 114, 100, 112, 114, 111, 99, 101, 115, 115, 105, 110, 103, 109, 108, 46, 100, 111, 99, 117, 109, 101, 110, 116]⟩ = b0 at *
  generalize isB (essB t u) ⟨#[97, 117, 100, 105, 111, 47, 109, 112, 101, 103, 117, 114, 108]⟩ = b1 at *
  generalize underB t u ⟨#[116, 101, 120, 116]⟩ ⟨#[99, 115, 118, 32, 101, 118, 101, 110, 116, 45, 115, 116, 114, 101, 97, 109, 32, 118, 116, 116]⟩ = b2 at *
  generalize underB t u ⟨#[109, 117, 108, 116, 105, 112, 97, 114, 116]⟩ ⟨#[98, 121, 116, 101, 114, 97, 110, 103, 101, 115, 32, 115, 105, 103, 110, 101, 100]⟩ = b3 at *
  go_enter Tryd.func35, Tryd.ntmps35
  go_upto_region 1 with fail
  have hb : Below (w.alloc (.cells #[.string t, .string u, .slice A n c] 24)).heap.size (w.alloc (.cells #[.string t, .string u, .slice A n c] 24)) (w.alloc (.cells #[.string t, .string u, .slice A n c] 24)) := Below.refl _ _
  cases b0 <;> cases b1 <;> cases b2 <;> cases b3 <;>
    (skip
     go_wp2_with (first | (go_at_call 43; (with_reducible refine Calls.mono (H0.out _ hb) ?_); rintro e w' ⟨rfl, hb2⟩; replace hb := below_trans hb hb2; clear hb2; obtain ⟨d0, d1, d2⟩ := box_on hb) | (go_at_call 51; (with_reducible refine Calls.mono (H1.out _) ?_); rintro e w' ⟨rfl, hb2⟩; replace hb := below_trans hb hb2; clear hb2; obtain ⟨d0, d1, d2⟩ := box_on hb) | (go_at_call 43; (with_reducible refine Calls.mono (H2.out _ hb) ?_); rintro e w' ⟨rfl, hb2⟩; replace hb := below_trans hb hb2; clear hb2; obtain ⟨d0, d1, d2⟩ := box_on hb) | (go_at_call 43; (with_reducible refine Calls.mono (H3.out _ hb) ?_); rintro e w' ⟨rfl, hb2⟩; replace hb := below_trans hb hb2; clear hb2; obtain ⟨d0, d1, d2⟩ := box_on hb))
     go_ret
     exact ⟨rfl, (below_box w _).trans (hb.mono (by simp))⟩)

def listedB (t u : ByteArray) : Bool := htmlB t u || jsonB t u || (xmlB t u && !(isB (essB t u) ⟨#[105, 109, 97, 103, 101, 47, 115, 118, 103, 43, 120, 109, 108]⟩))

set_option maxHeartbeats 4000000 in
set_option maxRecDepth 20000 in
theorem Listed_says : Says 33 listedB := by
  intro t u A n c w hT ht hu
  have H0 := Lib.hid (Html_says.at (t := t) (u := u) hT ht hu A n c (below_box w (.cells #[.string t, .string u, .slice A n c] 24)))
  have H1 := Lib.hid (Json_says.at (t := t) (u := u) hT ht hu A n c (below_box w (.cells #[.string t, .string u, .slice A n c] 24)))
  have H2 := Lib.hid (Xml_says.at (t := t) (u := u) hT ht hu A n c (below_box w (.cells #[.string t, .string u, .slice A n c] 24)))
  have H3 := Lib.hid (fun (w1 : World) => is_any t u ⟨#[105, 109, 97, 103, 101, 47, 115, 118, 103, 43, 120, 109, 108]⟩ A n c w1 ht hu)
  unfold listedB
  generalize htmlB t u = b0 at *
  generalize jsonB t u = b1 at *
  generalize xmlB t u = b2 at *
  generalize isB (essB t u) ⟨#[105, 109, 97, 103, 101, 47, 115, 118, 103, 43, 120, 109, 108]⟩ = b3 at *
  go_enter Tryd.func33, Tryd.ntmps33
  go_upto_region 1 with fail
  have hb : Below (w.alloc (.cells #[.string t, .string u, .slice A n c] 24)).heap.size (w.alloc (.cells #[.string t, .string u, .slice A n c] 24)) (w.alloc (.cells #[.string t, .string u, .slice A n c] 24)) := Below.refl _ _
  cases b0 <;> cases b1 <;> cases b2 <;> cases b3 <;>
    (skip
     go_wp2_with (first | (go_at_call 12; (with_reducible refine Calls.mono (H0.out _ hb) ?_); rintro e w' ⟨rfl, hb2⟩; replace hb := below_trans hb hb2; clear hb2; obtain ⟨d0, d1, d2⟩ := box_on hb) | (go_at_call 8; (with_reducible refine Calls.mono (H1.out _ hb) ?_); rintro e w' ⟨rfl, hb2⟩; replace hb := below_trans hb hb2; clear hb2; obtain ⟨d0, d1, d2⟩ := box_on hb) | (go_at_call 10; (with_reducible refine Calls.mono (H2.out _ hb) ?_); rintro e w' ⟨rfl, hb2⟩; replace hb := below_trans hb hb2; clear hb2; obtain ⟨d0, d1, d2⟩ := box_on hb) | (go_at_call 51; (with_reducible refine Calls.mono (H3.out _) ?_); rintro e w' ⟨rfl, hb2⟩; replace hb := below_trans hb hb2; clear hb2; obtain ⟨d0, d1, d2⟩ := box_on hb))
     go_ret
     exact ⟨rfl, (below_box w _).trans (hb.mono (by simp))⟩)

end Go.Proofs.YtigclegknofhmaaDoor
