/-
  Lemmas of this claim, part 20: the texts GroupP, OrbB, one behind the other.
-/
import Derived.Test.YtcbhkcdphbffpaaGreatDoorM19

namespace Go.Proofs.YtcbhkcdphbffpaaGreatDoor
set_option linter.unusedSimpArgs false
set_option linter.unusedVariables false

def freeL (s : ByteArray) : Bool := s.data.toList.all fun b => b != 47

theorem list_split {a b c d : List UInt8} (ha : ∀ x ∈ a, x ≠ 47) (hc : ∀ x ∈ c, x ≠ 47) (h : a ++ 47 :: b = c ++ 47 :: d) : a = c ∧ b = d := by
  induction a generalizing c with
  | nil =>
    cases c with
    | nil => simpa using h
    | cons y r =>
      simp at h
      exact absurd h.1.symm (hc y (by simp))
  | cons x r ih =>
    cases c with
    | nil =>
      simp at h
      exact absurd h.1 (ha x (by simp))
    | cons y s =>
      simp at h
      obtain ⟨rfl, h⟩ := h
      obtain ⟨rfl, rfl⟩ := ih (fun z hz => ha z (by simp [hz])) (fun z hz => hc z (by simp [hz])) h
      exact ⟨rfl, rfl⟩

theorem essB_list (t u : ByteArray) : (essB t u).data.toList = t.data.toList ++ 47 :: u.data.toList := by
  unfold essB
  rw [ByteArray.data_append, ByteArray.data_append]
  simp

theorem count_free {l : List UInt8} (h : l.count 47 = 0) : ∀ x ∈ l, x ≠ 47 := fun x hx e => by
  subst e
  have := List.count_pos_iff.2 hx
  omega

theorem free_count {l : List UInt8} (h : ∀ x ∈ l, x ≠ 47) : l.count 47 = 0 := by
  rw [List.count_eq_zero]
  exact fun hm => h 47 hm rfl

theorem essB_inj (t u k f : ByteArray) (hk : freeL k = true) (hf : freeL f = true) : (essB t u = essB k f) ↔ (t = k ∧ u = f) := by
  constructor
  · intro h
    have h2 := congrArg (fun x : ByteArray => x.data.toList) h
    simp only [essB_list] at h2
    have hk2 : ∀ x ∈ k.data.toList, x ≠ 47 := fun x hx => by simpa using List.all_eq_true.1 hk x hx
    have hf2 : ∀ x ∈ f.data.toList, x ≠ 47 := fun x hx => by simpa using List.all_eq_true.1 hf x hx
    have hc := congrArg (List.count 47) h2
    simp only [List.count_append, List.count_cons_self, free_count hk2, free_count hf2] at hc
    obtain ⟨h3, h4⟩ := list_split (count_free (by omega)) hk2 h2
    exact ⟨bytes_ext h3, bytes_ext h4⟩
  · rintro ⟨rfl, rfl⟩; rfl

theorem isB_ess2 (t u z k f : ByteArray) (hz : z = essB k f) (hk : freeL k = true) (hf : freeL f = true) : isB (essB t u) z = (isB t k && isB u f) := by
  subst hz
  unfold isB
  rw [Bool.eq_iff_iff]
  simp only [Bool.and_eq_true, decide_eq_true_eq]
  exact essB_inj t u k f hk hf

theorem isB_ess (t u z k f : ByteArray) (hz : z = essB k f) (hk : freeL k = true) (hf : freeL f = true) : isB z (essB t u) = (isB t k && isB u f) := by
  rw [← isB_ess2 t u z k f hz hk hf]
  unfold isB
  rw [Bool.eq_iff_iff]
  simp only [decide_eq_true_eq]
  exact eq_comm

theorem contains_any (zs : List ByteArray) (u : ByteArray) : Lib.containsS zs u = zs.any fun z => isB u z := by
  rw [Bool.eq_iff_iff, Lib.containsS_iff, List.any_eq_true]
  constructor
  · exact fun h => ⟨u, h, by simp [isB]⟩
  · rintro ⟨z, hz, he⟩
    have : u = z := by simpa [isB] using he
    rw [this]; exact hz

theorem under_list (t u k subs : ByteArray) (fs : List ByteArray) (h : (Lib.fields subs.data.toList).map (fun l => (⟨l.toArray⟩ : ByteArray)) = fs) : underB t u k subs = (isB t k && fs.any fun f => isB u f) := by
  unfold underB
  rw [h, contains_any]
  rfl

set_option maxRecDepth 20000 in
set_option maxHeartbeats 4000000 in
theorem json_eq (t u : ByteArray) : jsonB t u = rJsonB t u := by
  unfold jsonB rJsonB
  rw [under_list t u ⟨#[97, 112, 112, 108, 105, 99, 97, 116, 105, 111, 110]⟩ ⟨#[106, 115, 111, 110]⟩ [⟨#[106, 115, 111, 110]⟩] (by kernel_rfl)]
  rw [under_list t u ⟨#[116, 101, 120, 116]⟩ ⟨#[106, 115, 111, 110]⟩ [⟨#[106, 115, 111, 110]⟩] (by kernel_rfl)]
  all_goals try simp only [oneB, List.any_cons, List.any_nil, Bool.or_false]
  all_goals rw [isB_ess t u ⟨#[97, 112, 112, 108, 105, 99, 97, 116, 105, 111, 110, 47, 106, 115, 111, 110]⟩ ⟨#[97, 112, 112, 108, 105, 99, 97, 116, 105, 111, 110]⟩ ⟨#[106, 115, 111, 110]⟩ rfl (by decide) (by decide)]
  all_goals rw [isB_ess t u ⟨#[116, 101, 120, 116, 47, 106, 115, 111, 110]⟩ ⟨#[116, 101, 120, 116]⟩ ⟨#[106, 115, 111, 110]⟩ rfl (by decide) (by decide)]
  all_goals generalize isB u ⟨#[106, 115, 111, 110]⟩ = c0
  all_goals generalize isB t ⟨#[97, 112, 112, 108, 105, 99, 97, 116, 105, 111, 110]⟩ = a0
  all_goals generalize isB t ⟨#[116, 101, 120, 116]⟩ = a1
  all_goals generalize Lib.hasSuffix u.data.toList [43, 106, 115, 111, 110] = s0
  all_goals (cases a0 <;> cases a1 <;> simp [Bool.or_assoc, Bool.or_comm, Bool.or_left_comm])

set_option maxRecDepth 20000 in
set_option maxHeartbeats 4000000 in
theorem xml_eq (t u : ByteArray) : xmlB t u = rXmlB t u := by
  unfold xmlB rXmlB
  rw [under_list t u ⟨#[116, 101, 120, 116]⟩ ⟨#[120, 109, 108]⟩ [⟨#[120, 109, 108]⟩] (by kernel_rfl)]
  rw [under_list t u ⟨#[97, 112, 112, 108, 105, 99, 97, 116, 105, 111, 110]⟩ ⟨#[120, 109, 108]⟩ [⟨#[120, 109, 108]⟩] (by kernel_rfl)]
  all_goals try simp only [oneB, List.any_cons, List.any_nil, Bool.or_false]
  all_goals rw [isB_ess t u ⟨#[97, 112, 112, 108, 105, 99, 97, 116, 105, 111, 110, 47, 120, 109, 108]⟩ ⟨#[97, 112, 112, 108, 105, 99, 97, 116, 105, 111, 110]⟩ ⟨#[120, 109, 108]⟩ rfl (by decide) (by decide)]
  all_goals rw [isB_ess t u ⟨#[116, 101, 120, 116, 47, 120, 109, 108]⟩ ⟨#[116, 101, 120, 116]⟩ ⟨#[120, 109, 108]⟩ rfl (by decide) (by decide)]
  all_goals generalize isB u ⟨#[120, 109, 108]⟩ = c0
  all_goals generalize isB t ⟨#[116, 101, 120, 116]⟩ = a0
  all_goals generalize isB t ⟨#[97, 112, 112, 108, 105, 99, 97, 116, 105, 111, 110]⟩ = a1
  all_goals generalize Lib.hasSuffix u.data.toList [43, 120, 109, 108] = s0
  all_goals (cases a0 <;> cases a1 <;> simp [Bool.or_assoc, Bool.or_comm, Bool.or_left_comm])

set_option maxRecDepth 20000 in
set_option maxHeartbeats 4000000 in
theorem html_eq (t u : ByteArray) : htmlB t u = rHtmlB t u := by
  unfold htmlB rHtmlB
  rw [under_list t u ⟨#[116, 101, 120, 116]⟩ ⟨#[104, 116, 109, 108]⟩ [⟨#[104, 116, 109, 108]⟩] (by kernel_rfl)]
  all_goals try simp only [oneB, List.any_cons, List.any_nil, Bool.or_false]
  all_goals rw [isB_ess2 t u ⟨#[116, 101, 120, 116, 47, 104, 116, 109, 108]⟩ ⟨#[116, 101, 120, 116]⟩ ⟨#[104, 116, 109, 108]⟩ rfl (by decide) (by decide)]
  all_goals generalize isB u ⟨#[104, 116, 109, 108]⟩ = c0
  all_goals generalize isB t ⟨#[116, 101, 120, 116]⟩ = a0
  all_goals (cases a0 <;> simp [Bool.or_assoc, Bool.or_comm, Bool.or_left_comm])

set_option maxRecDepth 20000 in
set_option maxHeartbeats 4000000 in
theorem script_eq (t u : ByteArray) : scriptB t u = rScriptB t u := by
  unfold scriptB rScriptB
  rw [under_list t u ⟨#[97, 112, 112, 108, 105, 99, 97, 116, 105, 111, 110]⟩ ⟨#[101, 99, 109, 97, 115, 99, 114, 105, 112, 116, 32, 106, 97, 118, 97, 115, 99, 114, 105, 112, 116, 32, 120, 45, 101, 99, 109, 97, 115, 99, 114, 105, 112, 116, 32, 120, 45, 106, 97, 118, 97, 115, 99, 114, 105, 112, 116, 32]⟩ [⟨#[101, 99, 109, 97, 115, 99, 114, 105, 112, 116]⟩, ⟨#[106, 97, 118, 97, 115, 99, 114, 105, 112, 116]⟩, ⟨#[120, 45, 101, 99, 109, 97, 115, 99, 114, 105, 112, 116]⟩, ⟨#[120, 45, 106, 97, 118, 97, 115, 99, 114, 105, 112, 116]⟩] (by kernel_rfl)]
  rw [under_list t u ⟨#[116, 101, 120, 116]⟩ ⟨#[101, 99, 109, 97, 115, 99, 114, 105, 112, 116, 32, 106, 97, 118, 97, 115, 99, 114, 105, 112, 116, 32, 120, 45, 101, 99, 109, 97, 115, 99, 114, 105, 112, 116, 32, 120, 45, 106, 97, 118, 97, 115, 99, 114, 105, 112, 116, 32, 106, 97, 118, 97, 115, 99, 114, 105, 112, 116, 49, 46, 48, 32, 106, 97, 118, 97, 115, 99, 114, 105, 112, 116, 49, 46, 49, 32, 106, 97, 118, 97, 115, 99, 114, 105, 112, 116, 49, 46, 50, 32, 106, 97, 118, 97, 115, 99, 114, 105, 112, 116, 49, 46, 51, 32, 106, 97, 118, 97, 115, 99, 114, 105, 112, 116, 49, 46, 52, 32, 106, 97, 118, 97, 115, 99, 114, 105, 112, 116, 49, 46, 53, 32, 106, 115, 99, 114, 105, 112, 116, 32, 108, 105, 118, 101, 115, 99, 114, 105, 112, 116]⟩ [⟨#[101, 99, 109, 97, 115, 99, 114, 105, 112, 116]⟩, ⟨#[106, 97, 118, 97, 115, 99, 114, 105, 112, 116]⟩, ⟨#[120, 45, 101, 99, 109, 97, 115, 99, 114, 105, 112, 116]⟩, ⟨#[120, 45, 106, 97, 118, 97, 115, 99, 114, 105, 112, 116]⟩, ⟨#[106, 97, 118, 97, 115, 99, 114, 105, 112, 116, 49, 46, 48]⟩, ⟨#[106, 97, 118, 97, 115, 99, 114, 105, 112, 116, 49, 46, 49]⟩, ⟨#[106, 97, 118, 97, 115, 99, 114, 105, 112, 116, 49, 46, 50]⟩, ⟨#[106, 97, 118, 97, 115, 99, 114, 105, 112, 116, 49, 46, 51]⟩, ⟨#[106, 97, 118, 97, 115, 99, 114, 105, 112, 116, 49, 46, 52]⟩, ⟨#[106, 97, 118, 97, 115, 99, 114, 105, 112, 116, 49, 46, 53]⟩, ⟨#[106, 115, 99, 114, 105, 112, 116]⟩, ⟨#[108, 105, 118, 101, 115, 99, 114, 105, 112, 116]⟩] (by kernel_rfl)]
  all_goals try simp only [oneB, List.any_cons, List.any_nil, Bool.or_false]
  all_goals rw [isB_ess t u ⟨#[97, 112, 112, 108, 105, 99, 97, 116, 105, 111, 110, 47, 101, 99, 109, 97, 115, 99, 114, 105, 112, 116]⟩ ⟨#[97, 112, 112, 108, 105, 99, 97, 116, 105, 111, 110]⟩ ⟨#[101, 99, 109, 97, 115, 99, 114, 105, 112, 116]⟩ rfl (by decide) (by decide)]
  all_goals rw [isB_ess t u ⟨#[97, 112, 112, 108, 105, 99, 97, 116, 105, 111, 110, 47, 106, 97, 118, 97, 115, 99, 114, 105, 112, 116]⟩ ⟨#[97, 112, 112, 108, 105, 99, 97, 116, 105, 111, 110]⟩ ⟨#[106, 97, 118, 97, 115, 99, 114, 105, 112, 116]⟩ rfl (by decide) (by decide)]
  all_goals rw [isB_ess t u ⟨#[97, 112, 112, 108, 105, 99, 97, 116, 105, 111, 110, 47, 120, 45, 101, 99, 109, 97, 115, 99, 114, 105, 112, 116]⟩ ⟨#[97, 112, 112, 108, 105, 99, 97, 116, 105, 111, 110]⟩ ⟨#[120, 45, 101, 99, 109, 97, 115, 99, 114, 105, 112, 116]⟩ rfl (by decide) (by decide)]
  all_goals rw [isB_ess t u ⟨#[97, 112, 112, 108, 105, 99, 97, 116, 105, 111, 110, 47, 120, 45, 106, 97, 118, 97, 115, 99, 114, 105, 112, 116]⟩ ⟨#[97, 112, 112, 108, 105, 99, 97, 116, 105, 111, 110]⟩ ⟨#[120, 45, 106, 97, 118, 97, 115, 99, 114, 105, 112, 116]⟩ rfl (by decide) (by decide)]
  all_goals rw [isB_ess t u ⟨#[116, 101, 120, 116, 47, 101, 99, 109, 97, 115, 99, 114, 105, 112, 116]⟩ ⟨#[116, 101, 120, 116]⟩ ⟨#[101, 99, 109, 97, 115, 99, 114, 105, 112, 116]⟩ rfl (by decide) (by decide)]
  all_goals rw [isB_ess t u ⟨#[116, 101, 120, 116, 47, 106, 97, 118, 97, 115, 99, 114, 105, 112, 116]⟩ ⟨#[116, 101, 120, 116]⟩ ⟨#[106, 97, 118, 97, 115, 99, 114, 105, 112, 116]⟩ rfl (by decide) (by decide)]
  all_goals rw [isB_ess t u ⟨#[116, 101, 120, 116, 47, 106, 97, 118, 97, 115, 99, 114, 105, 112, 116, 49, 46, 48]⟩ ⟨#[116, 101, 120, 116]⟩ ⟨#[106, 97, 118, 97, 115, 99, 114, 105, 112, 116, 49, 46, 48]⟩ rfl (by decide) (by decide)]
  all_goals rw [isB_ess t u ⟨#[116, 101, 120, 116, 47, 106, 97, 118, 97, 115, 99, 114, 105, 112, 116, 49, 46, 49]⟩ ⟨#[116, 101, 120, 116]⟩ ⟨#[106, 97, 118, 97, 115, 99, 114, 105, 112, 116, 49, 46, 49]⟩ rfl (by decide) (by decide)]
  all_goals rw [isB_ess t u ⟨#[116, 101, 120, 116, 47, 106, 97, 118, 97, 115, 99, 114, 105, 112, 116, 49, 46, 50]⟩ ⟨#[116, 101, 120, 116]⟩ ⟨#[106, 97, 118, 97, 115, 99, 114, 105, 112, 116, 49, 46, 50]⟩ rfl (by decide) (by decide)]
  all_goals rw [isB_ess t u ⟨#[116, 101, 120, 116, 47, 106, 97, 118, 97, 115, 99, 114, 105, 112, 116, 49, 46, 51]⟩ ⟨#[116, 101, 120, 116]⟩ ⟨#[106, 97, 118, 97, 115, 99, 114, 105, 112, 116, 49, 46, 51]⟩ rfl (by decide) (by decide)]
  all_goals rw [isB_ess t u ⟨#[116, 101, 120, 116, 47, 106, 97, 118, 97, 115, 99, 114, 105, 112, 116, 49, 46, 52]⟩ ⟨#[116, 101, 120, 116]⟩ ⟨#[106, 97, 118, 97, 115, 99, 114, 105, 112, 116, 49, 46, 52]⟩ rfl (by decide) (by decide)]
  all_goals rw [isB_ess t u ⟨#[116, 101, 120, 116, 47, 106, 97, 118, 97, 115, 99, 114, 105, 112, 116, 49, 46, 53]⟩ ⟨#[116, 101, 120, 116]⟩ ⟨#[106, 97, 118, 97, 115, 99, 114, 105, 112, 116, 49, 46, 53]⟩ rfl (by decide) (by decide)]
  all_goals rw [isB_ess t u ⟨#[116, 101, 120, 116, 47, 106, 115, 99, 114, 105, 112, 116]⟩ ⟨#[116, 101, 120, 116]⟩ ⟨#[106, 115, 99, 114, 105, 112, 116]⟩ rfl (by decide) (by decide)]
  all_goals rw [isB_ess t u ⟨#[116, 101, 120, 116, 47, 108, 105, 118, 101, 115, 99, 114, 105, 112, 116]⟩ ⟨#[116, 101, 120, 116]⟩ ⟨#[108, 105, 118, 101, 115, 99, 114, 105, 112, 116]⟩ rfl (by decide) (by decide)]
  all_goals rw [isB_ess t u ⟨#[116, 101, 120, 116, 47, 120, 45, 101, 99, 109, 97, 115, 99, 114, 105, 112, 116]⟩ ⟨#[116, 101, 120, 116]⟩ ⟨#[120, 45, 101, 99, 109, 97, 115, 99, 114, 105, 112, 116]⟩ rfl (by decide) (by decide)]
  all_goals rw [isB_ess t u ⟨#[116, 101, 120, 116, 47, 120, 45, 106, 97, 118, 97, 115, 99, 114, 105, 112, 116]⟩ ⟨#[116, 101, 120, 116]⟩ ⟨#[120, 45, 106, 97, 118, 97, 115, 99, 114, 105, 112, 116]⟩ rfl (by decide) (by decide)]
  all_goals generalize isB u ⟨#[101, 99, 109, 97, 115, 99, 114, 105, 112, 116]⟩ = c0
  all_goals generalize isB u ⟨#[106, 97, 118, 97, 115, 99, 114, 105, 112, 116]⟩ = c1
  all_goals generalize isB u ⟨#[120, 45, 101, 99, 109, 97, 115, 99, 114, 105, 112, 116]⟩ = c2
  all_goals generalize isB u ⟨#[120, 45, 106, 97, 118, 97, 115, 99, 114, 105, 112, 116]⟩ = c3
  all_goals generalize isB u ⟨#[106, 97, 118, 97, 115, 99, 114, 105, 112, 116, 49, 46, 48]⟩ = c4
  all_goals generalize isB u ⟨#[106, 97, 118, 97, 115, 99, 114, 105, 112, 116, 49, 46, 49]⟩ = c5
  all_goals generalize isB u ⟨#[106, 97, 118, 97, 115, 99, 114, 105, 112, 116, 49, 46, 50]⟩ = c6
  all_goals generalize isB u ⟨#[106, 97, 118, 97, 115, 99, 114, 105, 112, 116, 49, 46, 51]⟩ = c7
  all_goals generalize isB u ⟨#[106, 97, 118, 97, 115, 99, 114, 105, 112, 116, 49, 46, 52]⟩ = c8
  all_goals generalize isB u ⟨#[106, 97, 118, 97, 115, 99, 114, 105, 112, 116, 49, 46, 53]⟩ = c9
  all_goals generalize isB u ⟨#[106, 115, 99, 114, 105, 112, 116]⟩ = c10
  all_goals generalize isB u ⟨#[108, 105, 118, 101, 115, 99, 114, 105, 112, 116]⟩ = c11
  all_goals generalize isB t ⟨#[97, 112, 112, 108, 105, 99, 97, 116, 105, 111, 110]⟩ = a0
  all_goals generalize isB t ⟨#[116, 101, 120, 116]⟩ = a1
  all_goals (cases a0 <;> cases a1 <;> simp [Bool.or_assoc, Bool.or_comm, Bool.or_left_comm])

set_option maxRecDepth 20000 in
set_option maxHeartbeats 4000000 in
theorem media_eq (t u : ByteArray) : mediaB t u = rMediaB t u := by
  unfold mediaB rMediaB
  rw [under_list t u ⟨#[97, 112, 112, 108, 105, 99, 97, 116, 105, 111, 110]⟩ ⟨#[111, 103, 103]⟩ [⟨#[111, 103, 103]⟩] (by kernel_rfl)]
  all_goals try simp only [oneB, List.any_cons, List.any_nil, Bool.or_false]
  all_goals rw [isB_ess2 t u ⟨#[97, 112, 112, 108, 105, 99, 97, 116, 105, 111, 110, 47, 111, 103, 103]⟩ ⟨#[97, 112, 112, 108, 105, 99, 97, 116, 105, 111, 110]⟩ ⟨#[111, 103, 103]⟩ rfl (by decide) (by decide)]
  all_goals generalize isB u ⟨#[111, 103, 103]⟩ = c0
  all_goals generalize isB t ⟨#[97, 117, 100, 105, 111]⟩ = a0
  all_goals generalize isB t ⟨#[118, 105, 100, 101, 111]⟩ = a1
  all_goals generalize isB t ⟨#[97, 112, 112, 108, 105, 99, 97, 116, 105, 111, 110]⟩ = a2
  all_goals (cases a0 <;> cases a1 <;> cases a2 <;> simp [Bool.or_assoc, Bool.or_comm, Bool.or_left_comm])

set_option maxRecDepth 20000 in
set_option maxHeartbeats 4000000 in
theorem font_eq (t u : ByteArray) : fontB t u = rFontB t u := by
  unfold fontB rFontB
  rw [under_list t u ⟨#[97, 112, 112, 108, 105, 99, 97, 116, 105, 111, 110]⟩ ⟨#[102, 111, 110, 116, 45, 99, 102, 102, 32, 102, 111, 110, 116, 45, 111, 102, 102, 32, 102, 111, 110, 116, 45, 115, 102, 110, 116, 32, 102, 111, 110, 116, 45, 116, 116, 102, 32, 102, 111, 110, 116, 45, 119, 111, 102, 102, 32, 118, 110, 100, 46, 109, 115, 45, 102, 111, 110, 116, 111, 98, 106, 101, 99, 116, 32, 118, 110, 100, 46, 109, 115, 45, 111, 112, 101, 110, 116, 121, 112, 101]⟩ [⟨#[102, 111, 110, 116, 45, 99, 102, 102]⟩, ⟨#[102, 111, 110, 116, 45, 111, 102, 102]⟩, ⟨#[102, 111, 110, 116, 45, 115, 102, 110, 116]⟩, ⟨#[102, 111, 110, 116, 45, 116, 116, 102]⟩, ⟨#[102, 111, 110, 116, 45, 119, 111, 102, 102]⟩, ⟨#[118, 110, 100, 46, 109, 115, 45, 102, 111, 110, 116, 111, 98, 106, 101, 99, 116]⟩, ⟨#[118, 110, 100, 46, 109, 115, 45, 111, 112, 101, 110, 116, 121, 112, 101]⟩] (by kernel_rfl)]
  all_goals try simp only [oneB, List.any_cons, List.any_nil, Bool.or_false]
  all_goals rw [isB_ess t u ⟨#[97, 112, 112, 108, 105, 99, 97, 116, 105, 111, 110, 47, 102, 111, 110, 116, 45, 99, 102, 102]⟩ ⟨#[97, 112, 112, 108, 105, 99, 97, 116, 105, 111, 110]⟩ ⟨#[102, 111, 110, 116, 45, 99, 102, 102]⟩ rfl (by decide) (by decide)]
  all_goals rw [isB_ess t u ⟨#[97, 112, 112, 108, 105, 99, 97, 116, 105, 111, 110, 47, 102, 111, 110, 116, 45, 111, 102, 102]⟩ ⟨#[97, 112, 112, 108, 105, 99, 97, 116, 105, 111, 110]⟩ ⟨#[102, 111, 110, 116, 45, 111, 102, 102]⟩ rfl (by decide) (by decide)]
  all_goals rw [isB_ess t u ⟨#[97, 112, 112, 108, 105, 99, 97, 116, 105, 111, 110, 47, 102, 111, 110, 116, 45, 115, 102, 110, 116]⟩ ⟨#[97, 112, 112, 108, 105, 99, 97, 116, 105, 111, 110]⟩ ⟨#[102, 111, 110, 116, 45, 115, 102, 110, 116]⟩ rfl (by decide) (by decide)]
  all_goals rw [isB_ess t u ⟨#[97, 112, 112, 108, 105, 99, 97, 116, 105, 111, 110, 47, 102, 111, 110, 116, 45, 116, 116, 102]⟩ ⟨#[97, 112, 112, 108, 105, 99, 97, 116, 105, 111, 110]⟩ ⟨#[102, 111, 110, 116, 45, 116, 116, 102]⟩ rfl (by decide) (by decide)]
  all_goals rw [isB_ess t u ⟨#[97, 112, 112, 108, 105, 99, 97, 116, 105, 111, 110, 47, 102, 111, 110, 116, 45, 119, 111, 102, 102]⟩ ⟨#[97, 112, 112, 108, 105, 99, 97, 116, 105, 111, 110]⟩ ⟨#[102, 111, 110, 116, 45, 119, 111, 102, 102]⟩ rfl (by decide) (by decide)]
  all_goals rw [isB_ess t u ⟨#[97, 112, 112, 108, 105, 99, 97, 116, 105, 111, 110, 47, 118, 110, 100, 46, 109, 115, 45, 102, 111, 110, 116, 111, 98, 106, 101, 99, 116]⟩ ⟨#[97, 112, 112, 108, 105, 99, 97, 116, 105, 111, 110]⟩ ⟨#[118, 110, 100, 46, 109, 115, 45, 102, 111, 110, 116, 111, 98, 106, 101, 99, 116]⟩ rfl (by decide) (by decide)]
  all_goals rw [isB_ess t u ⟨#[97, 112, 112, 108, 105, 99, 97, 116, 105, 111, 110, 47, 118, 110, 100, 46, 109, 115, 45, 111, 112, 101, 110, 116, 121, 112, 101]⟩ ⟨#[97, 112, 112, 108, 105, 99, 97, 116, 105, 111, 110]⟩ ⟨#[118, 110, 100, 46, 109, 115, 45, 111, 112, 101, 110, 116, 121, 112, 101]⟩ rfl (by decide) (by decide)]
  all_goals generalize isB u ⟨#[102, 111, 110, 116, 45, 99, 102, 102]⟩ = c0
  all_goals generalize isB u ⟨#[102, 111, 110, 116, 45, 111, 102, 102]⟩ = c1
  all_goals generalize isB u ⟨#[102, 111, 110, 116, 45, 115, 102, 110, 116]⟩ = c2
  all_goals generalize isB u ⟨#[102, 111, 110, 116, 45, 116, 116, 102]⟩ = c3
  all_goals generalize isB u ⟨#[102, 111, 110, 116, 45, 119, 111, 102, 102]⟩ = c4
  all_goals generalize isB u ⟨#[118, 110, 100, 46, 109, 115, 45, 102, 111, 110, 116, 111, 98, 106, 101, 99, 116]⟩ = c5
  all_goals generalize isB u ⟨#[118, 110, 100, 46, 109, 115, 45, 111, 112, 101, 110, 116, 121, 112, 101]⟩ = c6
  all_goals generalize isB t ⟨#[102, 111, 110, 116]⟩ = a0
  all_goals generalize isB t ⟨#[97, 112, 112, 108, 105, 99, 97, 116, 105, 111, 110]⟩ = a1
  all_goals (cases a0 <;> cases a1 <;> simp [Bool.or_assoc, Bool.or_comm, Bool.or_left_comm])

set_option maxRecDepth 20000 in
set_option maxHeartbeats 4000000 in
theorem zip_eq (t u : ByteArray) : zipB t u = rZipB t u := by
  unfold zipB rZipB
  rw [under_list t u ⟨#[97, 112, 112, 108, 105, 99, 97, 116, 105, 111, 110]⟩ ⟨#[122, 105, 112]⟩ [⟨#[122, 105, 112]⟩] (by kernel_rfl)]
  all_goals try simp only [oneB, List.any_cons, List.any_nil, Bool.or_false]
  all_goals rw [isB_ess2 t u ⟨#[97, 112, 112, 108, 105, 99, 97, 116, 105, 111, 110, 47, 122, 105, 112]⟩ ⟨#[97, 112, 112, 108, 105, 99, 97, 116, 105, 111, 110]⟩ ⟨#[122, 105, 112]⟩ rfl (by decide) (by decide)]
  all_goals generalize isB u ⟨#[122, 105, 112]⟩ = c0
  all_goals generalize isB t ⟨#[97, 112, 112, 108, 105, 99, 97, 116, 105, 111, 110]⟩ = a0
  all_goals generalize Lib.hasSuffix u.data.toList [43, 122, 105, 112] = s0
  all_goals (cases a0 <;> simp [Bool.or_assoc, Bool.or_comm, Bool.or_left_comm])

set_option maxRecDepth 20000 in
set_option maxHeartbeats 4000000 in
theorem archive_eq (t u : ByteArray) : archiveB t u = rArchiveB t u := by
  unfold archiveB rArchiveB
  rw [under_list t u ⟨#[97, 112, 112, 108, 105, 99, 97, 116, 105, 111, 110]⟩ ⟨#[120, 45, 114, 97, 114, 45, 99, 111, 109, 112, 114, 101, 115, 115, 101, 100, 32, 122, 105, 112, 32, 120, 45, 103, 122, 105, 112]⟩ [⟨#[120, 45, 114, 97, 114, 45, 99, 111, 109, 112, 114, 101, 115, 115, 101, 100]⟩, ⟨#[122, 105, 112]⟩, ⟨#[120, 45, 103, 122, 105, 112]⟩] (by kernel_rfl)]
  all_goals try simp only [oneB, List.any_cons, List.any_nil, Bool.or_false]
  all_goals rw [isB_ess t u ⟨#[97, 112, 112, 108, 105, 99, 97, 116, 105, 111, 110, 47, 120, 45, 114, 97, 114, 45, 99, 111, 109, 112, 114, 101, 115, 115, 101, 100]⟩ ⟨#[97, 112, 112, 108, 105, 99, 97, 116, 105, 111, 110]⟩ ⟨#[120, 45, 114, 97, 114, 45, 99, 111, 109, 112, 114, 101, 115, 115, 101, 100]⟩ rfl (by decide) (by decide)]
  all_goals rw [isB_ess t u ⟨#[97, 112, 112, 108, 105, 99, 97, 116, 105, 111, 110, 47, 122, 105, 112]⟩ ⟨#[97, 112, 112, 108, 105, 99, 97, 116, 105, 111, 110]⟩ ⟨#[122, 105, 112]⟩ rfl (by decide) (by decide)]
  all_goals rw [isB_ess t u ⟨#[97, 112, 112, 108, 105, 99, 97, 116, 105, 111, 110, 47, 120, 45, 103, 122, 105, 112]⟩ ⟨#[97, 112, 112, 108, 105, 99, 97, 116, 105, 111, 110]⟩ ⟨#[120, 45, 103, 122, 105, 112]⟩ rfl (by decide) (by decide)]
  all_goals generalize isB u ⟨#[120, 45, 114, 97, 114, 45, 99, 111, 109, 112, 114, 101, 115, 115, 101, 100]⟩ = c0
  all_goals generalize isB u ⟨#[122, 105, 112]⟩ = c1
  all_goals generalize isB u ⟨#[120, 45, 103, 122, 105, 112]⟩ = c2
  all_goals generalize isB t ⟨#[97, 112, 112, 108, 105, 99, 97, 116, 105, 111, 110]⟩ = a0
  all_goals (cases a0 <;> simp [Bool.or_assoc, Bool.or_comm, Bool.or_left_comm])

set_option maxRecDepth 20000 in
set_option maxHeartbeats 4000000 in
theorem scriptable_eq (t u : ByteArray) : scriptableB t u = rScriptableB t u := by
  unfold scriptableB rScriptableB
  rw [xml_eq]
  rw [html_eq]
  rw [under_list t u ⟨#[97, 112, 112, 108, 105, 99, 97, 116, 105, 111, 110]⟩ ⟨#[112, 100, 102]⟩ [⟨#[112, 100, 102]⟩] (by kernel_rfl)]
  all_goals try simp only [oneB, List.any_cons, List.any_nil, Bool.or_false]
  all_goals rw [isB_ess2 t u ⟨#[97, 112, 112, 108, 105, 99, 97, 116, 105, 111, 110, 47, 112, 100, 102]⟩ ⟨#[97, 112, 112, 108, 105, 99, 97, 116, 105, 111, 110]⟩ ⟨#[112, 100, 102]⟩ rfl (by decide) (by decide)]
  all_goals generalize isB u ⟨#[112, 100, 102]⟩ = c0
  all_goals generalize isB t ⟨#[97, 112, 112, 108, 105, 99, 97, 116, 105, 111, 110]⟩ = a0
  all_goals generalize rXmlB t u = fXml
  all_goals generalize rHtmlB t u = fHtml
  all_goals (cases a0 <;> simp [Bool.or_assoc, Bool.or_comm, Bool.or_left_comm])

set_option maxRecDepth 20000 in
set_option maxHeartbeats 4000000 in
theorem safe_eq (t u : ByteArray) : safeB t u = rSafeB t u := by
  unfold safeB rSafeB
  rw [script_eq]
  rw [under_list t u ⟨#[116, 101, 120, 116]⟩ ⟨#[99, 115, 115]⟩ [⟨#[99, 115, 115]⟩] (by kernel_rfl)]
  all_goals try simp only [oneB, List.any_cons, List.any_nil, Bool.or_false]
  all_goals rw [isB_ess2 t u ⟨#[105, 109, 97, 103, 101, 47, 115, 118, 103, 43, 120, 109, 108]⟩ ⟨#[105, 109, 97, 103, 101]⟩ ⟨#[115, 118, 103, 43, 120, 109, 108]⟩ rfl (by decide) (by decide)]
  all_goals rw [isB_ess t u ⟨#[116, 101, 120, 116, 47, 99, 115, 115]⟩ ⟨#[116, 101, 120, 116]⟩ ⟨#[99, 115, 115]⟩ rfl (by decide) (by decide)]
  all_goals rw [isB_ess t u ⟨#[105, 109, 97, 103, 101, 47, 115, 118, 103, 43, 120, 109, 108]⟩ ⟨#[105, 109, 97, 103, 101]⟩ ⟨#[115, 118, 103, 43, 120, 109, 108]⟩ rfl (by decide) (by decide)]
  all_goals generalize isB u ⟨#[99, 115, 115]⟩ = c0
  all_goals generalize isB u ⟨#[115, 118, 103, 43, 120, 109, 108]⟩ = c1
  all_goals generalize isB t ⟨#[116, 101, 120, 116]⟩ = a0
  all_goals generalize isB t ⟨#[105, 109, 97, 103, 101]⟩ = a1
  all_goals generalize rScriptB t u = fScript
  all_goals (cases a0 <;> cases a1 <;> simp [Bool.or_assoc, Bool.or_comm, Bool.or_left_comm])

set_option maxRecDepth 20000 in
set_option maxHeartbeats 4000000 in
theorem never_eq (t u : ByteArray) : neverB t u = rNeverB t u := by
  unfold neverB rNeverB
  rw [under_list t u ⟨#[97, 112, 112, 108, 105, 99, 97, 116, 105, 111, 110]⟩ ⟨#[100, 97, 115, 104, 43, 120, 109, 108, 32, 103, 122, 105, 112, 32, 109, 115, 101, 120, 99, 101, 108, 32, 109, 115, 112, 111, 119, 101, 114, 112, 111, 105, 110, 116, 32, 109, 115, 119, 111, 114, 100, 32, 112, 100, 102, 32, 120, 45, 103, 122, 105, 112, 32, 120, 45, 112, 114, 111, 116, 111, 98, 117, 102, 32, 122, 105, 112, 32, 118, 110, 100, 46, 97, 112, 112, 108, 101, 46, 109, 112, 101, 103, 117, 114, 108, 32, 118, 110, 100, 46, 109, 115, 45, 101, 120, 99, 101, 108, 32, 118, 110, 100, 46, 109, 115, 45, 112, 111, 119, 101, 114, 112, 111, 105, 110, 116, 32, 118, 110, 100, 46, 109, 115, 45, 119, 111, 114, 100, 32, 118, 110, 100, 46, 111, 112, 101, 110, 120, 109, 108, 102, 111, 114, 109, 97, 116, 115, 45, 111, 102, 102, 105, 99, 101, 100, 111, 99, 117, 109, 101, 110, 116, 46, 119, 111, 114, 100, 112, 114, 111, 99, 101, 115, 115, 105, 110, 103, 109, 108, 46, 100, 111, 99, 117, 109, 101, 110, 116]⟩ [⟨#[100, 97, 115, 104, 43, 120, 109, 108]⟩, ⟨#[103, 122, 105, 112]⟩, ⟨#[109, 115, 101, 120, 99, 101, 108]⟩, ⟨#[109, 115, 112, 111, 119, 101, 114, 112, 111, 105, 110, 116]⟩, ⟨#[109, 115, 119, 111, 114, 100]⟩, ⟨#[112, 100, 102]⟩, ⟨#[120, 45, 103, 122, 105, 112]⟩, ⟨#[120, 45, 112, 114, 111, 116, 111, 98, 117, 102]⟩, ⟨#[122, 105, 112]⟩, ⟨#[118, 110, 100, 46, 97, 112, 112, 108, 101, 46, 109, 112, 101, 103, 117, 114, 108]⟩, ⟨#[118, 110, 100, 46, 109, 115, 45, 101, 120, 99, 101, 108]⟩, ⟨#[118, 110, 100, 46, 109, 115, 45, 112, 111, 119, 101, 114, 112, 111, 105, 110, 116]⟩, ⟨#[118, 110, 100, 46, 109, 115, 45, 119, 111, 114, 100]⟩, ⟨#[118, 110, 100, 46, 111, 112, 101, 110, 120, 109, 108, 102, 111, 114, 109, 97, 116, 115, 45, 111, 102, 102, 105, 99, 101, 100, 111, 99, 117, 109, 101, 110, 116, 46, 119, 111, 114, 100, 112, 114, 111, 99, 101, 115, 115, 105, 110, 103, 109, 108, 46, 100, 111, 99, 117, 109, 101, 110, 116]⟩] (by kernel_rfl)]
  rw [under_list t u ⟨#[116, 101, 120, 116]⟩ ⟨#[99, 115, 118, 32, 101, 118, 101, 110, 116, 45, 115, 116, 114, 101, 97, 109, 32, 118, 116, 116]⟩ [⟨#[99, 115, 118]⟩, ⟨#[101, 118, 101, 110, 116, 45, 115, 116, 114, 101, 97, 109]⟩, ⟨#[118, 116, 116]⟩] (by kernel_rfl)]
  rw [under_list t u ⟨#[109, 117, 108, 116, 105, 112, 97, 114, 116]⟩ ⟨#[98, 121, 116, 101, 114, 97, 110, 103, 101, 115, 32, 115, 105, 103, 110, 101, 100]⟩ [⟨#[98, 121, 116, 101, 114, 97, 110, 103, 101, 115]⟩, ⟨#[115, 105, 103, 110, 101, 100]⟩] (by kernel_rfl)]
  all_goals try simp only [oneB, List.any_cons, List.any_nil, Bool.or_false]
  all_goals rw [isB_ess2 t u ⟨#[97, 117, 100, 105, 111, 47, 109, 112, 101, 103, 117, 114, 108]⟩ ⟨#[97, 117, 100, 105, 111]⟩ ⟨#[109, 112, 101, 103, 117, 114, 108]⟩ rfl (by decide) (by decide)]
  all_goals rw [isB_ess t u ⟨#[97, 112, 112, 108, 105, 99, 97, 116, 105, 111, 110, 47, 100, 97, 115, 104, 43, 120, 109, 108]⟩ ⟨#[97, 112, 112, 108, 105, 99, 97, 116, 105, 111, 110]⟩ ⟨#[100, 97, 115, 104, 43, 120, 109, 108]⟩ rfl (by decide) (by decide)]
  all_goals rw [isB_ess t u ⟨#[97, 112, 112, 108, 105, 99, 97, 116, 105, 111, 110, 47, 103, 122, 105, 112]⟩ ⟨#[97, 112, 112, 108, 105, 99, 97, 116, 105, 111, 110]⟩ ⟨#[103, 122, 105, 112]⟩ rfl (by decide) (by decide)]
  all_goals rw [isB_ess t u ⟨#[97, 112, 112, 108, 105, 99, 97, 116, 105, 111, 110, 47, 109, 115, 101, 120, 99, 101, 108]⟩ ⟨#[97, 112, 112, 108, 105, 99, 97, 116, 105, 111, 110]⟩ ⟨#[109, 115, 101, 120, 99, 101, 108]⟩ rfl (by decide) (by decide)]
  all_goals rw [isB_ess t u ⟨#[97, 112, 112, 108, 105, 99, 97, 116, 105, 111, 110, 47, 109, 115, 112, 111, 119, 101, 114, 112, 111, 105, 110, 116]⟩ ⟨#[97, 112, 112, 108, 105, 99, 97, 116, 105, 111, 110]⟩ ⟨#[109, 115, 112, 111, 119, 101, 114, 112, 111, 105, 110, 116]⟩ rfl (by decide) (by decide)]
  all_goals rw [isB_ess t u ⟨#[97, 112, 112, 108, 105, 99, 97, 116, 105, 111, 110, 47, 109, 115, 119, 111, 114, 100]⟩ ⟨#[97, 112, 112, 108, 105, 99, 97, 116, 105, 111, 110]⟩ ⟨#[109, 115, 119, 111, 114, 100]⟩ rfl (by decide) (by decide)]
  all_goals rw [isB_ess t u ⟨#[97, 112, 112, 108, 105, 99, 97, 116, 105, 111, 110, 47, 112, 100, 102]⟩ ⟨#[97, 112, 112, 108, 105, 99, 97, 116, 105, 111, 110]⟩ ⟨#[112, 100, 102]⟩ rfl (by decide) (by decide)]
  all_goals rw [isB_ess t u ⟨#[97, 112, 112, 108, 105, 99, 97, 116, 105, 111, 110, 47, 120, 45, 103, 122, 105, 112]⟩ ⟨#[97, 112, 112, 108, 105, 99, 97, 116, 105, 111, 110]⟩ ⟨#[120, 45, 103, 122, 105, 112]⟩ rfl (by decide) (by decide)]
  all_goals rw [isB_ess t u ⟨#[97, 112, 112, 108, 105, 99, 97, 116, 105, 111, 110, 47, 120, 45, 112, 114, 111, 116, 111, 98, 117, 102]⟩ ⟨#[97, 112, 112, 108, 105, 99, 97, 116, 105, 111, 110]⟩ ⟨#[120, 45, 112, 114, 111, 116, 111, 98, 117, 102]⟩ rfl (by decide) (by decide)]
  all_goals rw [isB_ess t u ⟨#[97, 112, 112, 108, 105, 99, 97, 116, 105, 111, 110, 47, 122, 105, 112]⟩ ⟨#[97, 112, 112, 108, 105, 99, 97, 116, 105, 111, 110]⟩ ⟨#[122, 105, 112]⟩ rfl (by decide) (by decide)]
  all_goals rw [isB_ess t u ⟨#[97, 112, 112, 108, 105, 99, 97, 116, 105, 111, 110, 47, 118, 110, 100, 46, 97, 112, 112, 108, 101, 46, 109, 112, 101, 103, 117, 114, 108]⟩ ⟨#[97, 112, 112, 108, 105, 99, 97, 116, 105, 111, 110]⟩ ⟨#[118, 110, 100, 46, 97, 112, 112, 108, 101, 46, 109, 112, 101, 103, 117, 114, 108]⟩ rfl (by decide) (by decide)]
  all_goals rw [isB_ess t u ⟨#[97, 112, 112, 108, 105, 99, 97, 116, 105, 111, 110, 47, 118, 110, 100, 46, 109, 115, 45, 101, 120, 99, 101, 108]⟩ ⟨#[97, 112, 112, 108, 105, 99, 97, 116, 105, 111, 110]⟩ ⟨#[118, 110, 100, 46, 109, 115, 45, 101, 120, 99, 101, 108]⟩ rfl (by decide) (by decide)]
  all_goals rw [isB_ess t u ⟨#[97, 112, 112, 108, 105, 99, 97, 116, 105, 111, 110, 47, 118, 110, 100, 46, 109, 115, 45, 112, 111, 119, 101, 114, 112, 111, 105, 110, 116]⟩ ⟨#[97, 112, 112, 108, 105, 99, 97, 116, 105, 111, 110]⟩ ⟨#[118, 110, 100, 46, 109, 115, 45, 112, 111, 119, 101, 114, 112, 111, 105, 110, 116]⟩ rfl (by decide) (by decide)]
  all_goals rw [isB_ess t u ⟨#[97, 112, 112, 108, 105, 99, 97, 116, 105, 111, 110, 47, 118, 110, 100, 46, 109, 115, 45, 119, 111, 114, 100]⟩ ⟨#[97, 112, 112, 108, 105, 99, 97, 116, 105, 111, 110]⟩ ⟨#[118, 110, 100, 46, 109, 115, 45, 119, 111, 114, 100]⟩ rfl (by decide) (by decide)]
  all_goals rw [isB_ess t u ⟨#[97, 112, 112, 108, 105, 99, 97, 116, 105, 111, 110, 47, 118, 110, 100, 46, 111, 112, 101, 110, 120, 109, 108, 102, 111, 114, 109, 97, 116, 115, 45, 111, 102, 102, 105, 99, 101, 100, 111, 99, 117, 109, 101, 110, 116, 46, 119, 111, 114, 100, 112, 114, 111, 99, 101, 115, 115, 105, 110, 103, 109, 108, 46, 100, 111, 99, 117, 109, 101, 110, 116]⟩ ⟨#[97, 112, 112, 108, 105, 99, 97, 116, 105, 111, 110]⟩ ⟨#[118, 110, 100, 46, 111, 112, 101, 110, 120, 109, 108, 102, 111, 114, 109, 97, 116, 115, 45, 111, 102, 102, 105, 99, 101, 100, 111, 99, 117, 109, 101, 110, 116, 46, 119, 111, 114, 100, 112, 114, 111, 99, 101, 115, 115, 105, 110, 103, 109, 108, 46, 100, 111, 99, 117, 109, 101, 110, 116]⟩ rfl (by decide) (by decide)]
  all_goals rw [isB_ess t u ⟨#[97, 117, 100, 105, 111, 47, 109, 112, 101, 103, 117, 114, 108]⟩ ⟨#[97, 117, 100, 105, 111]⟩ ⟨#[109, 112, 101, 103, 117, 114, 108]⟩ rfl (by decide) (by decide)]
  all_goals rw [isB_ess t u ⟨#[116, 101, 120, 116, 47, 99, 115, 118]⟩ ⟨#[116, 101, 120, 116]⟩ ⟨#[99, 115, 118]⟩ rfl (by decide) (by decide)]
  all_goals rw [isB_ess t u ⟨#[116, 101, 120, 116, 47, 101, 118, 101, 110, 116, 45, 115, 116, 114, 101, 97, 109]⟩ ⟨#[116, 101, 120, 116]⟩ ⟨#[101, 118, 101, 110, 116, 45, 115, 116, 114, 101, 97, 109]⟩ rfl (by decide) (by decide)]
  all_goals rw [isB_ess t u ⟨#[116, 101, 120, 116, 47, 118, 116, 116]⟩ ⟨#[116, 101, 120, 116]⟩ ⟨#[118, 116, 116]⟩ rfl (by decide) (by decide)]
  all_goals rw [isB_ess t u ⟨#[109, 117, 108, 116, 105, 112, 97, 114, 116, 47, 98, 121, 116, 101, 114, 97, 110, 103, 101, 115]⟩ ⟨#[109, 117, 108, 116, 105, 112, 97, 114, 116]⟩ ⟨#[98, 121, 116, 101, 114, 97, 110, 103, 101, 115]⟩ rfl (by decide) (by decide)]
  all_goals rw [isB_ess t u ⟨#[109, 117, 108, 116, 105, 112, 97, 114, 116, 47, 115, 105, 103, 110, 101, 100]⟩ ⟨#[109, 117, 108, 116, 105, 112, 97, 114, 116]⟩ ⟨#[115, 105, 103, 110, 101, 100]⟩ rfl (by decide) (by decide)]
  all_goals generalize isB u ⟨#[100, 97, 115, 104, 43, 120, 109, 108]⟩ = c0
  all_goals generalize isB u ⟨#[103, 122, 105, 112]⟩ = c1
  all_goals generalize isB u ⟨#[109, 115, 101, 120, 99, 101, 108]⟩ = c2
  all_goals generalize isB u ⟨#[109, 115, 112, 111, 119, 101, 114, 112, 111, 105, 110, 116]⟩ = c3
  all_goals generalize isB u ⟨#[109, 115, 119, 111, 114, 100]⟩ = c4
  all_goals generalize isB u ⟨#[112, 100, 102]⟩ = c5
  all_goals generalize isB u ⟨#[120, 45, 103, 122, 105, 112]⟩ = c6
  all_goals generalize isB u ⟨#[120, 45, 112, 114, 111, 116, 111, 98, 117, 102]⟩ = c7
  all_goals generalize isB u ⟨#[122, 105, 112]⟩ = c8
  all_goals generalize isB u ⟨#[118, 110, 100, 46, 97, 112, 112, 108, 101, 46, 109, 112, 101, 103, 117, 114, 108]⟩ = c9
  all_goals generalize isB u ⟨#[118, 110, 100, 46, 109, 115, 45, 101, 120, 99, 101, 108]⟩ = c10
  all_goals generalize isB u ⟨#[118, 110, 100, 46, 109, 115, 45, 112, 111, 119, 101, 114, 112, 111, 105, 110, 116]⟩ = c11
  all_goals generalize isB u ⟨#[118, 110, 100, 46, 109, 115, 45, 119, 111, 114, 100]⟩ = c12
  all_goals generalize isB u ⟨#[118, 110, 100, 46, 111, 112, 101, 110, 120, 109, 108, 102, 111, 114, 109, 97, 116, 115, 45, 111, 102, 102, 105, 99, 101, 100, 111, 99, 117, 109, 101, 110, 116, 46, 119, 111, 114, 100, 112, 114, 111, 99, 101, 115, 115, 105, 110, 103, 109, 108, 46, 100, 111, 99, 117, 109, 101, 110, 116]⟩ = c13
  all_goals generalize isB u ⟨#[99, 115, 118]⟩ = c14
  all_goals generalize isB u ⟨#[101, 118, 101, 110, 116, 45, 115, 116, 114, 101, 97, 109]⟩ = c15
  all_goals generalize isB u ⟨#[118, 116, 116]⟩ = c16
  all_goals generalize isB u ⟨#[98, 121, 116, 101, 114, 97, 110, 103, 101, 115]⟩ = c17
  all_goals generalize isB u ⟨#[115, 105, 103, 110, 101, 100]⟩ = c18
  all_goals generalize isB u ⟨#[109, 112, 101, 103, 117, 114, 108]⟩ = c19
  all_goals generalize isB t ⟨#[97, 112, 112, 108, 105, 99, 97, 116, 105, 111, 110]⟩ = a0
  all_goals generalize isB t ⟨#[116, 101, 120, 116]⟩ = a1
  all_goals generalize isB t ⟨#[109, 117, 108, 116, 105, 112, 97, 114, 116]⟩ = a2
  all_goals generalize isB t ⟨#[97, 117, 100, 105, 111]⟩ = a3
  all_goals (cases a0 <;> cases a1 <;> cases a2 <;> cases a3 <;> simp [Bool.or_assoc, Bool.or_comm, Bool.or_left_comm])

set_option maxRecDepth 20000 in
set_option maxHeartbeats 4000000 in
theorem listed_eq (t u : ByteArray) : listedB t u = rListedB t u := by
  unfold listedB rListedB
  rw [html_eq]
  rw [json_eq]
  rw [xml_eq]
  all_goals try simp only [oneB, List.any_cons, List.any_nil, Bool.or_false]
  all_goals rw [isB_ess2 t u ⟨#[105, 109, 97, 103, 101, 47, 115, 118, 103, 43, 120, 109, 108]⟩ ⟨#[105, 109, 97, 103, 101]⟩ ⟨#[115, 118, 103, 43, 120, 109, 108]⟩ rfl (by decide) (by decide)]
  all_goals generalize isB u ⟨#[115, 118, 103, 43, 120, 109, 108]⟩ = c0
  all_goals generalize isB t ⟨#[105, 109, 97, 103, 101]⟩ = a0
  all_goals generalize rHtmlB t u = fHtml
  all_goals generalize rJsonB t u = fJson
  all_goals generalize rXmlB t u = fXml
  all_goals (cases a0 <;> simp [Bool.or_assoc, Bool.or_comm, Bool.or_left_comm])

theorem one_pairs (t u : ByteArray) (ps : List (ByteArray × ByteArray)) (hf : (ps.all fun p => freeL p.1 && freeL p.2) = true) (h : oneB (essB t u) (ps.map fun p => essB p.1 p.2) = true) : (t, u) ∈ ps := by
  unfold oneB at h
  rw [List.any_map, List.any_eq_true] at h
  obtain ⟨p, hp, he⟩ := h
  have hq := List.all_eq_true.1 hf p hp
  simp only [Bool.and_eq_true] at hq
  have he2 : essB t u = essB p.1 p.2 := by
    have : essB p.1 p.2 = essB t u := by simpa [isB] using he
    exact this.symm
  obtain ⟨rfl, rfl⟩ := (essB_inj t u p.1 p.2 hq.1 hq.2).1 he2
  exact hp

def scriptPairs : List (ByteArray × ByteArray) := [(⟨#[97, 112, 112, 108, 105, 99, 97, 116, 105, 111, 110]⟩, ⟨#[101, 99, 109, 97, 115, 99, 114, 105, 112, 116]⟩), (⟨#[97, 112, 112, 108, 105, 99, 97, 116, 105, 111, 110]⟩, ⟨#[106, 97, 118, 97, 115, 99, 114, 105, 112, 116]⟩), (⟨#[97, 112, 112, 108, 105, 99, 97, 116, 105, 111, 110]⟩, ⟨#[120, 45, 101, 99, 109, 97, 115, 99, 114, 105, 112, 116]⟩), (⟨#[97, 112, 112, 108, 105, 99, 97, 116, 105, 111, 110]⟩, ⟨#[120, 45, 106, 97, 118, 97, 115, 99, 114, 105, 112, 116]⟩), (⟨#[116, 101, 120, 116]⟩, ⟨#[101, 99, 109, 97, 115, 99, 114, 105, 112, 116]⟩), (⟨#[116, 101, 120, 116]⟩, ⟨#[106, 97, 118, 97, 115, 99, 114, 105, 112, 116]⟩), (⟨#[116, 101, 120, 116]⟩, ⟨#[106, 97, 118, 97, 115, 99, 114, 105, 112, 116, 49, 46, 48]⟩), (⟨#[116, 101, 120, 116]⟩, ⟨#[106, 97, 118, 97, 115, 99, 114, 105, 112, 116, 49, 46, 49]⟩), (⟨#[116, 101, 120, 116]⟩, ⟨#[106, 97, 118, 97, 115, 99, 114, 105, 112, 116, 49, 46, 50]⟩), (⟨#[116, 101, 120, 116]⟩, ⟨#[106, 97, 118, 97, 115, 99, 114, 105, 112, 116, 49, 46, 51]⟩), (⟨#[116, 101, 120, 116]⟩, ⟨#[106, 97, 118, 97, 115, 99, 114, 105, 112, 116, 49, 46, 52]⟩), (⟨#[116, 101, 120, 116]⟩, ⟨#[106, 97, 118, 97, 115, 99, 114, 105, 112, 116, 49, 46, 53]⟩), (⟨#[116, 101, 120, 116]⟩, ⟨#[106, 115, 99, 114, 105, 112, 116]⟩), (⟨#[116, 101, 120, 116]⟩, ⟨#[108, 105, 118, 101, 115, 99, 114, 105, 112, 116]⟩), (⟨#[116, 101, 120, 116]⟩, ⟨#[120, 45, 101, 99, 109, 97, 115, 99, 114, 105, 112, 116]⟩), (⟨#[116, 101, 120, 116]⟩, ⟨#[120, 45, 106, 97, 118, 97, 115, 99, 114, 105, 112, 116]⟩)]

def safePairs : List (ByteArray × ByteArray) := [(⟨#[116, 101, 120, 116]⟩, ⟨#[99, 115, 115]⟩), (⟨#[105, 109, 97, 103, 101]⟩, ⟨#[115, 118, 103, 43, 120, 109, 108]⟩)]

set_option maxRecDepth 20000 in
theorem safe_in (t u : ByteArray) (h : safeB t u = true) : (t, u) ∈ scriptPairs ++ safePairs := by
  rw [safe_eq] at h
  unfold rSafeB rScriptB at h
  rw [Bool.or_eq_true] at h
  rcases h with h | h
  · exact List.mem_append_left _ (one_pairs t u scriptPairs (by decide) h)
  · exact List.mem_append_right _ (one_pairs t u safePairs (by decide) h)

set_option maxRecDepth 20000 in
theorem safe_listed (t u : ByteArray) : (safeB t u && listedB t u) = false := by
  cases h : safeB t u
  · rfl
  · have hm := safe_in t u h
    have hall : ((scriptPairs ++ safePairs).all fun p => !(rListedB p.1 p.2)) = true := by kernel_rfl
    have := List.all_eq_true.1 hall _ hm
    rw [listed_eq]
    simpa using this

theorem html_both (t u : ByteArray) (h : htmlB t u = true) : listedB t u = true ∧ scriptableB t u = true := by
  unfold listedB scriptableB
  simp [h]

def lifeT : ByteArray := ⟨#[105, 109, 97, 103, 101]⟩

def lifeU : ByteArray := ⟨#[115, 118, 103, 43, 120, 109, 108]⟩

theorem life_says : safeB lifeT lifeU = true ∧ xmlB lifeT lifeU = true ∧ listedB lifeT lifeU = false := by
  refine ⟨by kernel_rfl, by kernel_rfl, by kernel_rfl⟩

end Go.Proofs.YtcbhkcdphbffpaaGreatDoor

namespace Go.Proofs.YtcbhkcdphbffpaaGreatDoor
open Go.RowKit
set_option linter.unusedSimpArgs false
set_option linter.unusedVariables false

def wNone : ByteArray := ⟨#[]⟩

def wOpen : ByteArray := ⟨#[111, 112, 101, 110]⟩

def wSafe : ByteArray := ⟨#[115, 97, 102, 101]⟩

def wNever : ByteArray := ⟨#[110, 101, 118, 101, 114]⟩

def wPartial : ByteArray := ⟨#[112, 97, 114, 116, 105, 97, 108]⟩

def wNosniff : ByteArray := ⟨#[110, 111, 115, 110, 105, 102, 102]⟩

def wValidated : ByteArray := ⟨#[118, 97, 108, 105, 100, 97, 116, 101, 100]⟩

def wRange : ByteArray := ⟨#[114, 97, 110, 103, 101]⟩

/-- The rule, by what is known of the request and of the response. -/
def ofB (g safe never part listed ns plain later first : Bool) : Int × ByteArray :=
  if g = false then (1, wOpen)
  else if safe = true then (1, wSafe)
  else if never = true then (2, wNever)
  else if (part && listed) = true then (2, wPartial)
  else if (ns && (listed || plain)) = true then (2, wNosniff)
  else if later = true then (1, wValidated)
  else if (part && !first) = true then (2, wRange)
  else (0, wNone)

/-- What headers decide. -/
def ofL (cr nc : Bool) (md st : Int) (l : Pars) (k : Bool) : Int × ByteArray :=
  ofB (cr && nc) ((kindM l).2 && safeB (bt (kindM l).1.t) (bt (kindM l).1.s)) ((kindM l).2 && neverB (bt (kindM l).1.t) (bt (kindM l).1.s)) (st == 206)
    ((kindM l).2 && listedB (bt (kindM l).1.t) (bt (kindM l).1.s)) (noSniff l) (plainB (kindM l).1 (kindM l).2) ((md == 2) && k) (firstL l)

/-- What lies in memory and stays so. -/
structure Kp (w0 W : World) (S : List (Nat × Obj)) : Prop where
  b : Below w0.heap.size w0 W
  h : ∀ p ∈ S, W.heap[p.1]? = some p.2

theorem Kp.on {w0 W W2 : World} {S : List (Nat × Obj)} (h : Kp w0 W S) (hb : Below W.heap.size W W2) : Kp w0 W2 S :=
  ⟨h.b.trans (hb.mono h.b.size), fun p hp => (hb.block _ (Array.getElem?_eq_some_iff.1 (h.h p hp)).1).trans (h.h p hp)⟩

theorem Kp.nil (w : World) : Kp w w [] := ⟨Below.refl _ _, fun p hp => by cases hp⟩

theorem Kp.box {w0 W : World} {S : List (Nat × Obj)} (h : Kp w0 W S) (o : Obj) : Kp w0 (W.alloc o) ((W.heap.size, o) :: S) := by
  refine ⟨h.b.trans ((below_box W o).mono h.b.size), fun p hp => ?_⟩
  rcases List.mem_cons.1 hp with rfl | hp
  · exact heap_alloc_new W o
  · exact ((below_box W o).block _ (Array.getElem?_eq_some_iff.1 (h.h p hp)).1).trans (h.h p hp)

/-- A request, a verdict in memory. -/
def askO (url : ByteArray) (cr nc : Bool) (md : Int) : Obj := .cells #[.string url, .bool cr, .bool nc, .int .i64 md] 23 (0, 0)
def judO (v : Int) (s : ByteArray) : Obj := .cells #[.int .i64 v, .string s, .int .i64 0, .bool false] 30 (0, 0)

theorem ask_cells {w : World} {g : Nat} {u : ByteArray} {x y : Bool} {md : Int} (h : w.heap[g]? = some (askO u x y md)) :
    w.cell? ⟨g, 0, none⟩ = some (.string u) ∧ w.cell? ⟨g, 1, none⟩ = some (.bool x) ∧ w.cell? ⟨g, 2, none⟩ = some (.bool y) ∧ w.cell? ⟨g, 3, none⟩ = some (.int .i64 md) ∧ (∀ i, w.frozen? ⟨g, i, none⟩ = false) ∧ g < w.heap.size := by
  refine ⟨?_, ?_, ?_, ?_, ?_, (Array.getElem?_eq_some_iff.1 h).1⟩
  · rw [Lib.cell_of_heap h]; rfl
  · rw [Lib.cell_of_heap h]; rfl
  · rw [Lib.cell_of_heap h]; rfl
  · rw [Lib.cell_of_heap h]; rfl
  · exact fun i => Lib.frozen_of_heap h i

theorem jud_cells {w : World} {g : Nat} {v : Int} {s : ByteArray} (h : w.heap[g]? = some (judO v s)) :
    w.cell? ⟨g, 0, none⟩ = some (.int .i64 v) ∧ w.cell? ⟨g, 1, none⟩ = some (.string s) ∧ w.cell? ⟨g, 2, none⟩ = some (.int .i64 0) ∧ w.cell? ⟨g, 3, none⟩ = some (.bool false) ∧ (∀ i, w.frozen? ⟨g, i, none⟩ = false) ∧ g < w.heap.size := by
  refine ⟨?_, ?_, ?_, ?_, ?_, (Array.getElem?_eq_some_iff.1 h).1⟩
  · rw [Lib.cell_of_heap h]; rfl
  · rw [Lib.cell_of_heap h]; rfl
  · rw [Lib.cell_of_heap h]; rfl
  · rw [Lib.cell_of_heap h]; rfl
  · exact fun i => Lib.frozen_of_heap h i

theorem Kp.box3 (w : World) (o1 o2 o3 : Obj) : Kp w (((w.alloc o1).alloc o2).alloc o3) [(w.heap.size + 1 + 1, o3), (w.heap.size + 1, o2), (w.heap.size, o1)] := by
  have := (((Kp.nil w).box o1).box o2).box o3
  rwa [show ((w.alloc o1).alloc o2).heap.size = w.heap.size + 1 + 1 by simp, show (w.alloc o1).heap.size = w.heap.size + 1 by simp] at this

theorem Kp.h0 {w0 W : World} {g0 : Nat} {o0 : Obj} {S : List (Nat × Obj)} (h : Kp w0 W ((g0, o0) :: S)) : W.heap[g0]? = some o0 := h.h _ (.head _)

theorem Kp.tl {w0 W : World} {p0 : Nat × Obj} {S : List (Nat × Obj)} (h : Kp w0 W (p0 :: S)) : Kp w0 W S := ⟨h.b, fun p hp => h.h p (.tail _ hp)⟩

theorem ess_eq (M : MimeL) : essB (bt M.t) (bt M.s) = bt (essL M) := by
  unfold essB essL
  rw [show (⟨#[47]⟩ : ByteArray) = bt [47] from rfl, bt_append, bt_append]
  simp

theorem sizeT {M : MimeL} (h : SizesM M) : (bt M.t).size ≤ 1100 := by rw [bt_size]; exact h.t

theorem sizeS {M : MimeL} (h : SizesM M) : (bt M.s).size ≤ 1100 := by rw [bt_size]; exact h.s

theorem fewP_fewR {l : Pars} (h : FewP l) : FewR l := ⟨h.n, h.p⟩

end Go.Proofs.YtcbhkcdphbffpaaGreatDoor
