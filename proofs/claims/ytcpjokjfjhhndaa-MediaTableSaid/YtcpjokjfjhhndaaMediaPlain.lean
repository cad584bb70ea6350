/-
  In plain Lean: no bytes are a picture and a sound or film, and which may still be both.
-/
import Derived.Test.YtcpjokjfjhhndaaMediaB
import Derived.Test.YtcpjokjfjhhndaaImageB
import Derived.Test.YtcpjokjfjhhndaaTabGrow
namespace Go.Proofs.Ytcpjokjfjhhndaa
set_option linter.unusedSimpArgs false
set_option linter.unusedVariables false

theorem medFull : Fulls medTable := by
  have h : ∀ p ∈ medTable, p.full = true := by decide +kernel
  exact fun i hi => h _ (List.getElem_mem hi)

theorem medClash : Clashes medTable := by
  have h : ∀ i < 6, ∀ j < 6, i ≠ j → clashP (medTable.getD i ⟨⟨#[]⟩, ⟨#[]⟩, ⟨#[]⟩, ⟨#[]⟩⟩) (medTable.getD j ⟨⟨#[]⟩, ⟨#[]⟩, ⟨#[]⟩, ⟨#[]⟩⟩) = true := by decide +kernel
  intro i j hi hj hne
  have := h i hi j hj hne
  rwa [List.getD_eq_getElem?_getD, List.getD_eq_getElem?_getD, List.getElem?_eq_getElem hi, List.getElem?_eq_getElem hj] at this

theorem medSelf : ∀ i (hi : i < medTable.length), matchP medTable[i].b medTable[i] = true := by
  have h : ∀ p ∈ medTable, matchP p.b p = true := by decide +kernel
  exact fun i hi => h _ (List.getElem_mem hi)

theorem med_img_clash : ∀ p ∈ medTable, ∀ q ∈ imgTable, clashP p q = true := by decide +kernel

/-- No bytes are both. -/
theorem media_apart (s : ByteArray) (h1 : (typeP s medTable).toList ≠ []) : (typeP s imgTable).toList = [] := by
  by_cases h : findN s medTable < medTable.length
  · refine type_none (fun g => ?_)
    have m1 := findN_spec h
    have m2 := findN_spec g
    have := (clash_match (medFull _ h) (imgFull _ g) (med_img_clash _ (List.getElem_mem h) _ (List.getElem_mem g)) m1).1
    rw [m2] at this
    cases this
  · exact absurd (type_none h) h1

theorem needs_open {s : ByteArray} {ps : List Pat} (h : 0 < needsN s ps) : ∃ p ∈ ps, openP s p = true := by
  have hm : ¬ findN s ps < ps.length := fun hm => by unfold needsN at h; rw [if_pos hm] at h; omega
  have en : needsN s ps = foldN s ps 0 := by unfold needsN; rw [if_neg hm]
  exact fold_some s ps (by omega)

theorem agreeL_at : ∀ (s b m : List UInt8), agreeL s b m = true → ∀ i (h1 : i < s.length) (h2 : i < b.length) (h3 : i < m.length), s[i] &&& m[i] = b[i]
  | x :: s, y :: b, z :: m, h, i, h1, h2, h3 => by
    simp only [agreeL, Bool.and_eq_true, beq_iff_eq] at h
    cases i with
    | zero => exact h.1
    | succ i => exact agreeL_at s b m h.2 i (by simpa using h1) (by simpa using h2) (by simpa using h3)
  | [], _, _, _, i, h1, _, _ => by simp at h1
  | _ :: _, [], _, _, i, _, h2, _ => by simp at h2
  | _ :: _, _ :: _, [], _, i, _, _, h3 => by simp at h3

theorem agreeL_take : ∀ (s b m : List UInt8) (k : Nat), agreeL s b m = true → agreeL s (b.take k) (m.take k) = true
  | x :: s, y :: b, z :: m, k, h => by
    cases k with
    | zero => simp [agreeL]
    | succ k =>
      simp only [List.take_succ_cons, agreeL, Bool.and_eq_true] at h ⊢
      exact ⟨h.1, agreeL_take s b m k h.2⟩
  | [], _, _, _, _ => by simp [agreeL]
  | _ :: _, [], _, _, _ => by simp [agreeL]
  | _ :: _, _ :: _, [], _, _ => by simp [agreeL]

/-- Two patterns differ within the first k bytes. -/
def clashTo (k : Nat) (p q : Pat) : Bool := clashL (p.b.data.toList.take k) (p.m.data.toList.take k) (q.b.data.toList.take k) (q.m.data.toList.take k)

theorem clashTo_size {p q : Pat} (hp : p.full = true) (hq : q.full = true) {k : Nat} (hc : clashTo k p q = true) {s : ByteArray} (h1 : openP s p = true) (h2 : openP s q = true) : s.size < k := by
  rcases Nat.lt_or_ge s.size k with h | h
  · exact h
  · rw [openP_eq hp, Bool.and_eq_true] at h1
    rw [openP_eq hq, Bool.and_eq_true] at h2
    have := clash_agree s.data.toList _ _ _ _ hc (agreeL_take _ _ _ k h1.1) (.inl (by have := Lib.size_eq s; rw [List.length_take]; omega))
    rw [agreeL_take _ _ _ k h2.1] at this
    cases this

/-- A pattern of RIFF and one of WEBP. -/
def riffP (q : Pat) : Bool := q.b.data.toList.take 4 == [82, 73, 70, 70] && q.m.data.toList.take 4 == [255, 255, 255, 255] && q.b.data.toList[8]? == some 87 && q.m.data.toList[8]? == some 255

theorem med_img_ways : ∀ p ∈ medTable, ∀ q ∈ imgTable, clashTo 1 p q = true ∨ (clashTo 10 p q = true ∧ riffP q = true) := by decide +kernel

theorem and_255 (x : UInt8) : x &&& 255 = x := by
  apply UInt8.eq_of_toBitVec_eq
  have : (255 : UInt8).toBitVec = BitVec.allOnes 8 := by decide
  rw [UInt8.toBitVec_and, this, BitVec.and_allOnes]

def riffHead : ByteArray := ⟨#[82, 73, 70, 70]⟩

theorem take_at {α : Type} {l : List α} {k : Nat} {r : List α} (h : l.take k = r) (i : Nat) (hi : i < k) (hr : i < r.length) : ∃ h2 : i < l.length, l[i] = r[i] := by
  subst h
  exact ⟨by simp at hr; omega, by simp⟩

/-- What may still be both begins as RIFF does, and WEBP. -/
theorem media_both (s : ByteArray) (h1 : 0 < needsN s medTable) (h2 : 0 < needsN s imgTable) :
    ∀ i (hi : i < s.size), i ≤ 8 ∧ (∀ h4 : i < 4, s[i] = riffHead[i]'h4) ∧ (i = 8 → s[i] = 87) := by
  obtain ⟨p, hp, ho⟩ := needs_open h1
  obtain ⟨q, hq, hoq⟩ := needs_open h2
  obtain ⟨ip, hip, rfl⟩ := List.mem_iff_getElem.1 hp
  obtain ⟨iq, hiq, rfl⟩ := List.mem_iff_getElem.1 hq
  have hpf := medFull ip hip
  have hqf := imgFull iq hiq
  generalize medTable[ip] = p at *
  generalize imgTable[iq] = q at *
  intro i hi
  rcases med_img_ways p hp q hq with hc | ⟨hc, hr⟩
  · have := clashTo_size hpf hqf hc ho hoq
    omega
  · have hsz := clashTo_size hpf hqf hc ho hoq
    unfold riffP at hr
    simp only [Bool.and_eq_true, beq_iff_eq] at hr
    obtain ⟨⟨⟨r1, r2⟩, r3⟩, r4⟩ := hr
    rw [openP_eq hqf, Bool.and_eq_true] at hoq
    have hag := hoq.1
    have hil : i < s.data.toList.length := by rw [← Lib.size_eq]; exact hi
    refine ⟨by omega, fun h4 => ?_, fun h8 => ?_⟩
    · obtain ⟨b1, b2⟩ := take_at r1 i h4 (by simpa using h4)
      obtain ⟨m1, m2⟩ := take_at r2 i h4 (by simpa using h4)
      have := agreeL_at _ _ _ hag i hil b1 m1
      rw [b2, m2] at this
      have e255 : [(255 : UInt8), 255, 255, 255][i]'(by simpa using h4) = 255 := by
        rcases i with _ | _ | _ | _ | i
        · rfl
        · rfl
        · rfl
        · rfl
        · omega
      rw [e255, and_255] at this
      exact this
    · subst h8
      obtain ⟨b1, b2⟩ := List.getElem?_eq_some_iff.1 r3
      obtain ⟨m1, m2⟩ := List.getElem?_eq_some_iff.1 r4
      have := agreeL_at _ _ _ hag 8 hil b1 m1
      rw [b2, m2, and_255] at this
      exact this

end Go.Proofs.Ytcpjokjfjhhndaa
