/-
  Tables of patterns that clash in pairs, in plain Lean: what more bytes change.
-/
import Derived.Test.YtcpjokjfjhhndaaTabC
namespace Go.Proofs.Ytcpjokjfjhhndaa
set_option linter.unusedSimpArgs false
set_option linter.unusedVariables false

def Clashes (ps : List Pat) : Prop := ∀ i j (hi : i < ps.length) (hj : j < ps.length), i ≠ j → clashP ps[i] ps[j] = true

theorem findN_spec {s : ByteArray} {ps : List Pat} (h : findN s ps < ps.length) : matchP s ps[findN s ps] = true := by
  induction ps with
  | nil => simp at h
  | cons p r ih =>
    by_cases hp : matchP s p = true
    · have e : findN s (p :: r) = 0 := by simp [findN, hp]
      simp only [e, List.getElem_cons_zero]
      exact hp
    · have e : findN s (p :: r) = findN s r + 1 := by simp [findN, hp]
      simp only [e, List.getElem_cons_succ]
      exact ih (by rw [e] at h; simpa using h)

theorem findN_not {s : ByteArray} {ps : List Pat} (h : ¬ findN s ps < ps.length) : ∀ i (hi : i < ps.length), matchP s ps[i] = false := by
  induction ps with
  | nil => intro i hi; simp at hi
  | cons p r ih =>
    have hp : matchP s p = false := by
      cases hp : matchP s p
      · rfl
      · simp [findN, hp] at h
    have e : findN s (p :: r) = findN s r + 1 := by simp [findN, hp]
    rw [e] at h
    intro i hi
    cases i with
    | zero => exact hp
    | succ i => exact ih (by simpa using h) i (by simpa using hi)

theorem findN_of {s : ByteArray} {ps : List Pat} (i : Nat) (hi : i < ps.length) (h : matchP s ps[i] = true) (hn : ∀ j (hj : j < ps.length), j ≠ i → matchP s ps[j] = false) : findN s ps = i :=
  findN_at s ps i hi (fun j hj hji => hn j hj (by omega)) h

theorem findN_nothing {s : ByteArray} {ps : List Pat} (hn : ∀ j (hj : j < ps.length), matchP s ps[j] = false) : findN s ps = ps.length :=
  findN_none s ps fun j hj _ => hn j hj

theorem fold_pos (s : ByteArray) (ps : List Pat) (n : Nat) (hn : n ≠ 0) (ho : ∀ p ∈ ps, openP s p = true → s.size < p.b.size) : foldN s ps n ≠ 0 ∧ foldN s ps n ≤ n := by
  induction ps generalizing n with
  | nil => exact ⟨hn, Nat.le_refl _⟩
  | cons p r ih =>
    simp only [foldN]
    have h1 : leastN s p n ≠ 0 ∧ leastN s p n ≤ n := by
      unfold leastN
      split
      · rename_i h
        simp only [Bool.and_eq_true, Bool.or_eq_true, beq_iff_eq, decide_eq_true_eq] at h
        have := ho p (by simp) h.1
        omega
      · exact ⟨hn, Nat.le_refl _⟩
    have := ih (leastN s p n) h1.1 fun q hq => ho q (by simp [hq])
    exact ⟨this.1, by omega⟩

theorem fold_zero (s : ByteArray) (ps : List Pat) (ho : ∀ p ∈ ps, openP s p = true → s.size < p.b.size) (h : foldN s ps 0 = 0) : ∀ p ∈ ps, openP s p = false := by
  induction ps with
  | nil => intro p hp; simp at hp
  | cons p r ih =>
    simp only [foldN] at h
    have hp : openP s p = false := by
      cases hp : openP s p
      · rfl
      · have hlt := ho p (by simp) hp
        have e : leastN s p 0 = p.b.size - s.size := least_open 0 hp (.inl rfl)
        rw [e] at h
        have := (fold_pos s r (p.b.size - s.size) (by omega) fun q hq => ho q (by simp [hq])).1
        omega
    rw [least_closed 0 hp] at h
    intro q hq
    rcases List.mem_cons.1 hq with rfl | hq
    · exact hp
    · exact ih (fun q hq => ho q (by simp [hq])) h q hq

theorem fold_least (s : ByteArray) (ps : List Pat) (n : Nat) (ho : ∀ p ∈ ps, openP s p = true → s.size < p.b.size) : ∀ p ∈ ps, openP s p = true → foldN s ps n ≤ p.b.size - s.size := by
  induction ps generalizing n with
  | nil => intro p hp; simp at hp
  | cons p r ih =>
    intro q hq hop
    simp only [foldN]
    rcases List.mem_cons.1 hq with rfl | hq
    · have hlt := ho q (by simp) hop
      have h1 : leastN s q n ≠ 0 ∧ leastN s q n ≤ q.b.size - s.size := by
        unfold leastN
        split
        · omega
        · rename_i h
          simp only [hop, Bool.true_and, Bool.or_eq_true, beq_iff_eq, decide_eq_true_eq, not_or] at h
          omega
      have := (fold_pos s r (leastN s q n) h1.1 fun q hq => ho q (by simp [hq])).2
      omega
    · exact ih _ (fun q hq => ho q (by simp [hq])) q hq hop

theorem fold_some (s : ByteArray) (ps : List Pat) (h : foldN s ps 0 ≠ 0) : ∃ p ∈ ps, openP s p = true := by
  induction ps with
  | nil => simp [foldN] at h
  | cons p r ih =>
    cases hp : openP s p
    · simp only [foldN, least_closed 0 hp] at h
      obtain ⟨q, hq, ho⟩ := ih h
      exact ⟨q, by simp [hq], ho⟩
    · exact ⟨p, by simp, hp⟩

theorem opens {ps : List Pat} (hf : Fulls ps) (s : ByteArray) : ∀ p ∈ ps, openP s p = true → s.size < p.b.size := by
  intro p hp h
  obtain ⟨i, hi, rfl⟩ := List.mem_iff_getElem.1 hp
  exact open_short (hf i hi) h

/-- What is told stays, if nothing is open. -/
theorem grow_closed {ps : List Pat} (hf : Fulls ps) (hc : Clashes ps) (s t : ByteArray) (h : needsN s ps = 0) : typeP (s ++ t) ps = typeP s ps := by
  by_cases hm : findN s ps < ps.length
  · have hs := findN_spec hm
    have e : findN (s ++ t) ps = findN s ps := findN_of _ hm (match_more (hf _ hm) t hs) fun j hj hne => by
      obtain ⟨h1, h2⟩ := clash_match (hf _ hm) (hf j hj) (hc _ _ hm hj (Ne.symm hne)) hs
      exact match_none (hf j hj) t h1 h2
    unfold typeP
    rw [e]
  · have hn := findN_not hm
    unfold needsN at h
    rw [if_neg hm] at h
    have ho := fold_zero s ps (opens hf s) h
    have e : findN (s ++ t) ps = ps.length := findN_nothing fun j hj => match_none (hf j hj) t (hn j hj) (ho _ (List.getElem_mem hj))
    rw [typeP_none hm, typeP_none (by rw [e]; omega)]

/-- What is open needs so many bytes. -/
theorem grow_open {ps : List Pat} (hf : Fulls ps) (s t : ByteArray) (h : 0 < needsN s ps) : s.size < mostN ps 0 ∧ (t.size < needsN s ps → anyP (s ++ t) ps = false) := by
  have hm : ¬ findN s ps < ps.length := fun hm => by unfold needsN at h; rw [if_pos hm] at h; omega
  have hn := findN_not hm
  have en : needsN s ps = foldN s ps 0 := by unfold needsN; rw [if_neg hm]
  rw [en] at h ⊢
  refine ⟨?_, fun ht => ?_⟩
  · obtain ⟨p, hp, ho⟩ := fold_some s ps (by omega)
    have h1 := opens hf s p hp ho
    have h2 := (mostN_le ps 0).2 p hp
    omega
  · unfold anyP
    rw [findN_nothing fun j hj => ?_]
    · simp
    · cases ho : openP s ps[j]
      · exact match_none (hf j hj) t (hn j hj) ho
      · have := fold_least s ps 0 (opens hf s) ps[j] (List.getElem_mem hj) ho
        exact match_short (hf j hj) (by rw [ByteArray.size_append]; omega)

/-- Each entry is what it says, whatever stands behind it. -/
theorem table_type {ps : List Pat} (hf : Fulls ps) (hc : Clashes ps) (i : Nat) (hi : i < ps.length) (hs : matchP ps[i].b ps[i] = true) (x : ByteArray) : typeP (ps[i].b ++ x) ps = ps[i].t := by
  have e : findN (ps[i].b ++ x) ps = i := findN_of _ hi (match_more (hf _ hi) x hs) fun j hj hne => by
    obtain ⟨h1, h2⟩ := clash_match (hf _ hi) (hf j hj) (hc _ _ hi hj (Ne.symm hne)) hs
    exact match_none (hf j hj) x h1 h2
  unfold typeP
  rw [e, List.getElem?_eq_getElem hi]

end Go.Proofs.Ytcpjokjfjhhndaa
