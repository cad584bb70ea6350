/-
  How long a type's text is, in plain Lean.
-/
import Derived.Test.YtigclegknofhmaaMimeI
namespace Go.Proofs.Ytigclegknofhmaa
set_option linter.unusedSimpArgs false
set_option linter.unusedVariables false

theorem parW_len (p : List UInt8 × List UInt8) : (parW p).length ≤ 4 + p.1.length + 2 * p.2.length := by
  have h := escL_length p.2
  unfold parW valW serL
  split <;> simp <;> omega

theorem parsW_len (l : Pars) (a b : Nat) (h : ∀ p ∈ l, p.1.length ≤ a ∧ p.2.length ≤ b) : (l.flatMap parW).length ≤ l.length * (4 + a + 2 * b) := by
  induction l with
  | nil => simp
  | cons p r ih =>
    have h1 := parW_len p
    have h2 := h p (by simp)
    have h3 := ih (fun q hq => h q (by simp [hq]))
    simp only [List.flatMap_cons, List.length_append, List.length_cons]
    rw [Nat.add_mul, Nat.one_mul]
    omega

theorem readL_len (l : List UInt8) : (readL l).1.length ≤ (readL l).2 := by
  match l with
  | [] => simp [readL]
  | [b] =>
    unfold readL
    split <;> simp
  | b :: x :: r =>
    have h1 := readL_len r
    have h2 := readL_len (x :: r)
    unfold readL
    split
    · simp
    · split
      · simp; omega
      · simp; omega
termination_by l.length

theorem tw_dw (p : UInt8 → Bool) (l : List UInt8) : (l.takeWhile p).length + (l.dropWhile p).length = l.length := by
  have := congrArg List.length (List.takeWhile_append_dropWhile (p := p) (l := l))
  rw [List.length_append] at this
  exact this

theorem valL_len3 (r : List UInt8) : (valL r).1.length + (valL r).2.2.length ≤ r.length := by
  unfold valL
  split
  · have h1 := (readL_le r.tail).1
    have h2 := readL_len r.tail
    have h3 := dropWhile_len nsemi (r.tail.drop (readL r.tail).2)
    rw [List.length_drop, List.length_tail] at h3
    rw [List.length_tail] at h1
    show (readL r.tail).1.length + ((r.tail.drop (readL r.tail).2).dropWhile nsemi).length ≤ r.length
    omega
  · have h1 := tw_dw nsemi r
    have h2 := trimEnd_le isWhite (r.takeWhile nsemi)
    show (trimEnd isWhite (r.takeWhile nsemi)).length + (r.dropWhile nsemi).length ≤ r.length
    omega

theorem parmStep_len3 (r : List UInt8) : (parmStep r).2.2.1 = true → (parmStep r).1.length + (parmStep r).2.1.length + (parmStep r).2.2.2.length + 1 ≤ r.length := by
  have h1 := dropWhile_len isWhite r
  have h2 := tw_dw nname (r.dropWhile isWhite)
  have h4 := valL_len3 ((r.dropWhile isWhite).dropWhile nname).tail
  rw [List.length_tail] at h4
  have hl : (lowerL ((r.dropWhile isWhite).takeWhile nname)).length = ((r.dropWhile isWhite).takeWhile nname).length := by
    unfold lowerL; rw [List.length_map]
  unfold parmStep
  dsimp only
  split
  · rename_i h61
    split
    · simp
    · intro _
      have hpos : 0 < ((r.dropWhile isWhite).dropWhile nname).length := by
        cases hx : (r.dropWhile isWhite).dropWhile nname with
        | nil => rw [hx] at h61; simp at h61
        | cons a b => simp
      show (lowerL _).length + (valL _).1.length + (valL _).2.2.length + 1 ≤ r.length
      omega
  · simp

theorem addP_len (acc : Pars) (r : List UInt8) : ((addP acc (parmStep r)).flatMap parW).length + 2 * (parmStep r).2.2.2.length ≤ (acc.flatMap parW).length + 2 * (r.length + 1) := by
  have h1 := parmStep_len r
  have h2 := parmStep_len3 r
  unfold addP
  split
  · rename_i hc
    rw [Bool.and_eq_true] at hc
    have h3 := h2 hc.1
    have h4 := parW_len ((parmStep r).1, (parmStep r).2.1)
    rw [List.flatMap_append, List.length_append]
    simp only [List.flatMap_cons, List.flatMap_nil, List.append_nil]
    simp only at h4
    omega
  · omega

theorem parsL_len (acc : Pars) (l : List UInt8) : ((parsL acc l).flatMap parW).length ≤ (acc.flatMap parW).length + 2 * l.length := by
  induction hn : l.length using Nat.strongRecOn generalizing l acc with
  | _ n ih =>
    match l with
    | [] => rw [parsL_nil]; omega
    | b :: r =>
      by_cases hb : b = 59
      · subst hb
        rw [parsL_semi]
        have h1 := parmStep_len r
        have h2 := addP_len acc r
        simp at hn
        have h3 := ih (parmStep r).2.2.2.length (by omega) (addP acc (parmStep r)) (parmStep r).2.2.2 rfl
        omega
      · rw [parsL_other _ _ _ hb]; omega

theorem mimeW_len {l : List UInt8} {m : MimeL} (h : parseL l = some m) : (mimeW m).length ≤ 2 * l.length + 1 := by
  unfold parseL at h
  dsimp only at h
  split at h
  · simp at h
  · simp only [Option.some.injEq] at h
    subst h
    have h0 : (trimL isWhite l).length ≤ l.length := by
      unfold trimL
      have h1 := trimEnd_le isWhite (l.dropWhile isWhite)
      have h2 := dropWhile_len isWhite l
      omega
    have h1 := tw_dw nslash (trimL isWhite l)
    have h2 := tw_dw nsemi ((trimL isWhite l).dropWhile nslash).tail
    have h3 := trimEnd_le isWhite (((trimL isWhite l).dropWhile nslash).tail.takeWhile nsemi)
    have h4 := parsL_len [] (((trimL isWhite l).dropWhile nslash).tail.dropWhile nsemi)
    have h5 : (((trimL isWhite l).dropWhile nslash).tail).length ≤ ((trimL isWhite l).dropWhile nslash).length := by rw [List.length_tail]; omega
    have e1 : (lowerL ((trimL isWhite l).takeWhile nslash)).length = ((trimL isWhite l).takeWhile nslash).length := by unfold lowerL; rw [List.length_map]
    have e2 : (lowerL (trimEnd isWhite (((trimL isWhite l).dropWhile nslash).tail.takeWhile nsemi))).length = (trimEnd isWhite (((trimL isWhite l).dropWhile nslash).tail.takeWhile nsemi)).length := by unfold lowerL; rw [List.length_map]
    unfold mimeW
    simp only [List.length_append, List.length_cons, List.flatMap_nil, List.length_nil] at *
    rw [e1, e2]
    omega

theorem escL_ge (l : List UInt8) : l.length ≤ (escL l).length := by
  induction l with
  | nil => simp
  | cons b r ih =>
    have he : escL (b :: r) = (if b = 34 ∨ b = 92 then [92, b] else [b]) ++ escL r := rfl
    have h1 : 1 ≤ (if b = 34 ∨ b = 92 then [92, b] else [b]).length := by split <;> simp
    rw [he, List.length_append, List.length_cons]
    omega

theorem parse_sizes {l : List UInt8} {m : MimeL} (h : parseL l = some m) (hl : l.length ≤ 400) : m.t.length ≤ 1000 ∧ m.s.length ≤ 1000 ∧ m.ps.length ≤ 1000 ∧ ∀ p ∈ m.ps, p.1.length ≤ 1000 ∧ p.2.length ≤ 1000 := by
  have hw := mimeW_len h
  unfold mimeW at hw
  simp only [List.length_append, List.length_cons] at hw
  have hmem : ∀ p ∈ m.ps, (parW p).length ≤ (m.ps.flatMap parW).length := by
    intro p hp
    generalize m.ps = q at *
    induction q with
    | nil => simp at hp
    | cons a r ih =>
      simp only [List.flatMap_cons, List.length_append]
      rcases List.mem_cons.1 hp with rfl | hp
      · omega
      · have := ih (by simp at hw ⊢; omega) hp
        omega
  have hcnt : m.ps.length ≤ (m.ps.flatMap parW).length := by
    generalize m.ps = q at *
    clear hw hmem h
    induction q with
    | nil => simp
    | cons a r ih =>
      simp only [List.flatMap_cons, List.length_append, List.length_cons]
      have : 1 ≤ (parW a).length := by unfold parW; simp
      omega
  have hpar : ∀ p : List UInt8 × List UInt8, p.1.length ≤ (parW p).length ∧ p.2.length ≤ (parW p).length := by
    intro p
    unfold parW valW serL
    have h1 := escL_ge p.2
    split <;> simp <;> omega
  refine ⟨by omega, by omega, by omega, fun p hp => ?_⟩
  have h1 := hmem p hp
  have h2 := hpar p
  omega

theorem few_len (m : MimeL) : (mimeW (fewM m)).length ≤ 1000 := by
  have h := parsW_len (fewM m).ps 20 30 (by
    intro p hp
    simp only [fewM, List.mem_map] at hp
    obtain ⟨q, _, rfl⟩ := hp
    simp [fewQ]; omega)
  have hn : (fewM m).ps.length ≤ 6 := by simp [fewM]; omega
  have ht : (fewM m).t.length ≤ 30 := by simp [fewM]; omega
  have hs : (fewM m).s.length ≤ 30 := by simp [fewM]; omega
  unfold mimeW
  simp only [List.length_append, List.length_cons]
  have : (fewM m).ps.length * (4 + 20 + 2 * 30) ≤ 6 * 84 := by
    have := Nat.mul_le_mul_right 84 hn
    simpa using this
  omega

end Go.Proofs.Ytigclegknofhmaa
