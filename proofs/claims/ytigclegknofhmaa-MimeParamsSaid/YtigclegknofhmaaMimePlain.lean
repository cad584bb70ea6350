/-
  Types and their parameters, in plain Lean.
-/
import Derived.Test.YtigclegknofhmaaQuoG
namespace Go.Proofs.Ytigclegknofhmaa
set_option linter.unusedSimpArgs false
set_option linter.unusedVariables false

/-- Bytes as a text. -/
def bt (l : List UInt8) : ByteArray := ⟨l.toArray⟩

theorem bt_list (l : List UInt8) : (bt l).data.toList = l := rfl

theorem list_bt (s : ByteArray) : bt s.data.toList = s := rfl

theorem bt_size (l : List UInt8) : (bt l).size = l.length := rfl

theorem bt_inj {a b : List UInt8} (h : bt a = bt b) : a = b := by
  have := congrArg (fun s : ByteArray => s.data.toList) h
  exact this

def tokL (l : List UInt8) : Bool := !l.isEmpty && l.all isToken

def smallL (l : List UInt8) : Bool := tokL l && (lowerL l == l)

def quoL (l : List UInt8) : Bool := l.all isQuoted

abbrev Pars := List (List UInt8 × List UInt8)

structure MimeL where
  t : List UInt8
  s : List UInt8
  ps : Pars

/-- Where a parameter stands; below 0: it does not. -/
def atL (ps : Pars) (n : List UInt8) : Int :=
  match ps with
  | [] => -1
  | p :: r => if p.1 = n then 0 else if atL r n < 0 then -1 else atL r n + 1

theorem atL_ge (ps : Pars) (n : List UInt8) : -1 ≤ atL ps n ∧ atL ps n < ps.length := by
  induction ps with
  | nil => simp [atL]
  | cons p r ih =>
    unfold atL
    simp only [List.length_cons]
    split
    · omega
    · split <;> omega

theorem atL_append (ps qs : Pars) (n : List UInt8) : atL (ps ++ qs) n = if atL ps n < 0 then (if atL qs n < 0 then -1 else ps.length + atL qs n) else atL ps n := by
  induction ps with
  | nil =>
    have := (atL_ge qs n).1
    simp [atL]
    intro h
    omega
  | cons p r ih =>
    simp only [List.cons_append, atL, ih, List.length_cons]
    by_cases h : p.1 = n
    · simp [h]
    · rw [if_neg h, if_neg h]
      have h1 := (atL_ge r n).1
      have h2 := (atL_ge qs n).1
      by_cases h3 : atL r n < 0 <;> by_cases h4 : atL qs n < 0 <;> simp [h3, h4] <;> (repeat (split)) <;> omega

def okP (ps : Pars) (i : Nat) : Bool :=
  match ps[i]? with
  | some p => smallL p.1 && quoL p.2 && atL ps p.1 == (i : Int)
  | none => true

def goodP (ps : Pars) : Bool := (List.range ps.length).all (okP ps)

def goodL (m : MimeL) : Bool := goodP m.ps && smallL m.t && smallL m.s

theorem goodP_iff (ps : Pars) : goodP ps = true ↔ ∀ i (h : i < ps.length), smallL ps[i].1 = true ∧ quoL ps[i].2 = true ∧ atL ps ps[i].1 = i := by
  unfold goodP
  rw [List.all_eq_true]
  constructor
  · intro h i hi
    have := h i (List.mem_range.2 hi)
    unfold okP at this
    rw [List.getElem?_eq_getElem hi] at this
    simp only [Bool.and_eq_true, beq_iff_eq] at this
    exact ⟨this.1.1, this.1.2, this.2⟩
  · intro h i hi
    have hi' := List.mem_range.1 hi
    unfold okP
    rw [List.getElem?_eq_getElem hi']
    obtain ⟨h1, h2, h3⟩ := h i hi'
    simp only [Bool.and_eq_true, beq_iff_eq]
    exact ⟨⟨h1, h2⟩, h3⟩

theorem goodP_nil : goodP [] = true := rfl

theorem goodP_snoc (ps : Pars) (n v : List UInt8) (h : goodP ps = true) (h1 : smallL n = true) (h2 : quoL v = true) (h3 : atL ps n < 0) : goodP (ps ++ [(n, v)]) = true := by
  rw [goodP_iff] at h ⊢
  intro i hi
  rw [List.length_append] at hi
  by_cases hlt : i < ps.length
  · rw [List.getElem_append_left hlt]
    obtain ⟨a, b, c⟩ := h i hlt
    refine ⟨a, b, ?_⟩
    rw [atL_append, if_neg (by omega), c]
  · have hi' : i = ps.length := by simp at hi; omega
    subst hi'
    rw [List.getElem_append_right (Nat.le_refl _)]
    simp only [Nat.sub_self, List.getElem_cons_zero]
    refine ⟨h1, h2, ?_⟩
    rw [atL_append, if_pos h3]
    simp [atL]

theorem goodP_new {acc qs : Pars} {q : List UInt8 × List UInt8} (h : goodP (acc ++ q :: qs) = true) : smallL q.1 = true ∧ quoL q.2 = true ∧ atL acc q.1 < 0 := by
  rw [goodP_iff] at h
  obtain ⟨a, b, c⟩ := h acc.length (by simp)
  rw [List.getElem_append_right (Nat.le_refl _)] at a b c
  simp only [Nat.sub_self, List.getElem_cons_zero] at a b c
  refine ⟨a, b, ?_⟩
  rw [atL_append] at c
  have := atL_ge acc q.1
  by_cases hn : atL acc q.1 < 0
  · exact hn
  · rw [if_neg hn] at c
    omega

/-- A parameter as it is written; a type as it is written. -/
def valW (v : List UInt8) : List UInt8 := if tokL v then v else serL v

def parW (p : List UInt8 × List UInt8) : List UInt8 := 59 :: p.1 ++ 61 :: valW p.2

def mimeW (m : MimeL) : List UInt8 := m.t ++ 47 :: m.s ++ m.ps.flatMap parW

def nsemi (b : UInt8) : Bool := b != 59
def nslash (b : UInt8) : Bool := b != 47
def nname (b : UInt8) : Bool := b != 59 && b != 61

/-- A value, whether there is one, and what is behind. -/
def valL (r : List UInt8) : List UInt8 × Bool × List UInt8 :=
  if r.head? = some 34 then ((readL r.tail).1, true, (r.tail.drop (readL r.tail).2).dropWhile nsemi)
  else (trimEnd isWhite (r.takeWhile nsemi), !(trimEnd isWhite (r.takeWhile nsemi)).isEmpty, r.dropWhile nsemi)

/-- A parameter behind its semicolon. -/
def parmStep (r : List UInt8) : List UInt8 × List UInt8 × Bool × List UInt8 :=
  let r1 := r.dropWhile isWhite
  let n := lowerL (r1.takeWhile nname)
  let r2 := r1.dropWhile nname
  if r2.head? = some 61 then
    if r2.tail = [] then (n, [], false, [])
    else (n, (valL r2.tail).1, (valL r2.tail).2.1 && tokL n && quoL (valL r2.tail).1, (valL r2.tail).2.2)
  else (n, [], false, r2)

theorem dropWhile_len (p : UInt8 → Bool) (l : List UInt8) : (l.dropWhile p).length ≤ l.length := (List.dropWhile_sublist p).length_le

theorem valL_len (r : List UInt8) : (valL r).2.2.length ≤ r.length := by
  unfold valL
  split
  · have h1 := dropWhile_len nsemi (r.tail.drop (readL r.tail).2)
    simp only [List.length_drop, List.length_tail] at h1
    show ((r.tail.drop (readL r.tail).2).dropWhile nsemi).length ≤ r.length
    omega
  · exact dropWhile_len nsemi r

theorem parmStep_len (r : List UInt8) : (parmStep r).2.2.2.length ≤ r.length := by
  have h1 := dropWhile_len isWhite r
  have h2 := dropWhile_len nname (r.dropWhile isWhite)
  unfold parmStep
  dsimp only
  split
  · split
    · simp
    · have := valL_len ((r.dropWhile isWhite).dropWhile nname).tail
      rw [List.length_tail] at this
      show (valL ((r.dropWhile isWhite).dropWhile nname).tail).2.2.length ≤ r.length
      omega
  · show ((r.dropWhile isWhite).dropWhile nname).length ≤ r.length
    omega

def addP (ps : Pars) (q : List UInt8 × List UInt8 × Bool × List UInt8) : Pars := if q.2.2.1 && decide (atL ps q.1 < 0) then ps ++ [(q.1, q.2.1)] else ps

/-- All parameters. -/
def parsL (ps : Pars) (l : List UInt8) : Pars :=
  match l with
  | [] => ps
  | b :: r => if b = 59 then parsL (addP ps (parmStep r)) (parmStep r).2.2.2 else ps
termination_by l.length
decreasing_by have := parmStep_len r; simp; omega

theorem parsL_semi (ps : Pars) (r : List UInt8) : parsL ps (59 :: r) = parsL (addP ps (parmStep r)) (parmStep r).2.2.2 := by
  rw [parsL, if_pos rfl]

theorem parsL_nil (ps : Pars) : parsL ps [] = ps := by rw [parsL]

theorem parsL_other (ps : Pars) (b : UInt8) (r : List UInt8) (h : b ≠ 59) : parsL ps (b :: r) = ps := by rw [parsL, if_neg h]

/-- The type of a text. -/
def parseL (l0 : List UInt8) : Option MimeL :=
  let l := trimL isWhite l0
  let t := l.takeWhile nslash
  let r := (l.dropWhile nslash).tail
  let s := trimEnd isWhite (r.takeWhile nsemi)
  if l.dropWhile nslash = [] ∨ tokL t = false ∨ tokL s = false then none
  else some ⟨lowerL t, lowerL s, parsL [] (r.dropWhile nsemi)⟩

theorem tok_low (b : UInt8) : isToken (lowOf b) = isToken b :=
  all_u8 (p := fun b => isToken (lowOf b) = isToken b) (by decide +kernel) b

theorem tokL_lower (l : List UInt8) : tokL (lowerL l) = tokL l := by
  unfold tokL lowerL
  rw [List.isEmpty_map, List.all_map]
  congr 1
  apply List.all_congr rfl
  intro b
  exact tok_low b

theorem smallL_lower (l : List UInt8) (h : tokL l = true) : smallL (lowerL l) = true := by
  unfold smallL
  rw [tokL_lower, h, lowerL_idem]
  simp

theorem tok_not (b : UInt8) : isToken b = true → isWhite b = false ∧ b ≠ 59 ∧ b ≠ 47 ∧ b ≠ 61 ∧ b ≠ 34 :=
  all_u8 (p := fun b => isToken b = true → isWhite b = false ∧ b ≠ 59 ∧ b ≠ 47 ∧ b ≠ 61 ∧ b ≠ 34) (by decide +kernel) b

theorem tokL_mem {l : List UInt8} (h : tokL l = true) : l ≠ [] ∧ ∀ b ∈ l, isToken b = true := by
  unfold tokL at h
  rw [Bool.and_eq_true, List.all_eq_true] at h
  refine ⟨?_, h.2⟩
  rintro rfl
  simp at h

theorem addP_good (ps : Pars) (r : List UInt8) (h : goodP ps = true) : goodP (addP ps (parmStep r)) = true := by
  unfold addP
  split
  · rename_i hc
    rw [Bool.and_eq_true, decide_eq_true_eq] at hc
    obtain ⟨hc1, hc2⟩ := hc
    unfold parmStep at hc1 hc2 ⊢
    dsimp only at hc1 hc2 ⊢
    split at hc1
    · rename_i e1
      split at hc1
      · simp at hc1
      · rename_i e2
        rw [if_pos e1, if_neg e2] at hc2 ⊢
        simp only [Bool.and_eq_true] at hc1
        refine goodP_snoc ps _ _ h ?_ hc1.2 hc2
        have ht := hc1.1.2
        unfold smallL
        rw [ht, lowerL_idem]
        simp
    · simp at hc1
  · exact h

theorem parsL_good (ps : Pars) (l : List UInt8) (h : goodP ps = true) : goodP (parsL ps l) = true := by
  induction hn : l.length using Nat.strongRecOn generalizing l ps with
  | _ n ih =>
    match l with
    | [] => rw [parsL_nil]; exact h
    | b :: r =>
      by_cases hb : b = 59
      · subst hb
        rw [parsL_semi]
        have := parmStep_len r
        exact ih _ (by simp at hn; omega) _ _ (addP_good ps r h) rfl
      · rw [parsL_other _ _ _ hb]; exact h

theorem parse_good {l : List UInt8} {m : MimeL} (h : parseL l = some m) : goodL m = true := by
  unfold parseL at h
  dsimp only at h
  split at h
  · cases h
  · rename_i hc
    injection h with h
    subst h
    simp only [not_or, Bool.not_eq_false] at hc
    unfold goodL
    rw [parsL_good _ _ goodP_nil, smallL_lower _ hc.2.1, smallL_lower _ hc.2.2]
    rfl

theorem takeWhile_stop (p : UInt8 → Bool) (a r : List UInt8) (h : ∀ b ∈ a, p b = true) (hr : r = [] ∨ ∃ b t, r = b :: t ∧ p b = false) : (a ++ r).takeWhile p = a ∧ (a ++ r).dropWhile p = r := by
  induction a with
  | nil =>
    rcases hr with rfl | ⟨b, t, rfl, hb⟩
    · simp
    · simp [hb]
  | cons x a ih =>
    have := ih (fun b hb => h b (by simp [hb]))
    have hx := h x (by simp)
    simp [hx, this.1, this.2]

theorem dropWhile_none (p : UInt8 → Bool) (l : List UInt8) (h : l = [] ∨ ∃ b t, l = b :: t ∧ p b = false) : l.dropWhile p = l := by
  rcases h with rfl | ⟨b, t, rfl, hb⟩
  · rfl
  · simp [hb]

theorem trimEnd_none (p : UInt8 → Bool) (l : List UInt8) (h : ∀ b ∈ l, p b = false) : trimEnd p l = l := by
  rcases List.eq_nil_or_concat l with rfl | ⟨a, y, rfl⟩
  · rfl
  · rw [List.concat_eq_append] at h ⊢
    rw [trimEnd_snoc, if_neg (by rw [h y (by simp)]; simp)]

/-- Parameters as they are written: nothing, or a semicolon first. -/
theorem parsW_head (qs : Pars) : qs.flatMap parW = [] ∨ ∃ t, qs.flatMap parW = 59 :: t := by
  cases qs with
  | nil => exact .inl rfl
  | cons q r => exact .inr ⟨_, by simp [parW]; rfl⟩

theorem valL_back (v rest : List UInt8) (hr : rest = [] ∨ ∃ t, rest = 59 :: t) : valL (valW v ++ rest) = (v, true, rest) := by
  have hrs : rest.dropWhile nsemi = rest := dropWhile_none _ _ (by
    rcases hr with h | ⟨t, h⟩
    · exact .inl h
    · exact .inr ⟨59, t, h, rfl⟩)
  unfold valW
  by_cases ht : tokL v = true
  · rw [if_pos ht]
    obtain ⟨h0, h1⟩ := tokL_mem ht
    obtain ⟨x, u, rfl⟩ := List.exists_cons_of_ne_nil h0
    have hx := tok_not x (h1 x (by simp))
    have hs := takeWhile_stop nsemi (x :: u) rest (fun b hb => by
      have := (tok_not b (h1 b hb)).2.1
      simp [nsemi, this]) (by
      rcases hr with h | ⟨t, h⟩
      · exact .inl h
      · exact .inr ⟨59, t, h, rfl⟩)
    unfold valL
    rw [if_neg (by simp [hx.2.2.2.2]), hs.1, hs.2, trimEnd_none _ _ (fun b hb => (tok_not b (h1 b hb)).1)]
    simp
  · rw [if_neg ht]
    unfold serL
    have e : 34 :: escL v ++ [34] ++ rest = 34 :: (escL v ++ 34 :: rest) := by simp
    rw [e]
    unfold valL
    rw [if_pos (show (34 :: (escL v ++ 34 :: rest)).head? = some 34 from rfl)]
    simp only [List.tail_cons]
    rw [readL_esc]
    dsimp only
    have e2 : (escL v ++ 34 :: rest).drop ((escL v).length + 1) = rest := by
      rw [← List.drop_drop, List.drop_left]
      rfl
    rw [e2, hrs]

theorem valW_ne (v rest : List UInt8) : valW v ++ rest ≠ [] := by
  unfold valW
  split
  · rename_i h
    have := (tokL_mem h).1
    simp [this]
  · simp [serL]

theorem parmStep_back (q : List UInt8 × List UInt8) (rest : List UInt8) (h1 : smallL q.1 = true) (h2 : quoL q.2 = true) (hr : rest = [] ∨ ∃ t, rest = 59 :: t) :
    parmStep (q.1 ++ 61 :: valW q.2 ++ rest) = (q.1, q.2, true, rest) := by
  unfold smallL at h1
  rw [Bool.and_eq_true, beq_iff_eq] at h1
  obtain ⟨ht, hl⟩ := h1
  obtain ⟨h0, hm⟩ := tokL_mem ht
  have e0 : q.1 ++ 61 :: valW q.2 ++ rest = q.1 ++ 61 :: (valW q.2 ++ rest) := by simp
  have e1 : (q.1 ++ 61 :: (valW q.2 ++ rest)).dropWhile isWhite = q.1 ++ 61 :: (valW q.2 ++ rest) := by
    obtain ⟨x, u, hx⟩ := List.exists_cons_of_ne_nil h0
    rw [hx]
    exact dropWhile_none _ _ (.inr ⟨x, _, rfl, (tok_not x (hm x (by rw [hx]; simp))).1⟩)
  obtain ⟨e2, e3⟩ := takeWhile_stop nname q.1 (61 :: (valW q.2 ++ rest)) (fun b hb => by
    have := tok_not b (hm b hb)
    simp [nname, this.2.1, this.2.2.2.1]) (.inr ⟨61, _, rfl, rfl⟩)
  unfold parmStep
  dsimp only
  rw [e0, e1, e2, e3, if_pos (show (61 :: (valW q.2 ++ rest)).head? = some 61 from rfl)]
  rw [if_neg (show ¬ (61 :: (valW q.2 ++ rest)).tail = [] from valW_ne _ _)]
  simp only [List.tail_cons]
  rw [valL_back _ _ hr, hl, ht, h2]
  rfl

theorem parsL_back (acc qs : Pars) (h : goodP (acc ++ qs) = true) : parsL acc (qs.flatMap parW) = acc ++ qs := by
  induction qs generalizing acc with
  | nil => simp [parsL_nil]
  | cons q r ih =>
    obtain ⟨h1, h2, h3⟩ := goodP_new h
    have e : (q :: r).flatMap parW = 59 :: (q.1 ++ 61 :: valW q.2 ++ r.flatMap parW) := by simp [parW]
    rw [e, parsL_semi, parmStep_back q _ h1 h2 (parsW_head r)]
    have ea : addP acc (q.1, q.2, true, r.flatMap parW) = acc ++ [q] := by
      unfold addP
      simp [h3]
    rw [ea, ih _ (by simpa using h)]
    simp

theorem last_parsW (qs : Pars) (a : List UInt8) (ha : ∃ u y, a = u ++ [y] ∧ isWhite y = false) : ∃ u y, a ++ qs.flatMap parW = u ++ [y] ∧ isWhite y = false := by
  induction qs generalizing a with
  | nil => simpa using ha
  | cons q r ih =>
    have e : a ++ (q :: r).flatMap parW = (a ++ parW q) ++ r.flatMap parW := by simp
    rw [e]
    apply ih
    unfold parW valW
    split
    · rename_i h
      obtain ⟨h0, hm⟩ := tokL_mem h
      rcases List.eq_nil_or_concat q.2 with e | ⟨u, y, e⟩
      · exact absurd e h0
      · rw [List.concat_eq_append] at e
        refine ⟨a ++ (59 :: q.1 ++ 61 :: u), y, by rw [e]; simp, (tok_not y (hm y (by rw [e]; simp))).1⟩
    · exact ⟨a ++ (59 :: q.1 ++ 61 :: (34 :: escL q.2)), 34, by simp [serL], rfl⟩

/-- A good type comes back from what it is written as. -/
theorem parse_back (m : MimeL) (h : goodL m = true) : parseL (mimeW m) = some m := by
  unfold goodL at h
  rw [Bool.and_eq_true, Bool.and_eq_true] at h
  obtain ⟨⟨hp, ht⟩, hs⟩ := h
  unfold smallL at ht hs
  rw [Bool.and_eq_true, beq_iff_eq] at ht hs
  obtain ⟨t0, tm⟩ := tokL_mem ht.1
  obtain ⟨s0, sm⟩ := tokL_mem hs.1
  have e0 : mimeW m = m.t ++ 47 :: (m.s ++ m.ps.flatMap parW) := by simp [mimeW]
  have e1 : trimL isWhite (mimeW m) = mimeW m := by
    unfold trimL
    have d : (mimeW m).dropWhile isWhite = mimeW m := by
      obtain ⟨x, u, hx⟩ := List.exists_cons_of_ne_nil t0
      rw [e0, hx]
      exact dropWhile_none _ _ (.inr ⟨x, _, rfl, (tok_not x (tm x (by rw [hx]; simp))).1⟩)
    rw [d]
    obtain ⟨u, y, hu, hy⟩ := last_parsW m.ps (m.t ++ 47 :: m.s) (by
      rcases List.eq_nil_or_concat m.s with e | ⟨u, y, e⟩
      · exact absurd e s0
      · rw [List.concat_eq_append] at e
        exact ⟨m.t ++ 47 :: u, y, by rw [e]; simp, (tok_not y (sm y (by rw [e]; simp))).1⟩)
    have e2 : mimeW m = u ++ [y] := hu
    rw [e2, trimEnd_snoc, if_neg (by rw [hy]; simp)]
  obtain ⟨a1, a2⟩ := takeWhile_stop nslash m.t (47 :: (m.s ++ m.ps.flatMap parW)) (fun b hb => by
    have := tok_not b (tm b hb)
    simp [nslash, this.2.2.1]) (.inr ⟨47, _, rfl, rfl⟩)
  obtain ⟨b1, b2⟩ := takeWhile_stop nsemi m.s (m.ps.flatMap parW) (fun b hb => by
    have := tok_not b (sm b hb)
    simp [nsemi, this.2.1]) (by
    rcases parsW_head m.ps with h | ⟨t, h⟩
    · exact .inl h
    · exact .inr ⟨59, t, h, rfl⟩)
  unfold parseL
  dsimp only
  rw [e1, e0, a1, a2]
  have c1 := trimEnd_none isWhite m.s (fun b hb => (tok_not b (sm b hb)).1)
  have c2 := parsL_back [] m.ps (by simpa using hp)
  simp only [List.tail_cons, b1, b2, c1, c2, ht.1, hs.1, ht.2, hs.2]
  simp

end Go.Proofs.Ytigclegknofhmaa
