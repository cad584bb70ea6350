/-
  Lemmas of this claim, part 8: the texts CombPlain, CombA, CombB, MimeK, one behind the other.
-/
import Derived.Test.YtcbhkcdphbffpaaGreatDoorM7
import Derived.Lib.Join
import Derived.Test.YtcbhkcdphbffpaaGreatDoorShelf
import Derived.Deep.DeepCutAuto

namespace Go.Proofs.YtcbhkcdphbffpaaGreatDoor
open Go.RowKit
set_option linter.unusedSimpArgs false
set_option linter.unusedVariables false

/-- Texts, a comma and a blank between each two. -/
def joinL (l : List ByteArray) : List UInt8 := Lib.join (l.map (fun s => s.data.toList)) [44, 32]

theorem join_snoc (xs : List (List UInt8)) (y sep : List UInt8) : Lib.join (xs ++ [y]) sep = if xs = [] then y else Lib.join xs sep ++ sep ++ y := by
  cases xs with
  | nil => rw [if_pos rfl, List.nil_append, Lib.join_one]
  | cons x r =>
    rw [if_neg (by simp), List.cons_append, Lib.join_cons, Lib.join_cons]
    unfold Lib.joinTail
    simp [List.append_assoc]

theorem joinL_snoc (l : List ByteArray) (k : Nat) (h : k < l.length) : joinL (l.take (k + 1)) = if k = 0 then l[k].data.toList else joinL (l.take k) ++ [44, 32] ++ l[k].data.toList := by
  unfold joinL
  rw [← List.take_append_getElem h, List.map_append, List.map_cons, List.map_nil, join_snoc]
  by_cases hk : k = 0
  · subst hk
    rw [if_pos (by simp), if_pos rfl]
  · have hne : (l.take k).map (fun s => s.data.toList) ≠ [] := by
      intro e
      have := congrArg List.length e
      rw [List.length_map, List.length_take, List.length_nil] at this
      omega
    rw [if_neg hne, if_neg hk]

theorem lens_le (l : List ByteArray) (a : Nat) (h : ∀ s ∈ l, s.size ≤ a) : Lib.lens (l.map (fun s => s.data.toList)) ≤ l.length * a := by
  induction l with
  | nil => simp [Lib.lens]
  | cons y r ih =>
    have := ih (fun s hs => h s (List.mem_cons_of_mem _ hs))
    have hy := h y (List.mem_cons_self ..)
    rw [Lib.size_eq] at hy
    simp only [Lib.lens, List.map_cons, List.sum_cons, List.length_cons] at *
    rw [Nat.succ_mul]
    omega

theorem join_len (l : List ByteArray) (a : Nat) (h : ∀ s ∈ l, s.size ≤ a) : (joinL l).length ≤ l.length * (a + 2) := by
  have hl := lens_le l a h
  cases l with
  | nil => simp [joinL, Lib.join_nil]
  | cons x r =>
    unfold joinL
    rw [List.map_cons, Lib.join_length]
    rw [List.map_cons] at hl
    simp only [List.length_cons, List.length_map, List.length_nil] at *
    rw [Nat.mul_add]
    omega

/-- The pieces of all values. -/
def valuesL (l : List ByteArray) : List ByteArray := if l = [] then [] else splitB (bt (joinL l))

def everyM (m : MimeL) : Bool := essL m == [42, 47, 42]

theorem every_parts (m : MimeL) : everyM m = (m.t == [42] && m.s == [42]) := by
  rw [Bool.eq_iff_iff]
  unfold everyM essL
  simp only [Bool.and_eq_true, beq_iff_eq]
  constructor
  · intro h
    match hm : m.t with
    | [] => rw [hm] at h; simp at h
    | [a] =>
      rw [hm] at h
      simp at h
      exact ⟨by rw [h.1], h.2⟩
    | [a, b] =>
      rw [hm] at h
      simp at h
    | a :: b :: c :: r =>
      rw [hm] at h
      have := congrArg List.length h
      simp at this
  · rintro ⟨h1, h2⟩
    rw [h1, h2]
    rfl

/-- The types that a piece is. -/
def addM (s : ByteArray) : List MimeL := if (parseR s.data.toList).2 = 0 ∧ everyM (parseR s.data.toList).1 = false then [(parseR s.data.toList).1] else []

/-- All types of all values. -/
def allL (l : List ByteArray) : List MimeL := (valuesL l).flatMap addM

theorem flat_take (vs : List ByteArray) (k : Nat) (h : k < vs.length) : (vs.take (k + 1)).flatMap addM = (vs.take k).flatMap addM ++ addM vs[k] := by
  rw [← List.take_append_getElem h, List.flatMap_append]
  simp

theorem addM_len (s : ByteArray) : (addM s).length ≤ 1 := by unfold addM; split <;> simp

theorem flat_len (vs : List ByteArray) : (vs.flatMap addM).length ≤ vs.length := by
  induction vs with
  | nil => simp
  | cons v vs ih =>
    rw [List.flatMap_cons, List.length_append, List.length_cons]
    have := addM_len v
    omega

def charL : List UInt8 := [99, 104, 97, 114, 115, 101, 116]

/-- The value of a type's charset; empty: it has none. -/
def setOf (m : MimeL) : List UInt8 := if h : 0 ≤ atL m.ps charL then (m.ps[(atL m.ps charL).toNat]'(by have := (atL_ge m.ps charL).2; omega)).2 else []

/-- What becomes of a type, and a charset, by the next one. -/
def stepL (m : MimeL) (set : List UInt8) (n : MimeL) : MimeL × List UInt8 :=
  if essL m ≠ essL n then (n, setOf n)
  else if atL n.ps charL < 0 ∧ set ≠ [] ∧ goodL (withM n charL set) = true then (withM n charL set, set) else (n, set)

def extractS (l : List MimeL) : MimeL × List UInt8 := l.foldl (fun a n => stepL a.1 a.2 n) (noM, [])

theorem extractS_snoc (l : List MimeL) (k : Nat) (h : k < l.length) : extractS (l.take (k + 1)) = stepL (extractS (l.take k)).1 (extractS (l.take k)).2 l[k] := by
  unfold extractS
  rw [← List.take_append_getElem h, List.foldl_append]
  rfl

/-- The type of all values; with what was wrong. -/
def extractL (l : List ByteArray) : MimeL × Int := if allL l = [] then (noM, 4) else ((extractS (allL l)).1, 0)

theorem parseR_good {l : List UInt8} (h : (parseR l).2 = 0) : goodL (parseR l).1 = true := by
  unfold parseR at *
  cases hp : parseL l with
  | none => rw [hp] at h; simp at h
  | some m => exact parse_good hp

theorem addM_good {s : ByteArray} {m : MimeL} (h : m ∈ addM s) : goodL m = true := by
  unfold addM at h
  split at h
  · rename_i h2
    simp at h
    rw [h]
    exact parseR_good h2.1
  · cases h

theorem all_good (l : List ByteArray) {m : MimeL} (h : m ∈ allL l) : goodL m = true := by
  unfold allL at h
  obtain ⟨s, _, hs⟩ := List.mem_flatMap.1 h
  exact addM_good hs

theorem stepL_good (m : MimeL) (set : List UInt8) (n : MimeL) (h : goodL n = true) : goodL (stepL m set n).1 = true ∧ (stepL m set n).1.t = n.t ∧ (stepL m set n).1.s = n.s := by
  unfold stepL
  split
  · exact ⟨h, rfl, rfl⟩
  · split
    · rename_i h2
      exact ⟨h2.2.2, rfl, rfl⟩
    · exact ⟨h, rfl, rfl⟩

theorem extractS_good (l : List MimeL) (hg : ∀ m ∈ l, goodL m = true) (hl : l ≠ []) : goodL (extractS l).1 = true ∧ (extractS l).1.t = (l.getLast hl).t ∧ (extractS l).1.s = (l.getLast hl).s := by
  rcases List.eq_nil_or_concat l with rfl | ⟨l2, y, rfl⟩
  · exact absurd rfl hl
  · rw [List.concat_eq_append] at hg
    have e : extractS (l2.concat y) = stepL (extractS l2).1 (extractS l2).2 y := by
      unfold extractS
      rw [List.concat_eq_append, List.foldl_append]
      rfl
    rw [e]
    have := stepL_good (extractS l2).1 (extractS l2).2 y (hg y (by simp))
    simpa using this

/-- Sizes of what is read, in a longer text. -/
theorem parsL_sizes (acc : Pars) (l : List UInt8) (N K : Nat) (ha : acc.length + l.length ≤ K) (hN : l.length ≤ N) (h : ∀ p ∈ acc, p.1.length ≤ N ∧ p.2.length ≤ N) :
    (parsL acc l).length ≤ K ∧ ∀ p ∈ parsL acc l, p.1.length ≤ N ∧ p.2.length ≤ N := by
  induction hn : l.length using Nat.strongRecOn generalizing acc l with
  | _ n ih =>
    match l with
    | [] => rw [parsL_nil]; exact ⟨by simp at ha; exact ha, h⟩
    | b :: r =>
      by_cases hb : b = 59
      · subst hb
        rw [parsL_semi]
        have h1 := parmStep_len r
        have h2 := parmStep_sizes r
        simp only [List.length_cons] at hn ha hN
        refine ih (parmStep r).2.2.2.length (by omega) _ _ ?_ (by omega) ?_ rfl
        · unfold addP
          split
          · rw [List.length_append, List.length_singleton]; omega
          · omega
        · unfold addP
          split
          · intro p hp
            rcases List.mem_append.1 hp with hp | hp
            · exact h p hp
            · simp at hp
              subst hp
              exact ⟨by simp only; omega, by simp only; omega⟩
          · exact h
      · rw [parsL_other _ _ _ hb]
        exact ⟨by omega, h⟩

theorem trimL_len (p : UInt8 → Bool) (l : List UInt8) : (trimL p l).length ≤ l.length := by
  unfold trimL
  have h1 := trimEnd_le p (l.dropWhile p)
  have h2 := (List.dropWhile_sublist (l := l) p).length_le
  omega

theorem parse_room {l : List UInt8} {m : MimeL} (h : parseL l = some m) : m.t.length ≤ l.length ∧ m.s.length ≤ l.length ∧ m.ps.length ≤ l.length ∧ ∀ p ∈ m.ps, p.1.length ≤ l.length ∧ p.2.length ≤ l.length := by
  unfold parseL at h
  simp only at h
  split at h
  · cases h
  · injection h with h
    subst h
    have h0 := trimL_len isWhite l
    have h1 := tw_len nslash (trimL isWhite l)
    have h2 := dropWhile_len nslash (trimL isWhite l)
    have h3 : ((trimL isWhite l).dropWhile nslash).tail.length ≤ l.length := by rw [List.length_tail]; omega
    have h4 := tw_len nsemi ((trimL isWhite l).dropWhile nslash).tail
    have h5 := trimEnd_le isWhite (((trimL isWhite l).dropWhile nslash).tail.takeWhile nsemi)
    have h6 := dropWhile_len nsemi ((trimL isWhite l).dropWhile nslash).tail
    obtain ⟨h7, h8⟩ := parsL_sizes [] (((trimL isWhite l).dropWhile nslash).tail.dropWhile nsemi) l.length l.length (by simp; omega) (by omega) (by intro p hp; cases hp)
    refine ⟨?_, ?_, h7, h8⟩
    · simp only [lowerL, List.length_map]; omega
    · simp only [lowerL, List.length_map]; omega

/-- A type whose parts are not long. -/
structure FitM (N : Nat) (m : MimeL) : Prop where
  t : m.t.length ≤ N
  s : m.s.length ≤ N
  n : m.ps.length ≤ N
  ps : ∀ p ∈ m.ps, p.1.length ≤ N ∧ p.2.length ≤ N

theorem parseR_fit (l : List UInt8) : FitM l.length (parseR l).1 := by
  unfold parseR
  cases hp : parseL l with
  | none => exact ⟨Nat.zero_le _, Nat.zero_le _, Nat.zero_le _, by intro p h; cases h⟩
  | some m => obtain ⟨a, b, c, d⟩ := parse_room hp; exact ⟨a, b, c, d⟩

theorem FitM.more {N K : Nat} {m : MimeL} (h : FitM N m) (hk : N ≤ K) : FitM K m :=
  ⟨Nat.le_trans h.t hk, Nat.le_trans h.s hk, Nat.le_trans h.n hk, fun p hp => ⟨Nat.le_trans (h.ps p hp).1 hk, Nat.le_trans (h.ps p hp).2 hk⟩⟩

theorem FitM.sizes {m : MimeL} (h : FitM 1099 m) : SizesM m := ⟨Nat.le_trans h.t (by omega), Nat.le_trans h.s (by omega), Nat.le_trans h.n (by omega), fun p hp => ⟨Nat.le_trans (h.ps p hp).1 (by omega), Nat.le_trans (h.ps p hp).2 (by omega)⟩⟩

theorem noM_fit (N : Nat) : FitM N noM := ⟨Nat.zero_le _, Nat.zero_le _, Nat.zero_le _, by intro p h; cases h⟩

theorem setOf_len {N : Nat} {m : MimeL} (h : FitM N m) : (setOf m).length ≤ N := by
  unfold setOf
  split
  · exact (h.ps _ (List.getElem_mem _)).2
  · exact Nat.zero_le _

end Go.Proofs.YtcbhkcdphbffpaaGreatDoor

namespace Go.Proofs.YtcbhkcdphbffpaaGreatDoor
open Go.RowKit
set_option linter.unusedSimpArgs false
set_option linter.unusedVariables false

/-- A grown builder of a text, in memory above a world's. -/
def UsedB (W : World) (b : Nat) (l : List UInt8) (w : World) : Prop :=
  Lib.BuilderAt 143 5 W.heap.size b (.pointer (some ⟨b, 0, none⟩)) (byV l) w ∧ Below W.heap.size W w

theorem UsedB.below {W w : World} {b : Nat} {l : List UInt8} (h : UsedB W b l w) : Below W.heap.size W w := h.2

theorem UsedB.bld {W w : World} {b : Nat} {l : List UInt8} (h : UsedB W b l w) (hl : l ≠ []) : ∃ v, BldAt w W.heap.size b v l := by
  obtain ⟨⟨hB, v, hh, hown, hne⟩, _⟩ := h
  rw [byV_length] at hown
  exact ⟨v, hB, ⟨_, .inr rfl, hh⟩, hown, hne, fun h => absurd h hl⟩

set_option maxHeartbeats 1000000 in
set_option maxRecDepth 100000 in
theorem copyCheck_used (b : Nat) (v : Value) (w : World) (hh : w.heap[b]? = some (.cells #[.pointer (some ⟨b, 0, none⟩), v] 143 (0, 0))) :
    Calls Tryz.prog 162 #[.pointer (some ⟨b, 0, none⟩)] w fun e w' => e = .returned (.tuple #[]) ∧ w = w' := by
  obtain ⟨j, hj, hjs⟩ := Option.map_eq_some_iff.1 infoBuilder
  have c0 : w.cell? ⟨b, 0, none⟩ = some (.pointer (some ⟨b, 0, none⟩)) := by rw [Lib.cell_of_heap hh]; rfl
  have hneq := fun (w : World) => Lib.run_neq_ptr_same (P := Tryz.prog) w ⟨b, 0, none⟩ Tryz.underlying141 hj
  clear hh hj hjs
  go_enter Tryz.func162, Tryz.ntmps162
  go_wp2
  go_end0
  exact ⟨rfl, rfl⟩

set_option maxHeartbeats 1000000 in
theorem usedStr {W w : World} {b : Nat} {l : List UInt8} (h : UsedB W b l w) (x : ByteArray) (hl : l.length ≤ 10000000) (hx : x.size ≤ 10000000) :
    Calls Tryz.prog 132 #[.pointer (some ⟨b, 0, none⟩), .string x] w fun e w' => e = .returned (.tuple #[.int .i64 x.size, .nilIface]) ∧ UsedB W b (l ++ x.data.toList) w' := by
  obtain ⟨i0, hi, hz0, hz1, hz2⟩ := info_parts infoByteB
  have HI := Lib.hid hi; have HZ0 := Lib.hid hz0; have HZ1 := Lib.hid hz1; have HZ2 := Lib.hid hz2
  clear hi hz0 hz1 hz2
  obtain ⟨⟨hB, v, hh, hown, hne⟩, hbel⟩ := h
  rw [byV_length] at hown
  have HC := Lib.hid (copyCheck_used b v w hh)
  have HOW := Lib.hid hown
  have HBL := Lib.hid hbel
  have HNE := Lib.hid hne
  have HH := Lib.hid hh
  have hbw : b < w.heap.size := (Array.getElem?_eq_some_iff.1 hh).1
  have c1 : w.cell? ⟨b, 1, none⟩ = some v := by rw [Lib.cell_of_heap hh]; rfl
  have k3 := Lib.hid (show l.length + x.size ≤ maxLen from by unfold maxLen; omega)
  have k4 := Lib.hid (show l.length + x.size ≤ 140737488355328 from by omega)
  have k5 := Lib.hid hbel.size
  clear hh hown hbel hne
  go_enter Tryz.func132, Tryz.ntmps132
  go_wp2_with fail
  refine HC.out.mono ?_
  rintro e w1 ⟨rfl, rfl⟩
  go_wp2_with (at_builtin; refine wpList_append_str_lies _ rfl (.tmp 12) (.tmp 13) 98 9 rfl W.heap.size 5 i0 Tryz.underlying98 Tryz.underlying9 HI.out HZ0.out HZ1.out HZ2.out v l.length (byV l) rfl HOW.out x rfl k3.out k4.out k5.out ?_; intro v' w2 hown' hg hnil hat; obtain ⟨A', n', c', rfl⟩ := row_slice hown'; have HO := Lib.hid hown'; have HG := Lib.hid hg; have hh2 := (hg.block b hbw (fun e => HNE.out e.symm)).trans HH.out; have d1 : w2.cell? ⟨b, 1, none⟩ = some v := (by rw [Lib.cell_of_heap hh2]; rfl); have f1 : w2.frozen? ⟨b, 1, none⟩ = false := Lib.frozen_of_heap hh2 1; have HH2 := Lib.hid hh2; clear hown' hg hat hh2 hnil)
  go_ret2
  refine ⟨rfl, ?_, ?_⟩
  · refine Lib.BuilderAt.put hB HH2.out ?_ (by decide)
    rw [byV_length, byV_append, List.length_append, ← byV_cells, ← Lib.size_eq]
    exact HO.out
  · exact (HBL.out.grown HG.out k5.out (fun j hj => (HOW.out.lt j hj).1)).setCell (by simpa using hB) _

theorem usedString {W w : World} {b : Nat} {l : List UInt8} (h : UsedB W b l w) (hl : l ≠ []) :
    Calls Tryz.prog 137 #[.pointer (some ⟨b, 0, none⟩)] w fun e w' => e = .returned (.string ⟨l.toArray⟩) ∧ Below W.heap.size W w' := by
  obtain ⟨v, hv⟩ := h.bld hl
  refine (String_any W.heap.size b v l w hv).mono ?_
  rintro e w' ⟨he, hk⟩
  exact ⟨he, h.2.trans (hk.below hv h.2.size)⟩

theorem usedGrow {W : World} (n : Nat) (hn : n ≤ 10000000) :
    Calls Tryz.prog 206 #[.pointer (some ⟨W.heap.size, 0, none⟩), .int .i64 n] (W.alloc (.cells #[.pointer none, .slice none 0 0] 143)) fun e w' => e = .returned (.tuple #[]) ∧ UsedB W W.heap.size [] w' := by
  refine (Tryz.Builder_Grow_fresh W.heap.size W.heap.size n _ (Nat.le_refl _) (heap_alloc_new W _) (by simp) (by omega)).mono ?_
  rintro e w' ⟨he, h1, h2⟩
  exact ⟨he, h1, (below_box W _).trans h2⟩

theorem join_take_len (l : List ByteArray) (k : Nat) (hl : l.length ≤ 100) (hs : ∀ s ∈ l, s.size ≤ 1000) : (joinL (l.take k)).length ≤ 100200 := by
  have h1 := join_len (l.take k) 1000 (fun s h => hs s (List.mem_of_mem_take h))
  have h2 : (l.take k).length ≤ 100 := by rw [List.length_take]; omega
  have h3 := Nat.mul_le_mul_right (1000 + 2) h2
  omega

theorem joinL_two (l : List ByteArray) (h : 2 ≤ l.length) : joinL l ≠ [] := by
  obtain ⟨x, y, r, rfl⟩ : ∃ x y r, l = x :: y :: r := by
    match l, h with
    | x :: y :: r, _ => exact ⟨x, y, r, rfl⟩
  unfold joinL
  rw [List.map_cons, List.map_cons, Lib.join_cons]
  unfold Lib.joinTail
  simp

set_option maxHeartbeats 4000000 in
set_option maxRecDepth 20000 in
theorem sJoin_many (l : List ByteArray) (g off c : Nat) (w : World) (hA : ∀ i (h : i < l.length), w.cell? ⟨g, off + i, none⟩ = some (.string l[i])) (hg : g < w.heap.size) (hc : l.length ≤ c) (h2 : 2 ≤ l.length) (hl : l.length ≤ 100) (hs : ∀ s ∈ l, s.size ≤ 1000) :
    Calls Tryz.prog 188 #[.slice (some ⟨g, off, none⟩) l.length c, .string ⟨#[44, 32]⟩] w fun e w' => e = .returned (.string (bt (joinL l))) ∧ Below w.heap.size w w' := by
  have HA := Lib.hid hA
  have HS := Lib.hid hs
  have HJ := Lib.hid (joinL_two l h2)
  have HTL := Lib.hid (fun k => join_take_len l k hl hs)
  have HGR := Lib.hid (fun n hn => @usedGrow w n hn)
  clear hA hs
  have hdiv : 2 < 9223372036854775807 / ((l.length : Int) - 1) := by
    have : 3 ≤ 9223372036854775807 / ((l.length : Int) - 1) := (Int.le_ediv_iff_mul_le (by omega)).2 (by omega)
    omega
  go_enter Tryz.func188, Tryz.ntmps188
  go_wp2_with fail
  go_loop [5, 41] (fun n i => ∃ k m : Nat, k ≤ l.length ∧ i = .int .i64 k ∧ n = .int .i64 m ∧ m ≤ 200 + 1000 * k) (fun _ i => l.length - (intOf i).toNat)
  case atStart => exact ⟨0, 2 * (l.length - 1), Nat.zero_le _, rfl, by go_num, by omega⟩
  case round =>
    obtain ⟨k, m, hk, rfl, rfl, hm⟩ := hrel
    by_cases hlt : k < l.length
    · have c0 := HA.out k hlt
      have hz := HS.out l[k] (List.getElem_mem _)
      generalize l[k] = x at *
      go_wp2_with fail
      go_round
      case rel => exact ⟨k + 1, m + x.size, by omega, by go_num, by go_num, by omega⟩
      case measure => simp [intOf]; omega
    · obtain rfl : k = l.length := by omega
      have h0 : w.cell? ⟨g, off, none⟩ = some (.string l[0]) := HA.out 0 (by omega)
      have hz0 := HS.out l[0] (List.getElem_mem _)
      have hj1 : joinL (l.take 1) = l[0].data.toList := by rw [joinL_snoc l 0 (by omega), if_pos rfl]
      have HG := Lib.hid (HGR.out m (by omega))
      clear hm HGR
      go_wp2_with fail
      refine HG.out.mono ?_
      rintro e w1 ⟨rfl, hu⟩
      have hb := hu.below
      have h1 := (cell_below hb hg).trans h0
      have HU := Lib.hid (fun x (hx : x.size ≤ 10000000) => usedStr hu x (by simp) hx)
      clear hu
      go_wp2_with fail
      refine (HU.out _ (by omega)).mono ?_
      rintro e w2 ⟨rfl, hu2⟩
      rw [List.nil_append, ← hj1] at hu2
      have HU2 := Lib.hid hu2
      clear hu2 hb h1 h0 hj1 HU
      go_wp2_with fail
      go_loopw [65] (fun i wr => ∃ k : Nat, k + 1 ≤ l.length ∧ i = .int .i64 k ∧ UsedB w w.heap.size (joinL (l.take (k + 1))) wr) (fun i _ => l.length - (intOf i).toNat)
      case atStart => exact ⟨0, by omega, rfl, HU2.out⟩
      case round =>
        obtain ⟨k, hk, rfl, hu⟩ := hrel
        have HBU := Lib.hid hu.below
        by_cases hlt : k + 1 < l.length
        · have c0 : wr.cell? ⟨g, off + 1 + k, none⟩ = some (.string l[k + 1]) := (cell_below HBU.out hg).trans (by rw [← HA.out (k + 1) hlt]; congr 2; omega)
          have hz := HS.out l[k + 1] (List.getElem_mem _)
          have hj := joinL_snoc l (k + 1) hlt
          rw [if_neg (by omega)] at hj
          have hl1 := HTL.out (k + 1)
          have HU3 := Lib.hid (usedStr hu ⟨#[44, 32]⟩ (by omega) (by decide))
          generalize l[k + 1] = x at *
          clear hu
          go_wp2_with fail
          refine HU3.out.mono ?_
          rintro e w3 ⟨rfl, hu⟩
          have HU4 := Lib.hid (usedStr hu x (by rw [List.length_append]; simp; omega) (by omega))
          clear hu HU3
          go_wp2_with fail
          refine HU4.out.mono ?_
          rintro e w4 ⟨rfl, hu⟩
          have hu : UsedB w w.heap.size (joinL (l.take (k + 1 + 1))) w4 := by rw [hj]; exact hu
          have HU5 := Lib.hid hu
          clear hu HU4 hj
          go_wp2_with fail
          go_roundw
          case rel => exact ⟨k + 1, by omega, by go_num, HU5.out⟩
          case measure => simp [intOf]; omega
        · have hk1 : k + 1 = l.length := by omega
          rw [hk1, List.take_length] at hu
          have HS2 := Lib.hid (usedString hu HJ.out)
          clear hu
          go_wp2_with fail
          refine HS2.out.mono ?_
          rintro e w3 ⟨rfl, hb3⟩
          go_wp2_with fail
          go_ret
          exact ⟨rfl, hb3⟩

theorem sJoin_none (A : Option Addr) (c : Nat) (w : World) :
    Calls Tryz.prog 188 #[.slice A 0 c, .string ⟨#[44, 32]⟩] w fun e w' => e = .returned (.string ⟨#[]⟩) ∧ w = w' := by
  go_enter Tryz.func188, Tryz.ntmps188
  go_wp2_with fail
  go_ret
  exact ⟨rfl, rfl⟩

theorem sJoin_one (x : ByteArray) (g off c : Nat) (w : World) (h0 : w.cell? ⟨g, off, none⟩ = some (.string x)) :
    Calls Tryz.prog 188 #[.slice (some ⟨g, off, none⟩) 1 c, .string ⟨#[44, 32]⟩] w fun e w' => e = .returned (.string x) ∧ w = w' := by
  go_enter Tryz.func188, Tryz.ntmps188
  go_wp2_with fail
  go_ret
  exact ⟨rfl, rfl⟩

theorem sJoin_any (l : List ByteArray) (A : Option Addr) (c : Nat) (w : World) (hA : StrsIn w A l) (hc : l.length ≤ c) (hl : l.length ≤ 100) (hs : ∀ s ∈ l, s.size ≤ 1000) :
    Calls Tryz.prog 188 #[.slice A l.length c, .string ⟨#[44, 32]⟩] w fun e w' => e = .returned (.string (bt (joinL l))) ∧ Below w.heap.size w w' := by
  rcases hA with rfl | ⟨g, off, rfl, hg, hcs⟩
  · refine (sJoin_none A c w).mono ?_
    rintro e w' ⟨rfl, rfl⟩
    exact ⟨rfl, Below.refl _ _⟩
  · match l, hcs, hc, hl, hs with
    | [], _, _, _, _ =>
      refine (sJoin_none _ c w).mono ?_
      rintro e w' ⟨rfl, rfl⟩
      exact ⟨rfl, Below.refl _ _⟩
    | [x], hcs, _, _, _ =>
      refine (sJoin_one x g off c w (hcs 0 (by simp))).mono ?_
      rintro e w' ⟨rfl, rfl⟩
      refine ⟨?_, Below.refl _ _⟩
      have : joinL [x] = x.data.toList := Lib.join_one _ _
      rw [this]
      rfl
    | x :: y :: r, hcs, hc, hl, hs => exact sJoin_many (x :: y :: r) g off c w hcs hg hc (by simp) hl hs

theorem cJoin_any (l : List ByteArray) (A : Option Addr) (c : Nat) (w : World) (hA : StrsIn w A l) (hc : l.length ≤ c) (hl : l.length ≤ 100) (hs : ∀ s ∈ l, s.size ≤ 1000) :
    Calls Tryz.prog 161 #[.slice A l.length c] w fun e w' => e = .returned (.string (bt (joinL l))) ∧ Below w.heap.size w w' := by
  have HJ := Lib.hid (sJoin_any l A c w hA hc hl hs)
  clear hA hc hl hs
  go_enter Tryz.func161, Tryz.ntmps161
  go_wp2_with fail
  refine HJ.out.mono ?_
  rintro e w1 ⟨rfl, hb⟩
  go_wp2_with fail
  go_ret
  exact ⟨rfl, hb⟩

theorem CJoin_any (l : List ByteArray) (A : Option Addr) (c : Nat) (w : World) (hA : StrsIn w A l) (hc : l.length ≤ c) (hl : l.length ≤ 100) (hs : ∀ s ∈ l, s.size ≤ 1000) :
    Calls Tryz.prog 130 #[.slice A l.length c] w fun e w' => e = .returned (.string (bt (joinL l))) ∧ Below w.heap.size w w' := by
  have HJ := Lib.hid (cJoin_any l A c w hA hc hl hs)
  clear hA hc hl hs
  go_enter Tryz.func130, Tryz.ntmps130
  go_wp2_with fail
  refine HJ.out.mono ?_
  rintro e w1 ⟨rfl, hb⟩
  go_wp2_with fail
  go_ret
  exact ⟨rfl, hb⟩

end Go.Proofs.YtcbhkcdphbffpaaGreatDoor

namespace Go.Proofs.YtcbhkcdphbffpaaGreatDoor
open Go.RowKit
set_option linter.unusedSimpArgs false
set_option linter.unusedVariables false

theorem one_head (t : ByteArray) (h : 0 < t.size) : t.data.toList = t[0] :: (t.extract 1 t.size).data.toList := by
  have e : (t.extract 1 t.size).data.toList = t.data.toList.drop 1 := restB_list t 1
  rw [e]
  conv => lhs; rw [← List.drop_zero (l := t.data.toList)]
  rw [List.drop_eq_getElem_cons (by rw [← Lib.size_eq]; exact h)]
  rfl

theorem piece_list (s : ByteArray) : (pieceB s).data.toList = (endsB s).data.toList.dropWhile isTab := by
  unfold pieceB
  rw [restB_list]
  unfold dropB
  rw [span_drop]

theorem piece_of {s t : ByteArray} (h : t.data.toList = (endsB s).data.toList.dropWhile isTab) : t = pieceB s := bytes_ext (by rw [h, piece_list])

set_option maxRecDepth 20000 in
theorem rtrim_any (s : ByteArray) (w : World) (hs : s.size ≤ maxLen) :
    Calls Tryz.prog 119 #[.string s] w fun e w' => e = .returned (.string (pieceB s)) ∧ w = w' := by
  have HE := Lib.hid (fun w => rEnds_any s w hs)
  have hse := endsB_size s
  have HP := Lib.hid (fun t h => @piece_of s t h)
  unfold maxLen at hs
  generalize pieceB s = R at *
  generalize endsB s = E at *
  go_enter Tryz.func119, Tryz.ntmps119
  go_wp2_with (go_at_call 87; (with_reducible refine (HE.out _).mono ?_); rintro e w' ⟨rfl, rfl⟩)
  go_loop [0] (fun v => ∃ t : ByteArray, v = .string t ∧ t.size ≤ E.size ∧ t.data.toList.dropWhile isTab = E.data.toList.dropWhile isTab) (fun v => strLen v)
  case atStart => exact ⟨E, rfl, Nat.le_refl _, rfl⟩
  case round =>
    obtain ⟨t, rfl, hts, hp⟩ := hrel
    by_cases hlt : 0 < t.size
    · have hlti : (0 : Int) < (t.size : Int) := by omega
      have HTB := Lib.hid (fun w => rTab_any t[0] w)
      have hh := one_head t hlt
      cases htb : isTab t[0]
      · have hp : t.data.toList = E.data.toList.dropWhile isTab := by
          rw [← hp, hh, List.dropWhile_cons, if_neg (by rw [htb]; simp)]
        have HS := Lib.hid (HP.out t hp)
        have HT0 := Lib.hid htb
        clear hp htb hh
        go_wp2_with (go_at_call 86; refine Calls.mono (HTB.out _) ?_; rintro e w' ⟨rfl, rfl⟩; rw [HT0.out])
        go_ret
        exact ⟨ret_string HS.out, rfl⟩
      · have hnext : (t.extract 1 t.size).data.toList.dropWhile isTab = E.data.toList.dropWhile isTab := by
          rw [← hp, hh, List.dropWhile_cons, if_pos htb]
        have HN := Lib.hid hnext
        have hsz := Lib.hid (extract_size t 1 t.size)
        have HT0 := Lib.hid htb
        clear hnext hp htb hh
        go_wp2_with (go_at_call 86; refine Calls.mono (HTB.out _) ?_; rintro e w' ⟨rfl, rfl⟩; rw [HT0.out])
        go_round
        case rel => exact ⟨_, rfl, by rw [hsz.out]; omega, HN.out⟩
        case measure => simp [strLen, hsz.out]; omega
    · have hz : t.data.toList = [] := List.eq_nil_of_length_eq_zero (by rw [← Lib.size_eq]; omega)
      have hp : t.data.toList = E.data.toList.dropWhile isTab := by rw [← hp, hz]; rfl
      have HS := Lib.hid (HP.out t hp)
      clear hp hz
      go_wp2_with fail
      go_ret
      exact ⟨ret_string HS.out, rfl⟩

/-- What stands between two places. -/
def midL (s : ByteArray) (a b : Nat) : List UInt8 := (dropB s a).take (b - a)

theorem mid_self (s : ByteArray) (a : Nat) : midL s a a = [] := by unfold midL; simp

theorem mid_more (s : ByteArray) (a b n : Nat) (h : a ≤ b) : midL s a (b + n) = midL s a b ++ (dropB s b).take n := by
  unfold midL
  have e : b + n - a = (b - a) + n := by omega
  rw [e, List.take_add, ← dropB_more]
  congr 3
  omega

theorem mid_snoc (s : ByteArray) (a b : Nat) (h : a ≤ b) (hb : b < s.size) : midL s a (b + 1) = midL s a b ++ [s[b]] := by
  rw [mid_more s a b 1 h, dropB_cons s b hb]
  rfl

theorem mid_ext (s : ByteArray) (a b : Nat) (h : a ≤ b) : s.extract a b = ⟨(midL s a b).toArray⟩ := by
  have := ext_bt s a (b - a)
  rw [show a + (b - a) = b by omega] at this
  exact this

theorem mid_end (s : ByteArray) (a : Nat) (h : a ≤ s.size) : midL s a s.size = dropB s a := by
  unfold midL
  rw [List.take_of_length_le (by rw [dropB_len]; omega)]

theorem splitL_other (T r : List UInt8) (b : UInt8) (h1 : b ≠ 34) (h2 : b ≠ 44) : splitL T (b :: r) = splitL (T ++ [b]) r := by
  have := splitL_span T [b] r (by intro x hx; simp at hx; subst hx; exact ⟨h1, h2⟩)
  simpa using this

/-- What comes is a row of texts, in memory of the callee's own. -/
def GivesStrF (l : List ByteArray) (w : World) (e : Ending) (w' : World) : Prop :=
  ∃ A c, e = .returned (.slice A l.length c) ∧ StrsIn w' A l ∧ Below w.heap.size w w' ∧ ∀ b off, A = some ⟨b, off, none⟩ → w.heap.size ≤ b

theorem GivesStrF.strs {l : List ByteArray} {w : World} {e : Ending} {w' : World} (h : GivesStrF l w e w') : GivesStrs l w e w' := by
  obtain ⟨A, c, h1, h2, h3, _⟩ := h
  exact ⟨A, c, h1, h2, h3⟩

theorem strs_of_ownF {w : World} {B : Nat} {e : TypeId} {v : Value} {n : Nat} {l : List ByteArray} (h : w.ownsRow B e 1 v n (rowS l)) (hn : n = l.length) : ∃ A c, v = .slice A l.length c ∧ StrsIn w A l ∧ ∀ b off, A = some ⟨b, off, none⟩ → B ≤ b := by
  obtain ⟨A, c, hv, hA⟩ := strs_of_own h hn
  refine ⟨A, c, hv, hA, fun b off hb => ?_⟩
  subst hv
  subst hb
  exact (World.ownsRow.lt h b rfl).1

theorem read_on (s : ByteArray) (n : Nat) : dropB (restB s n) 1 = dropB s (n + 1) := by
  unfold dropB
  rw [restB_list]
  unfold dropB
  rw [List.drop_drop]

theorem split_quote (s : ByteArray) (m n : Nat) (hm : m ≤ n) (h : n < s.size) (hb : s[n] = 34) :
    splitL (midL s m n) (dropB s n) = splitL (midL s m (n + (1 + (readL (dropB s (n + 1))).2))) (dropB s (n + (1 + (readL (dropB s (n + 1))).2))) ∧ n + (1 + (readL (dropB s (n + 1))).2) ≤ s.size := by
  have hl := (readL_le (dropB s (n + 1))).1
  rw [dropB_len] at hl
  have e : n + (1 + (readL (dropB s (n + 1))).2) = (n + 1) + (readL (dropB s (n + 1))).2 := by omega
  refine ⟨?_, by omega⟩
  rw [e, mid_more s m (n + 1) _ (by omega), mid_snoc s m n hm h, dropB_more s (n + 1), dropB_cons s n h, hb, splitL_quote, List.append_assoc]
  rfl

theorem split_comma (s : ByteArray) (m n : Nat) (h : n < s.size) (hb : s[n] = 44) :
    splitL (midL s m n) (dropB s n) = pieceB ⟨(midL s m n).toArray⟩ :: splitL (midL s (n + 1) (n + 1)) (dropB s (n + 1)) := by
  rw [dropB_cons s n h, hb, splitL_comma, mid_self]

theorem split_step (s : ByteArray) (m n : Nat) (hm : m ≤ n) (h : n < s.size) (h1 : s[n] ≠ 34) (h2 : s[n] ≠ 44) :
    splitL (midL s m n) (dropB s n) = splitL (midL s m (n + 1)) (dropB s (n + 1)) := by
  rw [dropB_cons s n h, splitL_other _ _ _ h1 h2, mid_snoc s m n hm h]

set_option maxHeartbeats 4000000 in
set_option maxRecDepth 20000 in
theorem rSplit_any (s : ByteArray) (w : World) (hs : s.size ≤ 100000) :
    Calls Tryz.prog 83 #[.string s] w fun e w' => GivesStrF (splitB s) w e w' := by
  obtain ⟨i0, hi, hz0, hz1, hz2⟩ := info_parts infoStrT
  have HI := Lib.hid hi; have HZ0 := Lib.hid hz0; have HZ1 := Lib.hid hz1; have HZ2 := Lib.hid hz2
  clear hi hz0 hz1 hz2
  go_enter Tryz.func83, Tryz.ntmps83
  go_wp2
  go_loopw [3, 4, 5] (fun v f i wr => ∃ (xs : List ByteArray) (m n : Nat), n ≤ s.size ∧ m ≤ n ∧ f = .int .i64 m ∧ i = .int .i64 n ∧ wr.ownsRow w.heap.size 9 1 v xs.length (rowS xs) ∧ Below w.heap.size w wr ∧ xs ++ splitL (midL s m n) (dropB s n) = splitB s ∧ xs.length ≤ n) (fun _ _ i _ => s.size - (intOf i).toNat)
  case atStart => exact ⟨[], 0, 0, Nat.zero_le _, Nat.le_refl _, rfl, rfl, by simpa [rowS] using World.ownsRow_lit (base := w.heap.size) (e := 9) (size := 1) w #[] 0 (Nat.le_refl _) (Nat.zero_le _) rfl, (Below.refl _ _).alloc (Nat.le_refl _) _, by rw [mid_self, dropB_zero]; rfl, Nat.le_refl _⟩
  case round =>
    obtain ⟨xs, m, n, hn, hm, rfl, rfl, hrow, hb, hp, hxl⟩ := hrel
    have HB := Lib.hid hb
    have HROW := Lib.hid hrow
    have HP := Lib.hid hp
    have hz := hb.size
    clear hb hrow hp
    by_cases hlt : n < s.size
    · have hidx := fun w => index_byte 9 Tryz.underlying9 s n hlt w
      by_cases h34 : s[n] = 34
      · obtain ⟨hq, hle⟩ := split_quote s m n hm hlt h34
        have HRD := Lib.hid (fun w => rRead_any (restB s n) w (by rw [restB_size s n (by omega)]; omega) (by rw [restB_size s n (by omega)]; omega))
        rw [read_on] at HRD
        have HN : Hid (xs ++ splitL (midL s m (n + (1 + (readL (dropB s (n + 1))).2))) (dropB s (n + (1 + (readL (dropB s (n + 1))).2))) = splitB s) := Lib.hid (by rw [← hq]; exact HP.out)
        generalize (readL (dropB s (n + 1))).2 = k at *
        generalize (readL (dropB s (n + 1))).1 = T at *
        rw [h34] at hidx
        have e34 : ((34 : UInt8).toNat : Int) = 34 := rfl
        rw [e34] at hidx
        unfold restB at HRD
        clear h34 hq HP
        go_wp2_with fail
        refine (HRD.out _).mono ?_
        rintro e w2 ⟨rfl, hb2⟩
        have HB2 := Lib.hid (HB.out.trans (hb2.mono hz))
        have HROW2 := Lib.hid (row_stands HROW.out (fun j _ hj => hb2.block j hj))
        clear hb2 HB HROW HRD
        go_wp2_with fail
        go_roundw
        case rel => exact ⟨xs, m, n + (1 + k), hle, by omega, rfl, by go_num, HROW2.out, HB2.out, HN.out, by omega⟩
        case measure => simp [intOf]; omega
      · have hn34 : ((s[n].toNat : Int) == 34) = false := by
          rw [beq_eq_false_iff_ne]
          intro h
          apply h34
          exact UInt8.toNat_inj.1 (by have : (34 : UInt8).toNat = 34 := rfl; omega)
        by_cases h44 : s[n] = 44
        · have hq := split_comma s m n hlt h44
          have hpe := mid_ext s m n hm
          have HTR := Lib.hid (fun w => rtrim_any (s.extract m n) w (by rw [extract_size]; unfold maxLen; omega))
          rw [hpe] at HTR
          rw [← hpe] at HTR
          have HN : Hid ((xs ++ [pieceB (s.extract m n)]) ++ splitL (midL s (n + 1) (n + 1)) (dropB s (n + 1)) = splitB s) := Lib.hid (by rw [hpe, List.append_assoc, List.singleton_append, ← hq]; exact HP.out)
          generalize pieceB (s.extract m n) = P at *
          have e44 : ((s[n].toNat : Int) == 44) = true := by rw [h44]; rfl
          rw [h44] at hidx
          have e44b : ((44 : UInt8).toNat : Int) = 44 := rfl
          rw [e44b] at hidx
          have k1 : Hid (∀ (j : Nat) (u : Value), ([.string P] : List Value)[j]? = some u → (wr.alloc (.cells #[.string P] 9)).cell? ((⟨wr.heap.size, 0, none⟩ : Addr).add j) = some u) := Lib.hid (cell_one_new _ _ _)
          have k0 := Lib.hid (HROW.out.alloc (.cells #[.string P] 9))
          have k2 := Lib.hid (show ∀ u ∈ ([.string P] : List Value), u.oneCell' = true from by intro u hu; simp at hu; subst hu; rfl)
          have k3 := Lib.hid (show xs.length + 1 ≤ maxLen from by unfold maxLen; omega)
          have k4 := Lib.hid (show (xs.length + 1) * 16 ≤ 140737488355328 from by omega)
          have k5 : Hid (w.heap.size ≤ (wr.alloc (.cells #[.string P] 9)).heap.size) := Lib.hid (by simp; omega)
          clear h34 hn34 h44 e44 hq HP hpe
          go_wp2_with (first | (go_at_call 119; refine Calls.mono (HTR.out _) ?_; rintro e w' ⟨rfl, rfl⟩) | (at_builtin; refine wpList_append_lies _ rfl (.tmp 31) (.tmp 37) 45 rfl w.heap.size 9 i0 (.string ByteArray.empty) 1 16 Tryz.underlying45 HI.out HZ0.out HZ1.out HZ2.out rfl (by decide) _ _ _ rfl k0.out ⟨wr.heap.size, 0, none⟩ 1 1 _ rfl rfl k1.out k2.out (by decide) k3.out k4.out k5.out _ rfl ?_; intro g3 c3 w3 hown hgrow hat hlt3; have HO := Lib.hid hown; have HB3 := Lib.hid ((HB.out.alloc hz (.cells #[.string P] 9)).grown hgrow (by simp; omega) (fun j hj => (HROW.out.lt j hj).1)); clear hown hgrow hat hlt3))
          go_roundw
          case rel => exact ⟨xs ++ [P], n + 1, n + 1, by omega, Nat.le_refl _, by go_num, by go_num, by rw [rowS_snoc, List.length_append]; exact HO.out, HB3.out, HN.out, by rw [List.length_append]; simp; omega⟩
          case measure => simp [intOf]; omega
        · have hn44 : ((s[n].toNat : Int) == 44) = false := by
            rw [beq_eq_false_iff_ne]
            intro h
            apply h44
            exact UInt8.toNat_inj.1 (by have : (44 : UInt8).toNat = 44 := rfl; omega)
          have hq := split_step s m n hm hlt h34 h44
          have HN : Hid (xs ++ splitL (midL s m (n + 1)) (dropB s (n + 1)) = splitB s) := Lib.hid (by rw [← hq]; exact HP.out)
          generalize s[n] = x at *
          clear hq HP h34 h44
          go_wp2_with fail
          go_roundw
          case rel => exact ⟨xs, m, n + 1, by omega, by omega, rfl, by go_num, HROW.out, HB.out, HN.out, by omega⟩
          case measure => simp [intOf]; omega
    · obtain rfl : n = s.size := by omega
      have hpe := mid_ext s m s.size hm
      have HTR := Lib.hid (fun w => rtrim_any (s.extract m s.size) w (by rw [extract_size]; unfold maxLen; omega))
      have HN : Hid (xs ++ [pieceB (s.extract m s.size)] = splitB s) := Lib.hid (by rw [hpe, ← splitL_end, ← dropB_end s]; exact HP.out)
      generalize pieceB (s.extract m s.size) = P at *
      have k1 : Hid (∀ (j : Nat) (u : Value), ([.string P] : List Value)[j]? = some u → (wr.alloc (.cells #[.string P] 9)).cell? ((⟨wr.heap.size, 0, none⟩ : Addr).add j) = some u) := Lib.hid (cell_one_new _ _ _)
      have k0 := Lib.hid (HROW.out.alloc (.cells #[.string P] 9))
      have k2 := Lib.hid (show ∀ u ∈ ([.string P] : List Value), u.oneCell' = true from by intro u hu; simp at hu; subst hu; rfl)
      have k3 := Lib.hid (show xs.length + 1 ≤ maxLen from by unfold maxLen; omega)
      have k4 := Lib.hid (show (xs.length + 1) * 16 ≤ 140737488355328 from by omega)
      have k5 : Hid (w.heap.size ≤ (wr.alloc (.cells #[.string P] 9)).heap.size) := Lib.hid (by simp; omega)
      clear HP hpe
      go_wp2_with (first | (go_at_call 119; refine Calls.mono (HTR.out _) ?_; rintro e w' ⟨rfl, rfl⟩) | (at_builtin; refine wpList_append_lies _ rfl (.tmp 43) (.tmp 48) 45 rfl w.heap.size 9 i0 (.string ByteArray.empty) 1 16 Tryz.underlying45 HI.out HZ0.out HZ1.out HZ2.out rfl (by decide) _ _ _ rfl k0.out ⟨wr.heap.size, 0, none⟩ 1 1 _ rfl rfl k1.out k2.out (by decide) k3.out k4.out k5.out _ rfl ?_; intro g3 c3 w3 hown hgrow hat hlt3; have HO := Lib.hid hown; have HB3 := Lib.hid ((HB.out.alloc hz (.cells #[.string P] 9)).grown hgrow (by simp; omega) (fun j hj => (HROW.out.lt j hj).1)); clear hown hgrow hat hlt3))
      go_ret
      have ho := HO.out
      rw [← rowS_snoc, HN.out] at ho
      have hlen : xs.length + 1 = (splitB s).length := by rw [← HN.out]; simp
      rw [hlen] at ho
      obtain ⟨A2, c2, hv, hA2, hF2⟩ := strs_of_ownF ho rfl
      exact ⟨A2, c2, by rw [← hv, ← hlen]; rfl, hA2, HB3.out, hF2⟩

set_option maxHeartbeats 1000000 in
theorem rJoin11_any (l : List ByteArray) (A : Option Addr) (c : Nat) (w : World) (hA : StrsIn w A l) (hl : l.length ≤ 100) (hs : ∀ s ∈ l, s.size ≤ 1000) :
    Calls Tryz.prog 84 #[.slice A l.length c] w fun e w' => e = .returned (.string (bt (joinL l))) ∧ w = w' := by
  have HS := Lib.hid hs
  have HTL := Lib.hid (fun k => join_take_len l k hl hs)
  have HA := Lib.hid hA
  clear hA hs
  go_enter Tryz.func84, Tryz.ntmps84
  go_wp2
  go_loop [3, 4] (fun t i => ∃ k : Nat, k ≤ l.length ∧ i = .int .i64 k ∧ t = .string (bt (joinL (l.take k)))) (fun _ i => l.length - (intOf i).toNat)
  case atStart => exact ⟨0, Nat.zero_le _, rfl, rfl⟩
  case round =>
    obtain ⟨k, hk, rfl, rfl⟩ := hrel
    by_cases hlt : k < l.length
    · rcases HA.out with hnil | ⟨g, off, rfl, hg, hcs⟩
      · rw [hnil] at hlt; simp at hlt
      have c0 := hcs k hlt
      have hz := HS.out l[k] (List.getElem_mem _)
      have hj := joinL_snoc l k hlt
      have hl1 : (bt (joinL (l.take k))).size ≤ 100200 := by rw [bt_size]; exact HTL.out k
      clear hcs
      by_cases h0 : k = 0
      · have HE : Hid (bt (joinL (l.take k)) ++ l[k] = bt (joinL (l.take (k + 1)))) := Lib.hid (by
          rw [hj, if_pos h0]
          have ht : l.take k = [] := by rw [h0]; rfl
          conv => lhs; rw [← list_bt l[k]]
          rw [bt_append, ht]
          rfl)
        generalize l[k] = x at *
        generalize bt (joinL (l.take k)) = J at *
        subst h0
        have c0z : w.cell? ⟨g, off, none⟩ = some (.string x) := c0
        clear hj c0
        go_wp2_with fail
        go_round
        case rel => exact ⟨0 + 1, by omega, by go_num, by rw [HE.out]⟩
        case measure => simp [intOf]; omega
      · have h0i : (0 : Int) < (k : Int) := by omega
        have HE : Hid (bt (joinL (l.take k)) ++ ⟨#[44, 32]⟩ ++ l[k] = bt (joinL (l.take (k + 1)))) := Lib.hid (by
          rw [hj, if_neg h0]
          conv => lhs; rw [← list_bt l[k]]
          show bt _ ++ bt [44, 32] ++ bt _ = _
          rw [bt_append, bt_append])
        generalize l[k] = x at *
        generalize bt (joinL (l.take k)) = J at *
        clear hj
        go_wp2_with fail
        go_round
        case rel => exact ⟨k + 1, by omega, by go_num, by rw [HE.out]⟩
        case measure => simp [intOf]; omega
    · obtain rfl : k = l.length := by omega
      rw [List.take_length]
      go_wp2_with fail
      go_ret
      exact ⟨rfl, rfl⟩

theorem values_nil {l : List ByteArray} (h : l.length = 0) : valuesL l = [] := by
  rw [List.eq_nil_of_length_eq_zero h]
  rfl

theorem values_more {l : List ByteArray} (h : l.length ≠ 0) : valuesL l = splitB (bt (joinL l)) := by
  unfold valuesL
  rw [if_neg]
  intro e
  rw [e] at h
  exact h rfl

theorem join_room (l : List ByteArray) (hl : l.length ≤ 100) (hs : ∀ s ∈ l, s.size ≤ 1000) : (bt (joinL l)).size ≤ 100200 := by
  rw [bt_size]
  have := join_take_len l l.length hl hs
  rwa [List.take_length] at this

theorem values_any (l : List ByteArray) (A : Option Addr) (c : Nat) (w : World) (hA : StrsIn w A l) (hc : l.length ≤ c) (hl : l.length ≤ 90) (hs : ∀ s ∈ l, s.size ≤ 1000) :
    Calls Tryz.prog 155 #[.slice A l.length c] w fun e w' => GivesStrs (valuesL l) w e w' := by
  by_cases h0 : l.length = 0
  · rw [values_nil h0]
    have h0i : ((l.length : Int) == 0) = true := by rw [h0]; rfl
    clear hA hs
    go_enter Tryz.func155, Tryz.ntmps155
    go_wp2_with fail
    go_ret
    exact ⟨none, 0, rfl, .inl rfl, Below.refl _ _⟩
  · rw [values_more h0]
    have h0i : ((l.length : Int) == 0) = false := beq_eq_false_iff_ne.2 (by omega)
    have HJ := Lib.hid (cJoin_any l A c w hA hc (by omega) hs)
    have hjs : (bt (joinL l)).size ≤ 100000 := by
      rw [bt_size]
      have h1 := join_len l 1000 hs
      have h3 := Nat.mul_le_mul_right (1000 + 2) hl
      omega
    have HS := Lib.hid (fun w => Split_gives (bt (joinL l)) w hjs)
    generalize bt (joinL l) = J at *
    clear hA hs
    go_enter Tryz.func155, Tryz.ntmps155
    go_wp2_with fail
    refine HJ.out.mono ?_
    rintro e w1 ⟨rfl, hb⟩
    have HB := Lib.hid hb
    clear hb
    go_wp2_with fail
    refine (HS.out _).mono ?_
    rintro e w2 ⟨A2, c2, rfl, hA2, hb2⟩
    have H2 := Lib.hid (And.intro hA2 (HB.out.trans (hb2.mono HB.out.size)))
    clear hA2 hb2
    go_wp2_with fail
    go_ret
    exact ⟨A2, c2, rfl, H2.out.1, H2.out.2⟩

theorem rValues_any (l : List ByteArray) (A : Option Addr) (c : Nat) (w : World) (hA : StrsIn w A l) (hl : l.length ≤ 90) (hs : ∀ s ∈ l, s.size ≤ 1000) :
    Calls Tryz.prog 79 #[.slice A l.length c] w fun e w' => GivesStrF (valuesL l) w e w' := by
  by_cases h0 : l.length = 0
  · rw [values_nil h0]
    have h0i : ((l.length : Int) == 0) = true := by rw [h0]; rfl
    clear hA hs
    go_enter Tryz.func79, Tryz.ntmps79
    go_wp2_with fail
    go_ret
    exact ⟨none, 0, rfl, .inl rfl, Below.refl _ _, by intro b off h; cases h⟩
  · rw [values_more h0]
    have h0i : ((l.length : Int) == 0) = false := beq_eq_false_iff_ne.2 (by omega)
    have HJ := Lib.hid (rJoin11_any l A c w hA (by omega) hs)
    have hjs : (bt (joinL l)).size ≤ 100000 := by
      rw [bt_size]
      have h1 := join_len l 1000 hs
      have h3 := Nat.mul_le_mul_right (1000 + 2) hl
      omega
    have HS := Lib.hid (fun w => rSplit_any (bt (joinL l)) w hjs)
    generalize bt (joinL l) = J at *
    clear hA hs
    go_enter Tryz.func79, Tryz.ntmps79
    go_wp2_with fail
    refine HJ.out.mono ?_
    rintro e w1 ⟨rfl, rfl⟩
    go_wp2_with fail
    refine (HS.out _).mono ?_
    rintro e w2 ⟨A2, c2, rfl, hA2, hb2, hf2⟩
    have H2 := Lib.hid (And.intro hA2 (And.intro hb2 hf2))
    clear hA2 hb2 hf2
    go_wp2_with fail
    go_ret
    exact ⟨A2, c2, rfl, H2.out.1, H2.out.2.1, H2.out.2.2⟩

end Go.Proofs.YtcbhkcdphbffpaaGreatDoor

namespace Go.Proofs.YtcbhkcdphbffpaaGreatDoor
open Go.RowKit
set_option linter.unusedSimpArgs false
set_option linter.unusedVariables false

theorem span_stop (p : UInt8 → Bool) (l : List UInt8) (k : Nat) (hk : k < l.length) (h : (l.take k).all p = true) (hb : p l[k] = false) : spanN p l = k := by
  have he : l = l.take k ++ l.drop k := (List.take_append_drop k l).symm
  have hd : l.drop k = l[k] :: l.drop (k + 1) := List.drop_eq_getElem_cons hk
  have := (takeWhile_stop p (l.take k) (l.drop k) (by rw [List.all_eq_true] at h; exact h) (.inr ⟨l[k], l.drop (k + 1), hd, hb⟩)).1
  rw [← he] at this
  unfold spanN
  rw [this, List.length_take]
  omega

theorem span_whole (p : UInt8 → Bool) (l : List UInt8) (h : (l.take l.length).all p = true) : spanN p l = l.length := by
  rw [List.take_of_length_le (Nat.le_refl _), List.all_eq_true] at h
  have := (takeWhile_stop p l [] h (.inl rfl)).1
  rw [List.append_nil] at this
  unfold spanN
  rw [this]

theorem all_step (p : UInt8 → Bool) (l : List UInt8) (k : Nat) (hk : k < l.length) (h : (l.take k).all p = true) (hb : p l[k] = true) : (l.take (k + 1)).all p = true := by
  rw [List.take_succ_eq_append_getElem hk, List.all_append, h]
  simp [hb]

theorem bt_at (l : List UInt8) (k : Nat) (hk : k < l.length) : (bt l)[k]'(by rw [bt_size]; exact hk) = l[k] := rfl

set_option maxRecDepth 20000 in
theorem upto_any (stops : ByteArray) (p : UInt8 → Bool) (hp : ∀ b, goesOn stops b = p b) (l : List UInt8) (w : World) (hl : l.length ≤ maxLen) (hs : stops.size ≤ maxLen) :
    Calls Tryz.prog 112 #[.string (bt l), .string stops] w fun e w' => e = .returned (.int .i64 (spanN p l)) ∧ w = w' := by
  unfold maxLen at hl
  have hz : (bt l).size = l.length := rfl
  go_enter Tryz.func112, Tryz.ntmps112
  go_wp2
  go_loop [5] (fun i => ∃ k : Nat, k ≤ l.length ∧ i = .int .i64 k ∧ (l.take k).all p = true) (fun i => l.length - (intOf i).toNat)
  case atStart => exact ⟨0, Nat.zero_le _, rfl, rfl⟩
  case round =>
    obtain ⟨k, hk, rfl, hall⟩ := hrel
    have HA := Lib.hid hall
    clear hall
    by_cases hlt : k < l.length
    · have hidx := fun w => index_byte 9 Tryz.underlying9 (bt l) k (by rw [bt_size]; exact hlt) w
      rw [bt_at l k hlt] at hidx
      have HC := Lib.hid (fun w => Has_any stops l[k] w hs)
      have hpb := hp l[k]
      have hg : hasB stops l[k] = !goesOn stops l[k] := by unfold hasB goesOn; simp
      rw [hpb] at hg
      have HG := Lib.hid hg
      have HS := Lib.hid (fun h => span_stop p l k hlt HA.out h)
      have HT := Lib.hid (fun h => all_step p l k hlt HA.out h)
      have hlt2 : k < (bt l).size := by rw [bt_size]; exact hlt
      clear hpb hg
      generalize l[k] = x at *
      cases hb : p x
      · have HX : Hid (hasB stops x = true) := Lib.hid (by rw [HG.out, hb]; rfl)
        have HB := Lib.hid hb
        clear hb
        go_wp2_with (go_at_call 121; refine (HC.out _).mono ?_; rintro e w' ⟨rfl, rfl⟩; rw [HX.out])
        go_ret
        exact ⟨ret_int (by rw [HS.out HB.out]), rfl⟩
      · have HX : Hid (hasB stops x = false) := Lib.hid (by rw [HG.out, hb]; rfl)
        have HB := Lib.hid hb
        clear hb
        go_wp2_with (go_at_call 121; refine (HC.out _).mono ?_; rintro e w' ⟨rfl, rfl⟩; rw [HX.out])
        go_round
        case rel => exact ⟨k + 1, hlt, by go_num, HT.out HB.out⟩
        case measure => simp [intOf]; omega
    · obtain rfl : k = l.length := by omega
      have HS := Lib.hid (span_whole p l HA.out)
      go_wp2
      go_ret
      exact ⟨ret_int (by rw [HS.out]), rfl⟩

end Go.Proofs.YtcbhkcdphbffpaaGreatDoor
