/-
  Walks of package quoted: trim, Split.
-/
import Derived.Test.YtigclegknofhmaaQuoD
import Derived.Deep.AppendLies
namespace Go.Proofs.Ytigclegknofhmaa
open Go.RowKit
set_option linter.unusedSimpArgs false
set_option linter.unusedVariables false

/-- A piece without tabs and blanks at both ends. -/
def pieceB (s : ByteArray) : ByteArray := restB (endsB s) (spanN isTab (endsB s).data.toList)

theorem endsB_size (s : ByteArray) : (endsB s).size ≤ s.size := by
  have := trimEnd_leB isTab s
  unfold endsB
  rw [Lib.size_eq, Lib.size_eq] at *
  simpa using this

theorem restB_zero (s : ByteArray) : restB s 0 = s := by
  unfold restB
  exact ByteArray.extract_zero_size

theorem fnTab : FnPure 100 isTab :=
  ⟨fun args w => MuLone.run_callFunc_enter Try.func100 (by kernel_rfl) rfl args w, Tab_any⟩

set_option maxRecDepth 20000 in
theorem trim_any (s : ByteArray) (w : World) (hs : s.size ≤ maxLen) :
    Calls Try.prog 77 #[.string s] w fun e w' => e = .returned (.string (pieceB s)) ∧ Below w.heap.size w w' := by
  have hz := endsB_size s
  have hE := Ends_any s w hs
  have hn := spanN_le isTab (endsB s).data.toList
  have hW := fun (w1 : World) (g : Nat) (h : Cur w1 g (endsB s) 0) => While_gives _ _ fnTab g (endsB s) 0 w1 h (Nat.zero_le _) (by omega)
  have hP : restB (endsB s) (spanN isTab (endsB s).data.toList) = pieceB s := rfl
  rw [restB_zero] at hW
  rw [← Lib.size_eq] at hn
  generalize endsB s = t at *
  simp only [Nat.zero_add] at hW
  generalize spanN isTab t.data.toList = n at *
  have HW := Lib.hid hW
  have HP := Lib.hid hP
  have HE := Lib.hid hE
  have hR := fun (w1 : World) (g : Nat) (h : Cur w1 g t n) => Rest_gives g t n w1 h hn (by omega)
  have HR := Lib.hid hR
  have hB0 := below_box w (.cells #[.string t, .int .i64 0] 64)
  have hC0 := Cur.new w t
  clear hW hP hE hR
  go_enter Try.func77, Try.ntmps77
  go_wp2_with (first | (go_at_call 99; refine (HE.out).mono ?_; rintro e w' ⟨rfl, rfl⟩) | (go_at_call 10; refine (New_any _ _).mono ?_; rintro e w' ⟨rfl, rfl⟩))
  refine (HW.out _ _ hC0).mono ?_
  rintro e w1 ⟨rfl, h1⟩
  have H1 := Lib.hid h1
  clear h1
  go_wp2_with fail
  refine (HR.out _ _ H1.out.1).mono ?_
  rintro e w2 ⟨rfl, h2⟩
  have H2 := Lib.hid h2
  clear h2
  go_wp2_with fail
  go_ret
  refine ⟨ret_string HP.out, ?_⟩
  exact hB0.trans ((H1.out.2.trans H2.out.2).below (Nat.le_refl _) (by simp))

theorem row_stands {w w' : World} {base : Nat} {e : TypeId} {z n : Nat} {r : Value} {xs : List Value} (h : w.ownsRow base e z r n xs) (hk : ∀ k, r.ownBlock = some k → k < w.heap.size → w'.heap[k]? = w.heap[k]?) : w'.ownsRow base e z r n xs := by
  obtain ⟨q1, q2⟩ := h
  refine ⟨q1, ?_⟩
  rcases q2 with q2 | ⟨g', cap', cur, q2, q3, q4, q5⟩
  · exact .inl q2
  · subst q2
    exact .inr ⟨g', cap', cur, rfl, q3, (hk g' rfl (Array.getElem?_eq_some_iff.1 q4).1).trans q4, q5⟩

theorem BldAt.stands {w w' : World} {B b : Nat} {v : Value} {l : List UInt8} (h : BldAt w B b v l) (hb : w'.heap[b]? = w.heap[b]?) (hk : ∀ k, v.ownBlock = some k → k < w.heap.size → w'.heap[k]? = w.heap[k]?) : BldAt w' B b v l := by
  obtain ⟨p, hp, hh⟩ := h.head
  exact ⟨h.base, ⟨p, hp, hb.trans hh⟩, row_stands h.row hk, h.apart, h.nil⟩

/-- What is at work in Split: a cursor, the piece that grows, the pieces that are whole. -/
def Spl (w : World) (s : ByteArray) (m : Nat) (T : List UInt8) (xs : List ByteArray) (r : Value) (wr : World) : Prop :=
  ∃ v, Cur wr (w.heap.size + 1) s m ∧ BldAt wr w.heap.size w.heap.size v T ∧ wr.ownsRow w.heap.size 9 1 r xs.length (xs.map Value.string) ∧
    v.ownBlock ≠ some (w.heap.size + 1) ∧ r.ownBlock ≠ some (w.heap.size + 1) ∧ r.ownBlock ≠ some w.heap.size ∧ (∀ k, v.ownBlock = some k → r.ownBlock ≠ some k) ∧ Below w.heap.size w wr

theorem Spl.cur {w wr : World} {s : ByteArray} {m : Nat} {T : List UInt8} {xs : List ByteArray} {r : Value} (h : Spl w s m T xs r wr) : Cur wr (w.heap.size + 1) s m := by
  obtain ⟨v, h1, _⟩ := h
  exact h1

theorem Spl.start (w : World) (s : ByteArray) :
    Spl w s 0 [] [] (.slice none 0 0) ((w.alloc (.cells #[.pointer none, .slice none 0 0] 73)).alloc (.cells #[.string s, .int .i64 0] 64)) := by
  have h2 := Cur.new (w.alloc (.cells #[.pointer none, .slice none 0 0] 73)) s
  simp only [World.size_alloc] at h2
  exact ⟨_, h2, (bld_new w _ (Nat.le_refl _)).alloc _, World.ownsRow_nil _ _ _ _, by simp [Value.ownBlock], by simp [Value.ownBlock], by simp [Value.ownBlock], by simp [Value.ownBlock], (below_box w _).alloc (by simp) _⟩

theorem Spl.moved {w wr w2 : World} {s : ByteArray} {m m2 : Nat} {T : List UInt8} {xs : List ByteArray} {r : Value} (h : Spl w s m T xs r wr) (hm : Moved (w.heap.size + 1) s m2 wr w2) : Spl w s m2 T xs r w2 := by
  obtain ⟨v, h1, h2, h3, h4, h5, h6, h7, h8⟩ := h
  have hk : ∀ k, k ≠ w.heap.size + 1 → k < wr.heap.size → w2.heap[k]? = wr.heap[k]? := fun k hk hlt => hm.2.block k hlt (fun e => by injection e with e; exact hk (by omega))
  refine ⟨v, hm.1, h2.stands (hk _ (by omega) h2.lt) (fun k hv hlt => hk k (fun e => h4 (by rw [hv, e])) hlt), row_stands h3 (fun k hv hlt => hk k (fun e => h5 (by rw [hv, e])) hlt), h4, h5, h6, h7, ?_⟩
  exact h8.trans (hm.2.below (by omega) h8.size)

theorem splStr {w wr : World} {s : ByteArray} {m : Nat} {T : List UInt8} {xs : List ByteArray} {r : Value} (h : Spl w s m T xs r wr) (x : ByteArray) (hT : T.length ≤ 10000000) (hx : x.size ≤ 10000000) :
    Calls Try.prog 69 #[.pointer (some ⟨w.heap.size, 0, none⟩), .string x] wr fun e w' => e = .returned (.tuple #[.int .i64 x.size, .nilIface]) ∧ Spl w s m (T ++ x.data.toList) xs r w' := by
  obtain ⟨v, h1, h2, h3, h4, h5, h6, h7, h8⟩ := h
  refine (WriteString_any w.heap.size w.heap.size v T x wr h2 hT hx h8.size).mono ?_
  rintro e w2 ⟨rfl, v', hb, hrow, hk⟩
  refine ⟨rfl, v', (hk.block _ h1.lt (by omega) h4).trans h1, hb, row_stands h3 (fun k hv hlt => hk.block k hlt (fun e => h6 (by rw [hv, e])) (fun e => h7 k e hv)), ?_, h5, h6, ?_, h8.trans (hk.below h2 h8.size)⟩
  · intro e
    rcases hrow _ e with h | h
    · exact h4 h
    · have := h1.lt; omega
  · intro k hv e
    rcases hrow k hv with h | h
    · exact h7 k h e
    · have := (h3.lt k e).2; omega

/-- The same when the piece has been read: its row is done with. -/
def Low (w : World) (s : ByteArray) (m : Nat) (xs : List ByteArray) (r : Value) (wr : World) : Prop :=
  ∃ p v, Cur wr (w.heap.size + 1) s m ∧ wr.heap[w.heap.size]? = some (.cells #[p, v] 73 (0, 0)) ∧ wr.ownsRow w.heap.size 9 1 r xs.length (xs.map Value.string) ∧
    r.ownBlock ≠ some (w.heap.size + 1) ∧ r.ownBlock ≠ some w.heap.size ∧ Below w.heap.size w wr

theorem Low.below {w wr w2 : World} {s : ByteArray} {m : Nat} {xs : List ByteArray} {r : Value} (h : Low w s m xs r wr) (hb : Below wr.heap.size wr w2) : Low w s m xs r w2 := by
  obtain ⟨p, v, h1, h2, h3, h5, h6, h8⟩ := h
  exact ⟨p, v, (hb.block _ h1.lt).trans h1, (hb.block _ (Array.getElem?_eq_some_iff.1 h2).1).trans h2, row_stands h3 (fun k _ hlt => hb.block k hlt), h5, h6, h8.trans (hb.mono h8.size)⟩

theorem Low.grown {w wr w2 : World} {s : ByteArray} {m : Nat} {xs ys : List ByteArray} {r r2 : Value} (h : Low w s m xs r wr) (hg : wr.grownBy w2 r.ownBlock) (hr : w2.ownsRow w.heap.size 9 1 r2 ys.length (ys.map Value.string))
    (hat : ∀ k, r2.ownBlock = some k → r.ownBlock = some k ∨ wr.heap.size ≤ k) : Low w s m ys r2 w2 := by
  obtain ⟨p, v, h1, h2, h3, h5, h6, h8⟩ := h
  have hlt2 := (Array.getElem?_eq_some_iff.1 h2).1
  refine ⟨p, v, (hg.block _ h1.lt (fun e => h5 e.symm)).trans h1, (hg.block _ hlt2 (fun e => h6 e.symm)).trans h2, hr, ?_, ?_, ?_⟩
  · intro e
    rcases hat _ e with h | h
    · exact h5 h
    · have := h1.lt; omega
  · intro e
    rcases hat _ e with h | h
    · exact h6 h
    · omega
  · exact ⟨hg.os.trans h8.os, hg.tape.trans h8.tape, hg.output.trans h8.output, Nat.le_trans h8.size hg.size, fun k hk => (hg.block k (by have := h8.size; omega) (fun e => by have := (h3.lt k e.symm).1; omega)).trans (h8.block k hk)⟩

theorem splString {w wr : World} {s : ByteArray} {m : Nat} {T : List UInt8} {xs : List ByteArray} {r : Value} (h : Spl w s m T xs r wr) :
    Calls Try.prog 44 #[.pointer (some ⟨w.heap.size, 0, none⟩)] wr fun e w' => e = .returned (.string ⟨T.toArray⟩) ∧ Low w s m xs r w' := by
  obtain ⟨v, h1, h2, h3, h4, h5, h6, h7, h8⟩ := h
  refine (String_both w.heap.size w.heap.size v T wr h2).mono ?_
  rintro e w2 ⟨rfl, hk, hb⟩
  obtain ⟨p, hp, hh⟩ := h2.head
  exact ⟨rfl, p, v, (hk.block _ h1.lt (by omega) h4).trans h1, hb.trans hh, row_stands h3 (fun k hv hlt => hk.block k hlt (fun e => h6 (by rw [hv, e])) (fun e => h7 k e hv)), h5, h6, h8.trans (hk.below h2 h8.size)⟩

set_option maxRecDepth 20000 in
theorem Reset_any (b : Nat) (p v : Value) (w : World) (h : w.heap[b]? = some (.cells #[p, v] 73 (0, 0))) :
    Calls Try.prog 78 #[.pointer (some ⟨b, 0, none⟩)] w fun e w' => e = .returned (.tuple #[]) ∧ w'.heap[b]? = some (.cells #[.pointer none, .slice none 0 0] 73 (0, 0)) ∧ KeptBut b (.slice none 0 0) w w' := by
  have c0 : w.cell? ⟨b, 0, none⟩ = some p := by rw [Lib.cell_of_heap h]; rfl
  have c1 : w.cell? ⟨b, 1, none⟩ = some v := by rw [Lib.cell_of_heap h]; rfl
  have f0 : w.frozen? ⟨b, 0, none⟩ = false := Lib.frozen_of_heap h 0
  have f1 : w.frozen? ⟨b, 1, none⟩ = false := Lib.frozen_of_heap h 1
  have HH := Lib.hid h
  clear h
  go_enter Try.func78, Try.ntmps78
  go_wp2
  go_end0
  refine ⟨rfl, ?_, ((KeptBut.refl b _ w).setCell 0 _).setCell 1 _⟩
  have hh := HH.out
  simp [World.setCell, Array.getElem?_modify, hh]

theorem lowReset {w wr : World} {s : ByteArray} {m : Nat} {xs : List ByteArray} {r : Value} (h : Low w s m xs r wr) :
    Calls Try.prog 78 #[.pointer (some ⟨w.heap.size, 0, none⟩)] wr fun e w' => e = .returned (.tuple #[]) ∧ Spl w s m [] xs r w' := by
  obtain ⟨p, v, h1, h2, h3, h5, h6, h8⟩ := h
  refine (Reset_any w.heap.size p v wr h2).mono ?_
  rintro e w2 ⟨rfl, hb, hk⟩
  have hn : ∀ k, (Value.slice none 0 0).ownBlock ≠ some k := fun k => by simp [Value.ownBlock]
  refine ⟨rfl, .slice none 0 0, (hk.block _ h1.lt (by omega) (hn _)).trans h1, ⟨Nat.le_refl _, ⟨_, .inl rfl, hb⟩, World.ownsRow_nil _ _ _ _, hn _, fun _ => rfl⟩, row_stands h3 (fun k hv hlt => hk.block k hlt (fun e => h6 (by rw [hv, e])) (hn _)), hn _, h5, h6, fun k e => absurd e (hn k), ?_⟩
  exact ⟨hk.os.trans h8.os, hk.tape.trans h8.tape, hk.output.trans h8.output, Nat.le_trans h8.size hk.size, fun k hlt => (hk.block k (by have := h8.size; omega) (by omega) (hn _)).trans (h8.block k hlt)⟩

/-- Up to the next byte that is no p. -/
theorem span_any (p : UInt8 → Bool) (s : ByteArray) (m : Nat) (hm : m ≤ s.size) (n : Nat) (hn : n = spanN p (restB s m).data.toList) :
    m + n ≤ s.size ∧ dropB s m = (s.extract m (m + n)).data.toList ++ dropB s (m + n) ∧ (∀ b ∈ (s.extract m (m + n)).data.toList, p b = true) ∧ (∀ (h : m + n < s.size), p s[m + n] = false) := by
  have hr : (restB s m).data.toList = dropB s m := by
    unfold dropB restB
    rw [ByteArray.data_extract, Array.toList_extract, List.extract_eq_take_drop, List.take_of_length_le (by rw [List.length_drop, ← Lib.size_eq]; omega)]
  rw [hr] at hn
  have hle : n ≤ (dropB s m).length := by rw [hn]; exact spanN_le _ _
  have hlen : (dropB s m).length = s.size - m := by unfold dropB; rw [List.length_drop, Lib.size_eq]
  have ht : (dropB s m).takeWhile p = (dropB s m).take n := by
    rw [hn]
    unfold spanN
    exact (List.prefix_iff_eq_take.1 (List.takeWhile_prefix _))
  have hx : (s.extract m (m + n)).data.toList = (dropB s m).take n := by
    unfold dropB
    rw [ByteArray.data_extract, Array.toList_extract, List.extract_eq_take_drop]
    rw [show m + n - m = n by omega]
  refine ⟨by omega, ?_, ?_, ?_⟩
  · rw [hx]
    have : dropB s (m + n) = (dropB s m).drop n := by unfold dropB; rw [List.drop_drop]
    rw [this, List.take_append_drop]
  · intro b hb
    rw [hx, ← ht] at hb
    have hal := List.all_takeWhile (p := p) (l := dropB s m)
    rw [List.all_eq_true] at hal
    exact hal b hb
  · intro h
    have hcons := dropB_cons s (m + n) h
    have hd : dropB s (m + n) = (dropB s m).dropWhile p := by
      have e1 : dropB s (m + n) = (dropB s m).drop n := by unfold dropB; rw [List.drop_drop]
      have e2 := List.takeWhile_append_dropWhile (p := p) (l := dropB s m)
      rw [e1]
      conv => lhs; rw [← e2]
      rw [ht]
      rw [List.drop_append_of_le_length (by rw [List.length_take]; omega), List.drop_eq_nil_of_le (by rw [List.length_take]; omega), List.nil_append]
    rw [hd] at hcons
    have hne : (dropB s m).dropWhile p ≠ [] := by rw [hcons]; simp
    have hh := List.head_dropWhile_not (p := p) hne
    have he : ((dropB s m).dropWhile p).head hne = s[m + n] := by
      simp only [hcons, List.head_cons]
    rw [he] at hh
    exact hh

/-- The pieces of what is left, when a piece has begun. -/
def splitL (T l : List UInt8) : List ByteArray :=
  match l with
  | [] => [pieceB ⟨T.toArray⟩]
  | b :: r => if b = 34 then splitL (T ++ 34 :: r.take (readL r).2) (r.drop (readL r).2) else if b = 44 then pieceB ⟨T.toArray⟩ :: splitL [] r else splitL (T ++ [b]) r
termination_by l.length
decreasing_by all_goals (simp; try omega)

theorem splitL_quote (T r : List UInt8) : splitL T (34 :: r) = splitL (T ++ 34 :: r.take (readL r).2) (r.drop (readL r).2) := by
  rw [splitL]; simp

theorem splitL_comma (T r : List UInt8) : splitL T (44 :: r) = pieceB ⟨T.toArray⟩ :: splitL [] r := by
  rw [splitL]; simp

theorem splitL_end (T : List UInt8) : splitL T [] = [pieceB ⟨T.toArray⟩] := by
  rw [splitL]

theorem splitL_span (T p r : List UInt8) (h : ∀ b ∈ p, b ≠ 34 ∧ b ≠ 44) : splitL T (p ++ r) = splitL (T ++ p) r := by
  induction p generalizing T with
  | nil => simp
  | cons b p ih =>
    have hb := h b (by simp)
    rw [List.cons_append, splitL, if_neg hb.1, if_neg hb.2, ih _ (fun c hc => h c (by simp [hc]))]
    simp

def splitB (s : ByteArray) : List ByteArray := splitL [] s.data.toList

def splStops : ByteArray := ⟨#[34, 44]⟩

theorem goes_spl (b : UInt8) : goesOn splStops b = (b != 34 && b != 44) := by
  have : splStops.data.toList = [34, 44] := rfl
  unfold goesOn
  rw [this]
  by_cases h1 : b = 34 <;> by_cases h2 : b = 44 <;> simp [h1, h2]

end Go.Proofs.Ytigclegknofhmaa
