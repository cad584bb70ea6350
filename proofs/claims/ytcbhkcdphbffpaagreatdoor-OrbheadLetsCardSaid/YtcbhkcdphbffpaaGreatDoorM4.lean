/-
  Lemmas of this claim, part 4: the texts QuoE, QuietIn, Strs, QuoF, QuoG, MimePlain, ClassC, one behind the other.
-/
import Derived.Test.YtcbhkcdphbffpaaGreatDoorM3
import Derived.Deep.AppendLies
import Derived.Deep.DeepCutAuto
import Derived.Deep.Slices
import Derived.Laws.OwnMore
import Derived.Laws.StructEq

namespace Go.Proofs.YtcbhkcdphbffpaaGreatDoor
open Go.RowKit
set_option linter.unusedSimpArgs false
set_option linter.unusedVariables false

/-- A piece without tabs and blanks at both ends. -/
def pieceB (s : ByteArray) : ByteArray := restB (endsB s) (spanN isTab (endsB s).data.toList)

theorem endsB_size (s : ByteArray) : (endsB s).size ≤ s.size := by
  have := trimEnd_leB isTab s
  unfold endsB
  rw [Lib.size_eq, Lib.size_eq] at *
  simpa using this

theorem restB_zero (s : ByteArray) : restB s 0 = s := by
  unfold restB
  exact ByteArray.extract_zero_size

theorem fnTab : FnPure 144 isTab :=
  ⟨fun args w => MuLone.run_callFunc_enter Tryz.func144 (by kernel_rfl) rfl args w, Tab_any⟩

set_option maxRecDepth 20000 in
theorem trim_any (s : ByteArray) (w : World) (hs : s.size ≤ maxLen) :
    Calls Tryz.prog 136 #[.string s] w fun e w' => e = .returned (.string (pieceB s)) ∧ Below w.heap.size w w' := by
  have hz := endsB_size s
  have hE := Ends_any s w hs
  have hn := spanN_le isTab (endsB s).data.toList
  have hW := fun (w1 : World) (g : Nat) (h : Cur w1 g (endsB s) 0) => While_gives _ _ fnTab g (endsB s) 0 w1 h (Nat.zero_le _) (by omega)
  have hP : restB (endsB s) (spanN isTab (endsB s).data.toList) = pieceB s := rfl
  rw [restB_zero] at hW
  rw [← Lib.size_eq] at hn
  generalize endsB s = t at *
  simp only [Nat.zero_add] at hW
  generalize spanN isTab t.data.toList = n at *
  have HW := Lib.hid hW
  have HP := Lib.hid hP
  have HE := Lib.hid hE
  have hR := fun (w1 : World) (g : Nat) (h : Cur w1 g t n) => Rest_gives g t n w1 h hn (by omega)
  have HR := Lib.hid hR
  have hB0 := below_box w (.cells #[.string t, .int .i64 0] 163)
  have hC0 := Cur.new w t
  clear hW hP hE hR
  go_enter Tryz.func136, Tryz.ntmps136
  go_wp2_with (first | (go_at_call 166; refine (HE.out).mono ?_; rintro e w' ⟨rfl, rfl⟩) | (go_at_call 131; refine (New_any _ _).mono ?_; rintro e w' ⟨rfl, rfl⟩))
  refine (HW.out _ _ hC0).mono ?_
  rintro e w1 ⟨rfl, h1⟩
  have H1 := Lib.hid h1
  clear h1
  go_wp2_with fail
  refine (HR.out _ _ H1.out.1).mono ?_
  rintro e w2 ⟨rfl, h2⟩
  have H2 := Lib.hid h2
  clear h2
  go_wp2_with fail
  go_ret
  refine ⟨ret_string HP.out, ?_⟩
  exact hB0.trans ((H1.out.2.trans H2.out.2).below (Nat.le_refl _) (by simp))

theorem row_stands {w w' : World} {base : Nat} {e : TypeId} {z n : Nat} {r : Value} {xs : List Value} (h : w.ownsRow base e z r n xs) (hk : ∀ k, r.ownBlock = some k → k < w.heap.size → w'.heap[k]? = w.heap[k]?) : w'.ownsRow base e z r n xs := by
  obtain ⟨q1, q2⟩ := h
  refine ⟨q1, ?_⟩
  rcases q2 with q2 | ⟨g', cap', cur, q2, q3, q4, q5⟩
  · exact .inl q2
  · subst q2
    exact .inr ⟨g', cap', cur, rfl, q3, (hk g' rfl (Array.getElem?_eq_some_iff.1 q4).1).trans q4, q5⟩

theorem BldAt.stands {w w' : World} {B b : Nat} {v : Value} {l : List UInt8} (h : BldAt w B b v l) (hb : w'.heap[b]? = w.heap[b]?) (hk : ∀ k, v.ownBlock = some k → k < w.heap.size → w'.heap[k]? = w.heap[k]?) : BldAt w' B b v l := by
  obtain ⟨p, hp, hh⟩ := h.head
  exact ⟨h.base, ⟨p, hp, hb.trans hh⟩, row_stands h.row hk, h.apart, h.nil⟩

/-- What is at work in Split: a cursor, the piece that grows, the pieces that are whole. -/
def Spl (w : World) (s : ByteArray) (m : Nat) (T : List UInt8) (xs : List ByteArray) (r : Value) (wr : World) : Prop :=
  ∃ v, Cur wr (w.heap.size + 1) s m ∧ BldAt wr w.heap.size w.heap.size v T ∧ wr.ownsRow w.heap.size 9 1 r xs.length (xs.map Value.string) ∧
    v.ownBlock ≠ some (w.heap.size + 1) ∧ r.ownBlock ≠ some (w.heap.size + 1) ∧ r.ownBlock ≠ some w.heap.size ∧ (∀ k, v.ownBlock = some k → r.ownBlock ≠ some k) ∧ Below w.heap.size w wr

theorem Spl.cur {w wr : World} {s : ByteArray} {m : Nat} {T : List UInt8} {xs : List ByteArray} {r : Value} (h : Spl w s m T xs r wr) : Cur wr (w.heap.size + 1) s m := by
  obtain ⟨v, h1, _⟩ := h
  exact h1

theorem Spl.start (w : World) (s : ByteArray) :
    Spl w s 0 [] [] (.slice none 0 0) ((w.alloc (.cells #[.pointer none, .slice none 0 0] 143)).alloc (.cells #[.string s, .int .i64 0] 163)) := by
  have h2 := Cur.new (w.alloc (.cells #[.pointer none, .slice none 0 0] 143)) s
  simp only [World.size_alloc] at h2
  exact ⟨_, h2, (bld_new w _ (Nat.le_refl _)).alloc _, World.ownsRow_nil _ _ _ _, by simp [Value.ownBlock], by simp [Value.ownBlock], by simp [Value.ownBlock], by simp [Value.ownBlock], (below_box w _).alloc (by simp) _⟩

theorem Spl.moved {w wr w2 : World} {s : ByteArray} {m m2 : Nat} {T : List UInt8} {xs : List ByteArray} {r : Value} (h : Spl w s m T xs r wr) (hm : Moved (w.heap.size + 1) s m2 wr w2) : Spl w s m2 T xs r w2 := by
  obtain ⟨v, h1, h2, h3, h4, h5, h6, h7, h8⟩ := h
  have hk : ∀ k, k ≠ w.heap.size + 1 → k < wr.heap.size → w2.heap[k]? = wr.heap[k]? := fun k hk hlt => hm.2.block k hlt (fun e => by injection e with e; exact hk (by omega))
  refine ⟨v, hm.1, h2.stands (hk _ (by omega) h2.lt) (fun k hv hlt => hk k (fun e => h4 (by rw [hv, e])) hlt), row_stands h3 (fun k hv hlt => hk k (fun e => h5 (by rw [hv, e])) hlt), h4, h5, h6, h7, ?_⟩
  exact h8.trans (hm.2.below (by omega) h8.size)

theorem splStr {w wr : World} {s : ByteArray} {m : Nat} {T : List UInt8} {xs : List ByteArray} {r : Value} (h : Spl w s m T xs r wr) (x : ByteArray) (hT : T.length ≤ 10000000) (hx : x.size ≤ 10000000) :
    Calls Tryz.prog 132 #[.pointer (some ⟨w.heap.size, 0, none⟩), .string x] wr fun e w' => e = .returned (.tuple #[.int .i64 x.size, .nilIface]) ∧ Spl w s m (T ++ x.data.toList) xs r w' := by
  obtain ⟨v, h1, h2, h3, h4, h5, h6, h7, h8⟩ := h
  refine (WriteString_any w.heap.size w.heap.size v T x wr h2 hT hx h8.size).mono ?_
  rintro e w2 ⟨rfl, v', hb, hrow, hk⟩
  refine ⟨rfl, v', (hk.block _ h1.lt (by omega) h4).trans h1, hb, row_stands h3 (fun k hv hlt => hk.block k hlt (fun e => h6 (by rw [hv, e])) (fun e => h7 k e hv)), ?_, h5, h6, ?_, h8.trans (hk.below h2 h8.size)⟩
  · intro e
    rcases hrow _ e with h | h
    · exact h4 h
    · have := h1.lt; omega
  · intro k hv e
    rcases hrow k hv with h | h
    · exact h7 k h e
    · have := (h3.lt k e).2; omega

/-- The same when the piece has been read: its row is done with. -/
def Low (w : World) (s : ByteArray) (m : Nat) (xs : List ByteArray) (r : Value) (wr : World) : Prop :=
  ∃ p v, Cur wr (w.heap.size + 1) s m ∧ wr.heap[w.heap.size]? = some (.cells #[p, v] 143 (0, 0)) ∧ wr.ownsRow w.heap.size 9 1 r xs.length (xs.map Value.string) ∧
    r.ownBlock ≠ some (w.heap.size + 1) ∧ r.ownBlock ≠ some w.heap.size ∧ Below w.heap.size w wr

theorem Low.below {w wr w2 : World} {s : ByteArray} {m : Nat} {xs : List ByteArray} {r : Value} (h : Low w s m xs r wr) (hb : Below wr.heap.size wr w2) : Low w s m xs r w2 := by
  obtain ⟨p, v, h1, h2, h3, h5, h6, h8⟩ := h
  exact ⟨p, v, (hb.block _ h1.lt).trans h1, (hb.block _ (Array.getElem?_eq_some_iff.1 h2).1).trans h2, row_stands h3 (fun k _ hlt => hb.block k hlt), h5, h6, h8.trans (hb.mono h8.size)⟩

theorem Low.grown {w wr w2 : World} {s : ByteArray} {m : Nat} {xs ys : List ByteArray} {r r2 : Value} (h : Low w s m xs r wr) (hg : wr.grownBy w2 r.ownBlock) (hr : w2.ownsRow w.heap.size 9 1 r2 ys.length (ys.map Value.string))
    (hat : ∀ k, r2.ownBlock = some k → r.ownBlock = some k ∨ wr.heap.size ≤ k) : Low w s m ys r2 w2 := by
  obtain ⟨p, v, h1, h2, h3, h5, h6, h8⟩ := h
  have hlt2 := (Array.getElem?_eq_some_iff.1 h2).1
  refine ⟨p, v, (hg.block _ h1.lt (fun e => h5 e.symm)).trans h1, (hg.block _ hlt2 (fun e => h6 e.symm)).trans h2, hr, ?_, ?_, ?_⟩
  · intro e
    rcases hat _ e with h | h
    · exact h5 h
    · have := h1.lt; omega
  · intro e
    rcases hat _ e with h | h
    · exact h6 h
    · omega
  · exact ⟨hg.os.trans h8.os, hg.tape.trans h8.tape, hg.output.trans h8.output, Nat.le_trans h8.size hg.size, fun k hk => (hg.block k (by have := h8.size; omega) (fun e => by have := (h3.lt k e.symm).1; omega)).trans (h8.block k hk)⟩

theorem splString {w wr : World} {s : ByteArray} {m : Nat} {T : List UInt8} {xs : List ByteArray} {r : Value} (h : Spl w s m T xs r wr) :
    Calls Tryz.prog 137 #[.pointer (some ⟨w.heap.size, 0, none⟩)] wr fun e w' => e = .returned (.string ⟨T.toArray⟩) ∧ Low w s m xs r w' := by
  obtain ⟨v, h1, h2, h3, h4, h5, h6, h7, h8⟩ := h
  refine (String_both w.heap.size w.heap.size v T wr h2).mono ?_
  rintro e w2 ⟨rfl, hk, hb⟩
  obtain ⟨p, hp, hh⟩ := h2.head
  exact ⟨rfl, p, v, (hk.block _ h1.lt (by omega) h4).trans h1, hb.trans hh, row_stands h3 (fun k hv hlt => hk.block k hlt (fun e => h6 (by rw [hv, e])) (fun e => h7 k e hv)), h5, h6, h8.trans (hk.below h2 h8.size)⟩

set_option maxRecDepth 20000 in
theorem Reset_any (b : Nat) (p v : Value) (w : World) (h : w.heap[b]? = some (.cells #[p, v] 143 (0, 0))) :
    Calls Tryz.prog 138 #[.pointer (some ⟨b, 0, none⟩)] w fun e w' => e = .returned (.tuple #[]) ∧ w'.heap[b]? = some (.cells #[.pointer none, .slice none 0 0] 143 (0, 0)) ∧ KeptBut b (.slice none 0 0) w w' := by
  have c0 : w.cell? ⟨b, 0, none⟩ = some p := by rw [Lib.cell_of_heap h]; rfl
  have c1 : w.cell? ⟨b, 1, none⟩ = some v := by rw [Lib.cell_of_heap h]; rfl
  have f0 : w.frozen? ⟨b, 0, none⟩ = false := Lib.frozen_of_heap h 0
  have f1 : w.frozen? ⟨b, 1, none⟩ = false := Lib.frozen_of_heap h 1
  have HH := Lib.hid h
  clear h
  go_enter Tryz.func138, Tryz.ntmps138
  go_wp2
  go_end0
  refine ⟨rfl, ?_, ((KeptBut.refl b _ w).setCell 0 _).setCell 1 _⟩
  have hh := HH.out
  simp [World.setCell, Array.getElem?_modify, hh]

theorem lowReset {w wr : World} {s : ByteArray} {m : Nat} {xs : List ByteArray} {r : Value} (h : Low w s m xs r wr) :
    Calls Tryz.prog 138 #[.pointer (some ⟨w.heap.size, 0, none⟩)] wr fun e w' => e = .returned (.tuple #[]) ∧ Spl w s m [] xs r w' := by
  obtain ⟨p, v, h1, h2, h3, h5, h6, h8⟩ := h
  refine (Reset_any w.heap.size p v wr h2).mono ?_
  rintro e w2 ⟨rfl, hb, hk⟩
  have hn : ∀ k, (Value.slice none 0 0).ownBlock ≠ some k := fun k => by simp [Value.ownBlock]
  refine ⟨rfl, .slice none 0 0, (hk.block _ h1.lt (by omega) (hn _)).trans h1, ⟨Nat.le_refl _, ⟨_, .inl rfl, hb⟩, World.ownsRow_nil _ _ _ _, hn _, fun _ => rfl⟩, row_stands h3 (fun k hv hlt => hk.block k hlt (fun e => h6 (by rw [hv, e])) (hn _)), hn _, h5, h6, fun k e => absurd e (hn k), ?_⟩
  exact ⟨hk.os.trans h8.os, hk.tape.trans h8.tape, hk.output.trans h8.output, Nat.le_trans h8.size hk.size, fun k hlt => (hk.block k (by have := h8.size; omega) (by omega) (hn _)).trans (h8.block k hlt)⟩

/-- Up to the next byte that is no p. -/
theorem span_any (p : UInt8 → Bool) (s : ByteArray) (m : Nat) (hm : m ≤ s.size) (n : Nat) (hn : n = spanN p (restB s m).data.toList) :
    m + n ≤ s.size ∧ dropB s m = (s.extract m (m + n)).data.toList ++ dropB s (m + n) ∧ (∀ b ∈ (s.extract m (m + n)).data.toList, p b = true) ∧ (∀ (h : m + n < s.size), p s[m + n] = false) := by
  have hr : (restB s m).data.toList = dropB s m := by
    unfold dropB restB
    rw [ByteArray.data_extract, Array.toList_extract, List.extract_eq_take_drop, List.take_of_length_le (by rw [List.length_drop, ← Lib.size_eq]; omega)]
  rw [hr] at hn
  have hle : n ≤ (dropB s m).length := by rw [hn]; exact spanN_le _ _
  have hlen : (dropB s m).length = s.size - m := by unfold dropB; rw [List.length_drop, Lib.size_eq]
  have ht : (dropB s m).takeWhile p = (dropB s m).take n := by
    rw [hn]
    unfold spanN
    exact (List.prefix_iff_eq_take.1 (List.takeWhile_prefix _))
  have hx : (s.extract m (m + n)).data.toList = (dropB s m).take n := by
    unfold dropB
    rw [ByteArray.data_extract, Array.toList_extract, List.extract_eq_take_drop]
    rw [show m + n - m = n by omega]
  refine ⟨by omega, ?_, ?_, ?_⟩
  · rw [hx]
    have : dropB s (m + n) = (dropB s m).drop n := by unfold dropB; rw [List.drop_drop]
    rw [this, List.take_append_drop]
  · intro b hb
    rw [hx, ← ht] at hb
    have hal := List.all_takeWhile (p := p) (l := dropB s m)
    rw [List.all_eq_true] at hal
    exact hal b hb
  · intro h
    have hcons := dropB_cons s (m + n) h
    have hd : dropB s (m + n) = (dropB s m).dropWhile p := by
      have e1 : dropB s (m + n) = (dropB s m).drop n := by unfold dropB; rw [List.drop_drop]
      have e2 := List.takeWhile_append_dropWhile (p := p) (l := dropB s m)
      rw [e1]
      conv => lhs; rw [← e2]
      rw [ht]
      rw [List.drop_append_of_le_length (by rw [List.length_take]; omega), List.drop_eq_nil_of_le (by rw [List.length_take]; omega), List.nil_append]
    rw [hd] at hcons
    have hne : (dropB s m).dropWhile p ≠ [] := by rw [hcons]; simp
    have hh := List.head_dropWhile_not (p := p) hne
    have he : ((dropB s m).dropWhile p).head hne = s[m + n] := by
      simp only [hcons, List.head_cons]
    rw [he] at hh
    exact hh

/-- The pieces of what is left, when a piece has begun. -/
def splitL (T l : List UInt8) : List ByteArray :=
  match l with
  | [] => [pieceB ⟨T.toArray⟩]
  | b :: r => if b = 34 then splitL (T ++ 34 :: r.take (readL r).2) (r.drop (readL r).2) else if b = 44 then pieceB ⟨T.toArray⟩ :: splitL [] r else splitL (T ++ [b]) r
termination_by l.length
decreasing_by all_goals (simp; try omega)

theorem splitL_quote (T r : List UInt8) : splitL T (34 :: r) = splitL (T ++ 34 :: r.take (readL r).2) (r.drop (readL r).2) := by
  rw [splitL]; simp

theorem splitL_comma (T r : List UInt8) : splitL T (44 :: r) = pieceB ⟨T.toArray⟩ :: splitL [] r := by
  rw [splitL]; simp

theorem splitL_end (T : List UInt8) : splitL T [] = [pieceB ⟨T.toArray⟩] := by
  rw [splitL]

theorem splitL_span (T p r : List UInt8) (h : ∀ b ∈ p, b ≠ 34 ∧ b ≠ 44) : splitL T (p ++ r) = splitL (T ++ p) r := by
  induction p generalizing T with
  | nil => simp
  | cons b p ih =>
    have hb := h b (by simp)
    rw [List.cons_append, splitL, if_neg hb.1, if_neg hb.2, ih _ (fun c hc => h c (by simp [hc]))]
    simp

def splitB (s : ByteArray) : List ByteArray := splitL [] s.data.toList

def splStops : ByteArray := ⟨#[34, 44]⟩

theorem goes_spl (b : UInt8) : goesOn splStops b = (b != 34 && b != 44) := by
  have : splStops.data.toList = [34, 44] := rfl
  unfold goesOn
  rw [this]
  by_cases h1 : b = 34 <;> by_cases h2 : b = 44 <;> simp [h1, h2]

end Go.Proofs.YtcbhkcdphbffpaaGreatDoor

namespace Go.Proofs.YtcbhkcdphbffpaaGreatDoor
open Go.RowKit

/-- A world in which nothing that W held has turned. -/
def InB (W : World) : Type := { w' : World // Below W.heap.size W w' }

instance (W : World) : Nonempty (InB W) := ⟨⟨W, Below.refl _ _⟩⟩

theorem InB.cells {W : World} (x : InB W) : ∀ b o, b < W.heap.size → x.val.cell? ⟨b, o, none⟩ = W.cell? ⟨b, o, none⟩ := fun b o h => x.property.cell (p := ⟨b, o, none⟩) h

theorem wp_region_inb {P : Program} {id : Nat} {Q : Exit → Act → World → Prop} {a : Act} {w : World} {l : List Oper} (hm : P.follows .mixedOrders = true) (hB : Region.lexB .any l.toArray = true)
    (h : wpQuiet P l.toArray (fun w' => ∃ x : InB w, w' = x.val) (fun a' => ∀ w', (∃ x : InB w, w' = x.val) → Q .normal a' w') l a) : (Code.region id l.toArray true).wp P Q a w :=
  wp_region_quiet (C := fun w' => ∃ x : InB w, w' = x.val) hm hB ⟨⟨w.drew, (Below.refl _ _).drew⟩, rfl⟩ (by simpa using h)

theorem inb_call {P : Program} {f : FuncId} {args : Array Value} {W : World} {v : Value} (x : InB W)
    (h : Calls P f args x.val fun e w' => e = .returned v ∧ Below x.val.heap.size x.val w') : Calls P f args x.val fun e w'' => e = .returned v ∧ ∃ y : InB W, w'' = y.val :=
  h.mono fun _ w' ⟨he, hb⟩ => ⟨he, ⟨w', below_trans x.property hb⟩, rfl⟩

theorem inb_same {P : Program} {f : FuncId} {args : Array Value} {W : World} {v : Value} (x : InB W)
    (h : Calls P f args x.val fun e w' => e = .returned v ∧ x.val = w') : Calls P f args x.val fun e w'' => e = .returned v ∧ ∃ y : InB W, w'' = y.val :=
  h.mono fun _ _ ⟨he, hb⟩ => ⟨he, x, hb.symm⟩

theorem inb_drew {P : Program} {f : FuncId} {args : Array Value} {W : World} {v : Value} (x : InB W)
    (h : Calls P f args x.val fun e w' => e = .returned v ∧ Drew x.val w') : Calls P f args x.val fun e w'' => e = .returned v ∧ ∃ y : InB W, w'' = y.val :=
  h.mono fun _ w' ⟨he, hb⟩ => ⟨he, ⟨w', x.property.trans (hb.below _)⟩, rfl⟩

end Go.Proofs.YtcbhkcdphbffpaaGreatDoor

namespace Go.Proofs.YtcbhkcdphbffpaaGreatDoor
open Go.RowKit
set_option linter.unusedSimpArgs false
set_option linter.unusedVariables false

theorem infoStrT : (Tryz.prog.info? 9).map (fun i => (i.zero, i.size, i.bytes)) = some (some (.string ByteArray.empty), 1, 16) := by kernel_rfl

/-- Texts as values. -/
def rowS (l : List ByteArray) : List Value := l.map Value.string

theorem rowS_length (l : List ByteArray) : (rowS l).length = l.length := by simp [rowS]

theorem rowS_snoc (l : List ByteArray) (x : ByteArray) : rowS (l ++ [x]) = rowS l ++ [.string x] := by simp [rowS]

/-- A row of texts lies from an address on. -/
def StrsIn (w : World) (A : Option Addr) (l : List ByteArray) : Prop :=
  l = [] ∨ ∃ b off, A = some ⟨b, off, none⟩ ∧ b < w.heap.size ∧ ∀ i (h : i < l.length), w.cell? ⟨b, off + i, none⟩ = some (.string l[i])

theorem StrsIn.below {w w' : World} {A : Option Addr} {l : List ByteArray} (h : StrsIn w A l) (hb : Below w.heap.size w w') : StrsIn w' A l := by
  rcases h with h | ⟨b, off, hA, hlt, hc⟩
  · exact .inl h
  · exact .inr ⟨b, off, hA, Nat.lt_of_lt_of_le hlt hb.size, fun i hi => (cell_below hb hlt).trans (hc i hi)⟩

theorem strs_of_own {w : World} {B : Nat} {e : TypeId} {v : Value} {n : Nat} {l : List ByteArray} (h : w.ownsRow B e 1 v n (rowS l)) (hn : n = l.length) : ∃ A c, v = .slice A l.length c ∧ StrsIn w A l := by
  subst hn
  rcases h.2 with ⟨rfl, h0⟩ | ⟨g, cap, cur, rfl, hB, hg, _⟩
  · have : l = [] := List.eq_nil_of_length_eq_zero h0
    subst this
    exact ⟨none, 0, rfl, .inl rfl⟩
  · refine ⟨_, _, rfl, .inr ⟨g, 0, rfl, ?_, fun i hi => ?_⟩⟩
    · rcases Nat.lt_or_ge g w.heap.size with hlt | hge
      · exact hlt
      · rw [Array.getElem?_eq_none hge] at hg; cases hg
    · rw [Nat.zero_add, h.cellAt i (by omega)]
      simp [rowS, hi]

/-- What comes is a row of texts. -/
def GivesStrs (l : List ByteArray) (w : World) (e : Ending) (w' : World) : Prop :=
  ∃ A c, e = .returned (.slice A l.length c) ∧ StrsIn w' A l ∧ Below w.heap.size w w'

theorem rSame_strs (l : List ByteArray) (A A2 : Option Addr) (c c2 : Nat) (w : World) (hn : l.length ≤ maxLen) (hA : StrsIn w A l) (hA2 : StrsIn w A2 l) :
    Calls Tryz.prog 19 #[.slice A l.length c, .slice A2 l.length c2] w fun e w' => e = .returned (.bool true) ∧ Below w.heap.size w w' := by
  unfold maxLen at hn
  have HA := Lib.hid hA; clear hA
  have HA2 := Lib.hid hA2; clear hA2
  go_enter Tryz.func19, Tryz.ntmps19
  go_wp2_with fail
  go_loopw [5] (fun i wr => ∃ n : Nat, n ≤ l.length ∧ i = .int .i64 n ∧ Below w.heap.size w wr) (fun i _ => l.length - (intOf i).toNat)
  case atStart => exact ⟨0, Nat.zero_le _, rfl, Below.refl _ _⟩
  case round =>
    obtain ⟨n, hn', rfl, hb⟩ := hrel
    by_cases hlt : n < l.length
    · have hz := hb.size
      rcases HA.out.below hb with hnil | ⟨g, off, rfl, hg, hcs⟩
      · rw [hnil] at hlt; simp at hlt
      rcases HA2.out.below hb with hnil | ⟨g2, off2, rfl, hg2, hcs2⟩
      · rw [hnil] at hlt; simp at hlt
      have c0 := hcs n hlt
      have d0 := hcs2 n hlt
      have HB := Lib.hid hb
      have i0 : (0 : Int) ≤ (n : Int) := by omega
      have i1 : (n : Int) < (l.length : Int) := by omega
      clear hcs hcs2 hb
      generalize l[n] = x at *
      go_upto_region 6 with fail
      go_cut [25] (fun s25 wx => s25 = .bool false ∧ Below wr.heap.size wr wx)
      case first =>
        have hx := @InB.cells wr
        refine wp_region_inb (by kernel_rfl) (by kernel_rfl) ?_; (repeat (first | go_big_quiet_skip | (go_big_quiet_want; go_big_quiet_op; first | go_big_quiet_on | (apply Exists.intro; refine ⟨fun x => ?_, ?_⟩; (· (fail)); go_big_quiet_on)))); refine wpQuiet_nil ?_; intro _ hw'; obtain ⟨⟨wq, hbq⟩, rfl⟩ := hw'
        go_wp2_with fail
        go_meet
        exact ⟨rfl, hbq⟩
      obtain ⟨rfl, hb2⟩ := hcut
      obtain ⟨W3, rfl⟩ : ∃ W3 : World, W3 = wc := ⟨_, rfl⟩
      have HB2 := Lib.hid hb2
      clear hb2 c0 d0
      go_wp2_with fail
      go_roundw
      case rel => exact ⟨n + 1, by omega, by go_num, HB.out.trans (HB2.out.mono HB.out.size)⟩
      case measure => simp [intOf]; omega
    · obtain rfl : n = l.length := by omega
      have HB := Lib.hid hb; clear hb
      go_wp2_with fail
      go_ret
      exact ⟨rfl, HB.out⟩

/-- A function value of the program that tests a text. -/
def FnStr (K : FuncId) (p : ByteArray → Bool) : Prop :=
  (∀ (args : Array Value) (w : World), (callFunc K args).run Tryz.prog w = .ok (.enter K args) w) ∧
    ∀ (x : ByteArray) (w : World), Calls Tryz.prog K #[.string x] w fun e w' => e = .returned (.bool (p x)) ∧ w = w'

theorem any_take (p : ByteArray → Bool) (l : List ByteArray) (n : Nat) (hn : n < l.length) : (l.take (n + 1)).any p = ((l.take n).any p || p l[n]) := by
  rw [List.take_succ_eq_append_getElem hn, List.any_append]
  simp

def IndexPost (p : ByteArray → Bool) (l : List ByteArray) (w : World) (e : Ending) (w' : World) : Prop := ∃ n : Int, e = .returned (.int .i64 n) ∧ decide (0 ≤ n) = l.any p ∧ w = w'

end Go.Proofs.YtcbhkcdphbffpaaGreatDoor

namespace Go.Proofs.YtcbhkcdphbffpaaGreatDoor
open Go.RowKit
set_option linter.unusedSimpArgs false
set_option linter.unusedVariables false

def SplR (w : World) (s : ByteArray) (r : Value) (wr : World) : Prop :=
  ∃ (m : Nat) (T : List UInt8) (xs : List ByteArray), m ≤ s.size ∧ T.length ≤ m ∧ xs.length ≤ m ∧ xs ++ splitL T (dropB s m) = splitB s ∧ Spl w s m T xs r wr

theorem splitEnd (xs : List ByteArray) (P : ByteArray) : (xs ++ [P]).map Value.string = xs.map Value.string ++ [.string P] := by simp

theorem Low.row {w wr : World} {s : ByteArray} {m : Nat} {xs : List ByteArray} {r : Value} (h : Low w s m xs r wr) : wr.ownsRow w.heap.size 9 1 r xs.length (xs.map Value.string) := by
  obtain ⟨p, v, h1, h2, h3, h5, h6, h8⟩ := h
  exact h3

theorem Low.size {w wr : World} {s : ByteArray} {m : Nat} {xs : List ByteArray} {r : Value} (h : Low w s m xs r wr) : w.heap.size ≤ wr.heap.size := by
  obtain ⟨p, v, h1, h2, h3, h5, h6, h8⟩ := h
  exact h8.size

theorem lowApp {w wr w2 : World} {s : ByteArray} {m g c : Nat} {xs : List ByteArray} {r : Value} {P : ByteArray} (h : Low w s m xs r wr)
    (ho : w2.ownsRow w.heap.size 9 1 (.slice (some ⟨g, 0, none⟩) (xs.length + 1) c) (xs.length + 1) (xs.map Value.string ++ [.string P])) (hg : wr.grownBy w2 r.ownBlock) (hat : r.ownBlock = some g ∨ g = wr.heap.size) :
    Low w s m (xs ++ [P]) (.slice (some ⟨g, 0, none⟩) (xs.length + 1) c) w2 := by
  refine h.grown hg (by rw [List.length_append, splitEnd]; exact ho) ?_
  intro k e
  simp [Value.ownBlock] at e
  subst e
  rcases hat with h | h
  · exact .inl h
  · exact .inr (by omega)

set_option maxHeartbeats 2000000 in
set_option maxRecDepth 100000 in
theorem Split_any (s : ByteArray) (w : World) (hs : s.size ≤ 100000) :
    Calls Tryz.prog 96 #[.string s] w fun e w' => ∃ r, e = .returned r ∧ w'.ownsRow w.heap.size 9 1 r (splitB s).length ((splitB s).map Value.string) ∧ Below w.heap.size w w' := by
  obtain ⟨i0, hi, hz0, hz1, hz2⟩ := info_parts infoStrT
  have HI := Lib.hid hi; have HZ0 := Lib.hid hz0; have HZ1 := Lib.hid hz1; have HZ2 := Lib.hid hz2
  clear hi hz0 hz1 hz2
  have hsm : s.size ≤ maxLen := by unfold maxLen; omega
  have HS0 := Lib.hid (Spl.start w s)
  have HG := Lib.hid (show SplR w s (.slice none 0 0) _ from ⟨0, [], [], Nat.zero_le _, by simp, by simp, by unfold splitB dropB; simp, Spl.start w s⟩)
  have HSQ : Hid (splitB s = splitB s) := Lib.hid rfl
  go_enter Tryz.func96, Tryz.ntmps96
  go_wp2_with (go_at_call 131; refine (New_any _ _).mono ?_; rintro e w' ⟨rfl, rfl⟩)
  generalize hW : (w.alloc (.cells #[.pointer none, .slice none 0 0] 143)).alloc (.cells #[.string s, .int .i64 0] 163) = W at *
  clear hW HS0
  go_loopw [3] (fun r wr => SplR w s r wr) (fun _ wr => s.size + 1 - curAt wr (w.heap.size + 1))
  case atStart => exact HG.out
  case round =>
    clear HG
    obtain ⟨m, T, xs, hms, hTm, hxm, hR, ht⟩ := hrel
    have HT := Lib.hid ht
    have H1 := Lib.hid hR
    have hcur0 := Lib.hid ht.cur.at_
    obtain ⟨n, hn⟩ : ∃ n, n = spanN (goesOn splStops) (restB s m).data.toList := ⟨_, rfl⟩
    obtain ⟨d1, d2, d3, d4⟩ := span_any _ s m hms n hn
    have HU : Hid (∀ (w1 : World), Cur w1 (w.heap.size + 1) s m → Calls Tryz.prog 133 #[.pointer (some ⟨w.heap.size + 1, 0, none⟩), .string ⟨#[34, 44]⟩] w1 fun e w' => e = .returned (.string (s.extract m (m + n))) ∧ Moved (w.heap.size + 1) s (m + n) w1 w') :=
      Lib.hid (fun w1 h1 => by have := Until_gives splStops (w.heap.size + 1) s m w1 h1 hms hsm; rw [← hn] at this; exact this)
    have HSP := Lib.hid (splitL_span T _ (dropB s (m + n)) (fun b hb => by have := d3 b hb; rw [goes_spl] at this; simpa using this))
    have HD2 := Lib.hid d2
    have HD4 := Lib.hid (fun (h : m + n < s.size) => (show s[m + n] = 34 ∨ s[m + n] = 44 from by have := d4 h; rw [goes_spl] at this; simp only [Bool.and_eq_false_iff, bne_eq_false_iff_eq] at this; exact this))
    have HLX := Lib.hid (ext_length s m (m + n) d1)
    clear ht hR hn d2 d3 d4
    go_wp2_with fail
    have hc3 := HU.out wr HT.out.cur
    refine Calls.mono hc3 ?_
    rintro e w3 ⟨rfl, hm3⟩
    have HT3 := Lib.hid (HT.out.moved hm3)
    clear hm3 hc3 HT HU
    have hxz : (s.extract m (m + n)).size ≤ 10000000 := by rw [Lib.size_eq, HLX.out]; omega
    go_wp2_with fail
    refine (splStr HT3.out (s.extract m (m + n)) (by omega) hxz).mono ?_
    rintro e w4 ⟨rfl, ht4⟩
    have HT4 := Lib.hid ht4
    clear ht4 HT3
    obtain ⟨q, hq⟩ : ∃ q, m + n = q := ⟨_, rfl⟩
    obtain ⟨U, hU⟩ : ∃ U, T ++ (s.extract m (m + n)).data.toList = U := ⟨_, rfl⟩
    have hUl : U.length ≤ q := by rw [← hU, List.length_append, HLX.out]; omega
    have hqR : xs ++ splitL U (dropB s q) = splitB s := by
      have h1 := H1.out
      rw [HD2.out, HSP.out, hU, hq] at h1
      exact h1
    rw [hU, hq] at HT4
    rw [hq] at HD4 d1
    have G1 := Lib.hid hqR
    have hmq : m ≤ q := by omega
    clear hU hqR H1 HD2 HSP HLX hxz hTm
    go_wp2_with fail
    have hPz : ∀ U : List UInt8, U.length ≤ s.size → (⟨U.toArray⟩ : ByteArray).size ≤ maxLen := fun U h => by
      rw [Lib.size_eq]; simpa using (by omega : U.length ≤ maxLen)
    have HPZ := Lib.hid (hPz U (by omega))
    clear hPz
    have k3 := Lib.hid (show xs.length + 1 ≤ maxLen from by unfold maxLen; omega)
    have k4 := Lib.hid (show (xs.length + 1) * 16 ≤ 140737488355328 from by omega)
    have k2 := Lib.hid (show ∀ v ∈ ([.string (pieceB ⟨U.toArray⟩)] : List Value), v.oneCell' = true from by intro v hv; simp at hv; subst hv; rfl)
    by_cases hend : q = s.size
    · subst hend
      have hc4 := Peek0_no (w.heap.size + 1) s _ HT4.out.cur hsm
      refine Calls.mono hc4 ?_
      rintro e w5 ⟨rfl, hm5⟩
      have HT5 := Lib.hid (HT4.out.moved hm5)
      clear hm5 HT4 hc4
      go_wp2_with fail
      refine (splString HT5.out).mono ?_
      rintro e w6 ⟨rfl, h6⟩
      have H6 := Lib.hid h6
      clear h6 HT5
      go_wp2_with fail
      refine (trim_any ⟨U.toArray⟩ _ HPZ.out).mono ?_
      rintro e w7 ⟨rfl, h7⟩
      have hl7 := H6.out.below h7
      have hl8 := hl7.below (below_box w7 (.cells #[.string (pieceB ⟨U.toArray⟩)] 9))
      have H8 := Lib.hid hl8
      have k0 := Lib.hid (Low.row hl8)
      have k1 := Lib.hid (cell_one_new w7 (.string (pieceB ⟨U.toArray⟩)) 9)
      have k5 := Lib.hid (show w.heap.size ≤ (w7.alloc (.cells #[.string (pieceB ⟨U.toArray⟩)] 9)).heap.size from hl8.size)
      clear h7 hl7 hl8
      go_wp2_with (at_builtin; refine wpList_append_lies _ rfl (.tmp 32) (.tmp 35) 45 rfl w.heap.size 9 i0 (.string ByteArray.empty) 1 16 Tryz.underlying45 HI.out HZ0.out HZ1.out HZ2.out rfl (by decide) _ _ _ rfl k0.out ⟨w7.heap.size, 0, none⟩ 1 1 _ rfl rfl k1.out k2.out (by decide) k3.out k4.out k5.out _ rfl ?_; intro g3 c3 w8 hown2 hgrow2 hat2 hlt2; have HL := Lib.hid (lowApp H8.out hown2 hgrow2 hat2); clear hown2 hgrow2 hat2 hlt2)
      refine (lowReset HL.out).mono ?_
      rintro e w9 ⟨rfl, h9⟩
      have H9 := Lib.hid h9
      clear h9 HL H8 H6 k0 k1 k5
      go_wp2_with fail
      go_ret
      obtain ⟨v, a1, a2, a3, a4, a5, a6, a7, a8⟩ := H9.out
      have e : xs ++ [pieceB ⟨U.toArray⟩] = splitB s := by
        have h1 := G1.out
        rw [dropB_end, splitL_end] at h1
        exact h1
      rw [e] at a3
      exact ⟨_, rfl, a3, a8⟩
    · have hql : q < s.size := by omega
      clear hend
      have hc4 := Peek0_yes (w.heap.size + 1) s q _ HT4.out.cur hql hsm
      have HX := Lib.hid (dropB_cons s q hql)
      have HCO := Lib.hid (fun (w1 : World) (h1 : Cur w1 (w.heap.size + 1) s q) (h2 : s[q] = 34) => collect_gives (w.heap.size + 1) s q w1 h1 hql h2 hs)
      have HN := Lib.hid (fun (w1 : World) (h1 : Cur w1 (w.heap.size + 1) s q) => Next_gives (w.heap.size + 1) s q w1 h1 hql hsm)
      have hb := HD4.out hql
      have hks := readL_le (dropB s (q + 1))
      have hdl : (dropB s (q + 1)).length = s.size - (q + 1) := by unfold dropB; rw [List.length_drop, Lib.size_eq]
      have HAL : Hid (s[q] = 34 → (s.extract q (q + 1 + (readL (dropB s (q + 1))).2)).data.toList = 34 :: (dropB s (q + 1)).take (readL (dropB s (q + 1))).2 ∧ (dropB s (q + 1)).drop (readL (dropB s (q + 1))).2 = dropB s (q + 1 + (readL (dropB s (q + 1))).2)) := Lib.hid (by
        intro h34
        constructor
        · have e := dropB_cons s q hql
          rw [h34] at e
          rw [ByteArray.data_extract, Array.toList_extract, List.extract_eq_take_drop]
          show List.take _ (dropB s q) = _
          rw [e, show q + 1 + (readL (dropB s (q + 1))).2 - q = (readL (dropB s (q + 1))).2 + 1 by omega, List.take_succ_cons]
        · unfold dropB
          rw [List.drop_drop])
      have hkq : q + 1 + (readL (dropB s (q + 1))).2 ≤ s.size := by omega
      generalize hk : (readL (dropB s (q + 1))).2 = k at *
      generalize (readL (dropB s (q + 1))).1 = tk at *
      have HK := Lib.hid hk
      clear hks hdl hk
      refine Calls.mono hc4 ?_
      rintro e w5 ⟨rfl, hm5⟩
      have HT5 := Lib.hid (HT4.out.moved hm5)
      clear hm5 HT4 hc4
      have hb34 : ((34 : UInt8).toNat : Int) = 34 := rfl
      have hb44 : ((44 : UInt8).toNat : Int) = 44 := rfl
      rcases hb with hb | hb
      · rw [hb, hb34]
        have HB := Lib.hid hb
        clear hb HN k2 k3 k4 HPZ
        go_wp2_with fail
        have hc6 := HCO.out _ HT5.out.cur HB.out
        refine Calls.mono hc6 ?_
        rintro e w6 ⟨rfl, hm6⟩
        have HT6 := Lib.hid (HT5.out.moved hm6)
        clear hm6 HT5 HCO hc6
        have hxz : (s.extract q (q + 1 + k)).size ≤ 10000000 := by rw [extract_size]; omega
        have HXL := Lib.hid (ext_length s q (q + 1 + k) hkq)
        go_wp2_with fail
        refine (splStr HT6.out (s.extract q (q + 1 + k)) (by omega) hxz).mono ?_
        rintro e w7 ⟨rfl, ht7⟩
        have HT7 := Lib.hid ht7
        clear ht7 HT6
        go_wp2_with fail
        go_roundw
        case rel =>
          refine ⟨q + 1 + k, _, xs, hkq, ?_, by omega, ?_, HT7.out⟩
          · rw [List.length_append, HXL.out]; omega
          · have h1 := G1.out
            have e := HAL.out HB.out
            rw [HX.out, HB.out, splitL_quote, HK.out, e.2] at h1
            rw [e.1]
            exact h1
        case measure => rw [HT7.out.cur.at_, hcur0.out]; omega
      · rw [hb, hb44]
        have HB := Lib.hid hb
        rw [hb, hb44] at HN
        clear hb HCO HAL
        go_wp2_with fail
        refine (splString HT5.out).mono ?_
        rintro e w6 ⟨rfl, h6⟩
        have H6 := Lib.hid h6
        clear h6 HT5
        go_wp2_with fail
        refine (trim_any ⟨U.toArray⟩ _ HPZ.out).mono ?_
        rintro e w7 ⟨rfl, h7⟩
        have hl7 := H6.out.below h7
        have hl8 := hl7.below (below_box w7 (.cells #[.string (pieceB ⟨U.toArray⟩)] 9))
        have H8 := Lib.hid hl8
        have k0 := Lib.hid (Low.row hl8)
        have k1 := Lib.hid (cell_one_new w7 (.string (pieceB ⟨U.toArray⟩)) 9)
        have k5 := Lib.hid (show w.heap.size ≤ (w7.alloc (.cells #[.string (pieceB ⟨U.toArray⟩)] 9)).heap.size from hl8.size)
        clear h7 hl7 hl8
        go_wp2_with (at_builtin; refine wpList_append_lies _ rfl (.tmp 32) (.tmp 35) 45 rfl w.heap.size 9 i0 (.string ByteArray.empty) 1 16 Tryz.underlying45 HI.out HZ0.out HZ1.out HZ2.out rfl (by decide) _ _ _ rfl k0.out ⟨w7.heap.size, 0, none⟩ 1 1 _ rfl rfl k1.out k2.out (by decide) k3.out k4.out k5.out _ rfl ?_; intro g3 c3 w8 hown2 hgrow2 hat2 hlt2; have HL := Lib.hid (lowApp H8.out hown2 hgrow2 hat2); clear hown2 hgrow2 hat2 hlt2)
        refine (lowReset HL.out).mono ?_
        rintro e w9 ⟨rfl, h9⟩
        have H9 := Lib.hid h9
        clear h9 HL H8 H6 k0 k1 k5
        go_wp2_with fail
        have hc10 := HN.out _ H9.out.cur
        refine Calls.mono hc10 ?_
        rintro e w10 ⟨rfl, hm10⟩
        have HT10 := Lib.hid (H9.out.moved hm10)
        clear hm10 hc10 H9
        go_wp2_with fail
        go_roundw
        case rel =>
          refine ⟨q + 1, [], _, by omega, by simp, ?_, ?_, HT10.out⟩
          · rw [List.length_append]; simp; omega
          · have h1 := G1.out
            rw [HX.out, HB.out, splitL_comma] at h1
            rw [List.append_assoc]
            exact h1
        case measure => rw [HT10.out.cur.at_, hcur0.out]; omega

end Go.Proofs.YtcbhkcdphbffpaaGreatDoor

namespace Go.Proofs.YtcbhkcdphbffpaaGreatDoor
open Go.RowKit
set_option linter.unusedSimpArgs false
set_option linter.unusedVariables false

theorem Split_gives (s : ByteArray) (w : World) (hs : s.size ≤ 100000) :
    Calls Tryz.prog 96 #[.string s] w fun e w' => GivesStrs (splitB s) w e w' := by
  refine (Split_any s w hs).mono ?_
  rintro e w' ⟨r, rfl, ho, hb⟩
  obtain ⟨A, c, rfl, hst⟩ := strs_of_own ho rfl
  exact ⟨A, c, rfl, hst, hb⟩

theorem cnt_all (p : UInt8 → Bool) (l : List UInt8) : ((cnt p l : Int) == (l.length : Int)) = l.all p := by
  unfold cnt
  rw [Bool.eq_iff_iff, beq_iff_eq, List.all_eq_true]
  constructor
  · intro h
    exact List.length_filter_eq_length_iff.1 (by omega)
  · intro h
    rw [List.length_filter_eq_length_iff.2 h]

def needsB (s : ByteArray) : Bool := s.toList.isEmpty || !(s.data.toList.all isToken)

theorem split_lives : splitB ⟨#[97, 44, 34, 98, 44, 99, 34]⟩ = [⟨#[97]⟩, ⟨#[34, 98, 44, 99, 34]⟩] := by
  show splitL [] [97, 44, 34, 98, 44, 99, 34] = _
  rw [splitL, if_neg (by decide), if_neg (by decide), splitL_comma, splitL_quote]
  have h : readL [98, 44, 99, 34] = ([98, 44, 99], 4) := by simp [readL]
  rw [h]
  show [pieceB ⟨#[97]⟩] ++ splitL [34, 98, 44, 99, 34] [] = _
  rw [splitL_end]
  have h1 : pieceB ⟨#[97]⟩ = ⟨#[97]⟩ := by rfl
  have h2 : pieceB ⟨[34, 98, 44, 99, 34].toArray⟩ = ⟨#[34, 98, 44, 99, 34]⟩ := by rfl
  rw [h1, h2]
  rfl

theorem ser_lives : (⟨(serL (⟨#[97, 34]⟩ : ByteArray).data.toList).toArray⟩ : ByteArray) = ⟨#[34, 97, 92, 34, 34]⟩ := by rfl

/-- What is put in quotes is read back. -/
theorem readL_esc (l r : List UInt8) : readL (escL l ++ 34 :: r) = (l, (escL l).length + 1) := by
  induction l with
  | nil => rw [show escL [] = [] from rfl]; exact readL_quote r
  | cons b l ih =>
    have e : escL (b :: l) = (if b = 34 ∨ b = 92 then [92, b] else [b]) ++ escL l := by simp only [escL, List.flatMap_cons]
    rw [e]
    by_cases h : b = 34 ∨ b = 92
    · rw [if_pos h]
      show readL (92 :: b :: (escL l ++ 34 :: r)) = _
      rw [readL_slash, ih]
      simp; omega
    · rw [if_neg h]
      show readL (b :: (escL l ++ 34 :: r)) = _
      rw [readL_plain b _ (fun e => h (.inl e)) (fun e => h (.inr e)), ih]
      simp; omega

end Go.Proofs.YtcbhkcdphbffpaaGreatDoor

namespace Go.Proofs.YtcbhkcdphbffpaaGreatDoor
set_option linter.unusedSimpArgs false
set_option linter.unusedVariables false

/-- Bytes as a text. -/
def bt (l : List UInt8) : ByteArray := ⟨l.toArray⟩

theorem bt_list (l : List UInt8) : (bt l).data.toList = l := rfl

theorem list_bt (s : ByteArray) : bt s.data.toList = s := rfl

theorem bt_size (l : List UInt8) : (bt l).size = l.length := rfl

theorem bt_inj {a b : List UInt8} (h : bt a = bt b) : a = b := by
  have := congrArg (fun s : ByteArray => s.data.toList) h
  exact this

def tokL (l : List UInt8) : Bool := !l.isEmpty && l.all isToken

def smallL (l : List UInt8) : Bool := tokL l && (lowerL l == l)

def quoL (l : List UInt8) : Bool := l.all isQuoted

abbrev Pars := List (List UInt8 × List UInt8)

structure MimeL where
  t : List UInt8
  s : List UInt8
  ps : Pars

/-- Where a parameter stands; below 0: it does not. -/
def atL (ps : Pars) (n : List UInt8) : Int :=
  match ps with
  | [] => -1
  | p :: r => if p.1 = n then 0 else if atL r n < 0 then -1 else atL r n + 1

theorem atL_ge (ps : Pars) (n : List UInt8) : -1 ≤ atL ps n ∧ atL ps n < ps.length := by
  induction ps with
  | nil => simp [atL]
  | cons p r ih =>
    unfold atL
    simp only [List.length_cons]
    split
    · omega
    · split <;> omega

theorem atL_append (ps qs : Pars) (n : List UInt8) : atL (ps ++ qs) n = if atL ps n < 0 then (if atL qs n < 0 then -1 else ps.length + atL qs n) else atL ps n := by
  induction ps with
  | nil =>
    have := (atL_ge qs n).1
    simp [atL]
    intro h
    omega
  | cons p r ih =>
    simp only [List.cons_append, atL, ih, List.length_cons]
    by_cases h : p.1 = n
    · simp [h]
    · rw [if_neg h, if_neg h]
      have h1 := (atL_ge r n).1
      have h2 := (atL_ge qs n).1
      by_cases h3 : atL r n < 0 <;> by_cases h4 : atL qs n < 0 <;> simp [h3, h4] <;> (repeat (split)) <;> omega

def okP (ps : Pars) (i : Nat) : Bool :=
  match ps[i]? with
  | some p => smallL p.1 && quoL p.2 && atL ps p.1 == (i : Int)
  | none => true

def goodP (ps : Pars) : Bool := (List.range ps.length).all (okP ps)

def goodL (m : MimeL) : Bool := goodP m.ps && smallL m.t && smallL m.s

theorem goodP_iff (ps : Pars) : goodP ps = true ↔ ∀ i (h : i < ps.length), smallL ps[i].1 = true ∧ quoL ps[i].2 = true ∧ atL ps ps[i].1 = i := by
  unfold goodP
  rw [List.all_eq_true]
  constructor
  · intro h i hi
    have := h i (List.mem_range.2 hi)
    unfold okP at this
    rw [List.getElem?_eq_getElem hi] at this
    simp only [Bool.and_eq_true, beq_iff_eq] at this
    exact ⟨this.1.1, this.1.2, this.2⟩
  · intro h i hi
    have hi' := List.mem_range.1 hi
    unfold okP
    rw [List.getElem?_eq_getElem hi']
    obtain ⟨h1, h2, h3⟩ := h i hi'
    simp only [Bool.and_eq_true, beq_iff_eq]
    exact ⟨⟨h1, h2⟩, h3⟩

theorem goodP_nil : goodP [] = true := rfl

theorem goodP_snoc (ps : Pars) (n v : List UInt8) (h : goodP ps = true) (h1 : smallL n = true) (h2 : quoL v = true) (h3 : atL ps n < 0) : goodP (ps ++ [(n, v)]) = true := by
  rw [goodP_iff] at h ⊢
  intro i hi
  rw [List.length_append] at hi
  by_cases hlt : i < ps.length
  · rw [List.getElem_append_left hlt]
    obtain ⟨a, b, c⟩ := h i hlt
    refine ⟨a, b, ?_⟩
    rw [atL_append, if_neg (by omega), c]
  · have hi' : i = ps.length := by simp at hi; omega
    subst hi'
    rw [List.getElem_append_right (Nat.le_refl _)]
    simp only [Nat.sub_self, List.getElem_cons_zero]
    refine ⟨h1, h2, ?_⟩
    rw [atL_append, if_pos h3]
    simp [atL]

theorem goodP_new {acc qs : Pars} {q : List UInt8 × List UInt8} (h : goodP (acc ++ q :: qs) = true) : smallL q.1 = true ∧ quoL q.2 = true ∧ atL acc q.1 < 0 := by
  rw [goodP_iff] at h
  obtain ⟨a, b, c⟩ := h acc.length (by simp)
  rw [List.getElem_append_right (Nat.le_refl _)] at a b c
  simp only [Nat.sub_self, List.getElem_cons_zero] at a b c
  refine ⟨a, b, ?_⟩
  rw [atL_append] at c
  have := atL_ge acc q.1
  by_cases hn : atL acc q.1 < 0
  · exact hn
  · rw [if_neg hn] at c
    omega

/-- A parameter as it is written; a type as it is written. -/
def valW (v : List UInt8) : List UInt8 := if tokL v then v else serL v

def parW (p : List UInt8 × List UInt8) : List UInt8 := 59 :: p.1 ++ 61 :: valW p.2

def mimeW (m : MimeL) : List UInt8 := m.t ++ 47 :: m.s ++ m.ps.flatMap parW

def nsemi (b : UInt8) : Bool := b != 59
def nslash (b : UInt8) : Bool := b != 47
def nname (b : UInt8) : Bool := b != 59 && b != 61

/-- A value, whether there is one, and what is behind. -/
def valL (r : List UInt8) : List UInt8 × Bool × List UInt8 :=
  if r.head? = some 34 then ((readL r.tail).1, true, (r.tail.drop (readL r.tail).2).dropWhile nsemi)
  else (trimEnd isWhite (r.takeWhile nsemi), !(trimEnd isWhite (r.takeWhile nsemi)).isEmpty, r.dropWhile nsemi)

/-- A parameter behind its semicolon. -/
def parmStep (r : List UInt8) : List UInt8 × List UInt8 × Bool × List UInt8 :=
  let r1 := r.dropWhile isWhite
  let n := lowerL (r1.takeWhile nname)
  let r2 := r1.dropWhile nname
  if r2.head? = some 61 then
    if r2.tail = [] then (n, [], false, [])
    else (n, (valL r2.tail).1, (valL r2.tail).2.1 && tokL n && quoL (valL r2.tail).1, (valL r2.tail).2.2)
  else (n, [], false, r2)

theorem dropWhile_len (p : UInt8 → Bool) (l : List UInt8) : (l.dropWhile p).length ≤ l.length := (List.dropWhile_sublist p).length_le

theorem valL_len (r : List UInt8) : (valL r).2.2.length ≤ r.length := by
  unfold valL
  split
  · have h1 := dropWhile_len nsemi (r.tail.drop (readL r.tail).2)
    simp only [List.length_drop, List.length_tail] at h1
    show ((r.tail.drop (readL r.tail).2).dropWhile nsemi).length ≤ r.length
    omega
  · exact dropWhile_len nsemi r

theorem parmStep_len (r : List UInt8) : (parmStep r).2.2.2.length ≤ r.length := by
  have h1 := dropWhile_len isWhite r
  have h2 := dropWhile_len nname (r.dropWhile isWhite)
  unfold parmStep
  dsimp only
  split
  · split
    · simp
    · have := valL_len ((r.dropWhile isWhite).dropWhile nname).tail
      rw [List.length_tail] at this
      show (valL ((r.dropWhile isWhite).dropWhile nname).tail).2.2.length ≤ r.length
      omega
  · show ((r.dropWhile isWhite).dropWhile nname).length ≤ r.length
    omega

def addP (ps : Pars) (q : List UInt8 × List UInt8 × Bool × List UInt8) : Pars := if q.2.2.1 && decide (atL ps q.1 < 0) then ps ++ [(q.1, q.2.1)] else ps

/-- All parameters. -/
def parsL (ps : Pars) (l : List UInt8) : Pars :=
  match l with
  | [] => ps
  | b :: r => if b = 59 then parsL (addP ps (parmStep r)) (parmStep r).2.2.2 else ps
termination_by l.length
decreasing_by have := parmStep_len r; simp; omega

theorem parsL_semi (ps : Pars) (r : List UInt8) : parsL ps (59 :: r) = parsL (addP ps (parmStep r)) (parmStep r).2.2.2 := by
  rw [parsL, if_pos rfl]

theorem parsL_nil (ps : Pars) : parsL ps [] = ps := by rw [parsL]

theorem parsL_other (ps : Pars) (b : UInt8) (r : List UInt8) (h : b ≠ 59) : parsL ps (b :: r) = ps := by rw [parsL, if_neg h]

/-- The type of a text. -/
def parseL (l0 : List UInt8) : Option MimeL :=
  let l := trimL isWhite l0
  let t := l.takeWhile nslash
  let r := (l.dropWhile nslash).tail
  let s := trimEnd isWhite (r.takeWhile nsemi)
  if l.dropWhile nslash = [] ∨ tokL t = false ∨ tokL s = false then none
  else some ⟨lowerL t, lowerL s, parsL [] (r.dropWhile nsemi)⟩

theorem tok_low (b : UInt8) : isToken (lowOf b) = isToken b :=
  all_u8 (p := fun b => isToken (lowOf b) = isToken b) (by decide +kernel) b

theorem tokL_lower (l : List UInt8) : tokL (lowerL l) = tokL l := by
  unfold tokL lowerL
  rw [List.isEmpty_map, List.all_map]
  congr 1
  apply List.all_congr rfl
  intro b
  exact tok_low b

theorem smallL_lower (l : List UInt8) (h : tokL l = true) : smallL (lowerL l) = true := by
  unfold smallL
  rw [tokL_lower, h, lowerL_idem]
  simp

theorem tok_not (b : UInt8) : isToken b = true → isWhite b = false ∧ b ≠ 59 ∧ b ≠ 47 ∧ b ≠ 61 ∧ b ≠ 34 :=
  all_u8 (p := fun b => isToken b = true → isWhite b = false ∧ b ≠ 59 ∧ b ≠ 47 ∧ b ≠ 61 ∧ b ≠ 34) (by decide +kernel) b

theorem tokL_mem {l : List UInt8} (h : tokL l = true) : l ≠ [] ∧ ∀ b ∈ l, isToken b = true := by
  unfold tokL at h
  rw [Bool.and_eq_true, List.all_eq_true] at h
  refine ⟨?_, h.2⟩
  rintro rfl
  simp at h

theorem addP_good (ps : Pars) (r : List UInt8) (h : goodP ps = true) : goodP (addP ps (parmStep r)) = true := by
  unfold addP
  split
  · rename_i hc
    rw [Bool.and_eq_true, decide_eq_true_eq] at hc
    obtain ⟨hc1, hc2⟩ := hc
    unfold parmStep at hc1 hc2 ⊢
    dsimp only at hc1 hc2 ⊢
    split at hc1
    · rename_i e1
      split at hc1
      · simp at hc1
      · rename_i e2
        rw [if_pos e1, if_neg e2] at hc2 ⊢
        simp only [Bool.and_eq_true] at hc1
        refine goodP_snoc ps _ _ h ?_ hc1.2 hc2
        have ht := hc1.1.2
        unfold smallL
        rw [ht, lowerL_idem]
        simp
    · simp at hc1
  · exact h

theorem parsL_good (ps : Pars) (l : List UInt8) (h : goodP ps = true) : goodP (parsL ps l) = true := by
  induction hn : l.length using Nat.strongRecOn generalizing l ps with
  | _ n ih =>
    match l with
    | [] => rw [parsL_nil]; exact h
    | b :: r =>
      by_cases hb : b = 59
      · subst hb
        rw [parsL_semi]
        have := parmStep_len r
        exact ih _ (by simp at hn; omega) _ _ (addP_good ps r h) rfl
      · rw [parsL_other _ _ _ hb]; exact h

theorem parse_good {l : List UInt8} {m : MimeL} (h : parseL l = some m) : goodL m = true := by
  unfold parseL at h
  dsimp only at h
  split at h
  · cases h
  · rename_i hc
    injection h with h
    subst h
    simp only [not_or, Bool.not_eq_false] at hc
    unfold goodL
    rw [parsL_good _ _ goodP_nil, smallL_lower _ hc.2.1, smallL_lower _ hc.2.2]
    rfl

theorem takeWhile_stop (p : UInt8 → Bool) (a r : List UInt8) (h : ∀ b ∈ a, p b = true) (hr : r = [] ∨ ∃ b t, r = b :: t ∧ p b = false) : (a ++ r).takeWhile p = a ∧ (a ++ r).dropWhile p = r := by
  induction a with
  | nil =>
    rcases hr with rfl | ⟨b, t, rfl, hb⟩
    · simp
    · simp [hb]
  | cons x a ih =>
    have := ih (fun b hb => h b (by simp [hb]))
    have hx := h x (by simp)
    simp [hx, this.1, this.2]

theorem dropWhile_none (p : UInt8 → Bool) (l : List UInt8) (h : l = [] ∨ ∃ b t, l = b :: t ∧ p b = false) : l.dropWhile p = l := by
  rcases h with rfl | ⟨b, t, rfl, hb⟩
  · rfl
  · simp [hb]

theorem trimEnd_none (p : UInt8 → Bool) (l : List UInt8) (h : ∀ b ∈ l, p b = false) : trimEnd p l = l := by
  rcases List.eq_nil_or_concat l with rfl | ⟨a, y, rfl⟩
  · rfl
  · rw [List.concat_eq_append] at h ⊢
    rw [trimEnd_snoc, if_neg (by rw [h y (by simp)]; simp)]

/-- Parameters as they are written: nothing, or a semicolon first. -/
theorem parsW_head (qs : Pars) : qs.flatMap parW = [] ∨ ∃ t, qs.flatMap parW = 59 :: t := by
  cases qs with
  | nil => exact .inl rfl
  | cons q r => exact .inr ⟨_, by simp [parW]; rfl⟩

theorem valL_back (v rest : List UInt8) (hr : rest = [] ∨ ∃ t, rest = 59 :: t) : valL (valW v ++ rest) = (v, true, rest) := by
  have hrs : rest.dropWhile nsemi = rest := dropWhile_none _ _ (by
    rcases hr with h | ⟨t, h⟩
    · exact .inl h
    · exact .inr ⟨59, t, h, rfl⟩)
  unfold valW
  by_cases ht : tokL v = true
  · rw [if_pos ht]
    obtain ⟨h0, h1⟩ := tokL_mem ht
    obtain ⟨x, u, rfl⟩ := List.exists_cons_of_ne_nil h0
    have hx := tok_not x (h1 x (by simp))
    have hs := takeWhile_stop nsemi (x :: u) rest (fun b hb => by
      have := (tok_not b (h1 b hb)).2.1
      simp [nsemi, this]) (by
      rcases hr with h | ⟨t, h⟩
      · exact .inl h
      · exact .inr ⟨59, t, h, rfl⟩)
    unfold valL
    rw [if_neg (by simp [hx.2.2.2.2]), hs.1, hs.2, trimEnd_none _ _ (fun b hb => (tok_not b (h1 b hb)).1)]
    simp
  · rw [if_neg ht]
    unfold serL
    have e : 34 :: escL v ++ [34] ++ rest = 34 :: (escL v ++ 34 :: rest) := by simp
    rw [e]
    unfold valL
    rw [if_pos (show (34 :: (escL v ++ 34 :: rest)).head? = some 34 from rfl)]
    simp only [List.tail_cons]
    rw [readL_esc]
    dsimp only
    have e2 : (escL v ++ 34 :: rest).drop ((escL v).length + 1) = rest := by
      rw [← List.drop_drop, List.drop_left]
      rfl
    rw [e2, hrs]

theorem valW_ne (v rest : List UInt8) : valW v ++ rest ≠ [] := by
  unfold valW
  split
  · rename_i h
    have := (tokL_mem h).1
    simp [this]
  · simp [serL]

theorem parmStep_back (q : List UInt8 × List UInt8) (rest : List UInt8) (h1 : smallL q.1 = true) (h2 : quoL q.2 = true) (hr : rest = [] ∨ ∃ t, rest = 59 :: t) :
    parmStep (q.1 ++ 61 :: valW q.2 ++ rest) = (q.1, q.2, true, rest) := by
  unfold smallL at h1
  rw [Bool.and_eq_true, beq_iff_eq] at h1
  obtain ⟨ht, hl⟩ := h1
  obtain ⟨h0, hm⟩ := tokL_mem ht
  have e0 : q.1 ++ 61 :: valW q.2 ++ rest = q.1 ++ 61 :: (valW q.2 ++ rest) := by simp
  have e1 : (q.1 ++ 61 :: (valW q.2 ++ rest)).dropWhile isWhite = q.1 ++ 61 :: (valW q.2 ++ rest) := by
    obtain ⟨x, u, hx⟩ := List.exists_cons_of_ne_nil h0
    rw [hx]
    exact dropWhile_none _ _ (.inr ⟨x, _, rfl, (tok_not x (hm x (by rw [hx]; simp))).1⟩)
  obtain ⟨e2, e3⟩ := takeWhile_stop nname q.1 (61 :: (valW q.2 ++ rest)) (fun b hb => by
    have := tok_not b (hm b hb)
    simp [nname, this.2.1, this.2.2.2.1]) (.inr ⟨61, _, rfl, rfl⟩)
  unfold parmStep
  dsimp only
  rw [e0, e1, e2, e3, if_pos (show (61 :: (valW q.2 ++ rest)).head? = some 61 from rfl)]
  rw [if_neg (show ¬ (61 :: (valW q.2 ++ rest)).tail = [] from valW_ne _ _)]
  simp only [List.tail_cons]
  rw [valL_back _ _ hr, hl, ht, h2]
  rfl

theorem parsL_back (acc qs : Pars) (h : goodP (acc ++ qs) = true) : parsL acc (qs.flatMap parW) = acc ++ qs := by
  induction qs generalizing acc with
  | nil => simp [parsL_nil]
  | cons q r ih =>
    obtain ⟨h1, h2, h3⟩ := goodP_new h
    have e : (q :: r).flatMap parW = 59 :: (q.1 ++ 61 :: valW q.2 ++ r.flatMap parW) := by simp [parW]
    rw [e, parsL_semi, parmStep_back q _ h1 h2 (parsW_head r)]
    have ea : addP acc (q.1, q.2, true, r.flatMap parW) = acc ++ [q] := by
      unfold addP
      simp [h3]
    rw [ea, ih _ (by simpa using h)]
    simp

theorem last_parsW (qs : Pars) (a : List UInt8) (ha : ∃ u y, a = u ++ [y] ∧ isWhite y = false) : ∃ u y, a ++ qs.flatMap parW = u ++ [y] ∧ isWhite y = false := by
  induction qs generalizing a with
  | nil => simpa using ha
  | cons q r ih =>
    have e : a ++ (q :: r).flatMap parW = (a ++ parW q) ++ r.flatMap parW := by simp
    rw [e]
    apply ih
    unfold parW valW
    split
    · rename_i h
      obtain ⟨h0, hm⟩ := tokL_mem h
      rcases List.eq_nil_or_concat q.2 with e | ⟨u, y, e⟩
      · exact absurd e h0
      · rw [List.concat_eq_append] at e
        refine ⟨a ++ (59 :: q.1 ++ 61 :: u), y, by rw [e]; simp, (tok_not y (hm y (by rw [e]; simp))).1⟩
    · exact ⟨a ++ (59 :: q.1 ++ 61 :: (34 :: escL q.2)), 34, by simp [serL], rfl⟩

/-- A good type comes back from what it is written as. -/
theorem parse_back (m : MimeL) (h : goodL m = true) : parseL (mimeW m) = some m := by
  unfold goodL at h
  rw [Bool.and_eq_true, Bool.and_eq_true] at h
  obtain ⟨⟨hp, ht⟩, hs⟩ := h
  unfold smallL at ht hs
  rw [Bool.and_eq_true, beq_iff_eq] at ht hs
  obtain ⟨t0, tm⟩ := tokL_mem ht.1
  obtain ⟨s0, sm⟩ := tokL_mem hs.1
  have e0 : mimeW m = m.t ++ 47 :: (m.s ++ m.ps.flatMap parW) := by simp [mimeW]
  have e1 : trimL isWhite (mimeW m) = mimeW m := by
    unfold trimL
    have d : (mimeW m).dropWhile isWhite = mimeW m := by
      obtain ⟨x, u, hx⟩ := List.exists_cons_of_ne_nil t0
      rw [e0, hx]
      exact dropWhile_none _ _ (.inr ⟨x, _, rfl, (tok_not x (tm x (by rw [hx]; simp))).1⟩)
    rw [d]
    obtain ⟨u, y, hu, hy⟩ := last_parsW m.ps (m.t ++ 47 :: m.s) (by
      rcases List.eq_nil_or_concat m.s with e | ⟨u, y, e⟩
      · exact absurd e s0
      · rw [List.concat_eq_append] at e
        exact ⟨m.t ++ 47 :: u, y, by rw [e]; simp, (tok_not y (sm y (by rw [e]; simp))).1⟩)
    have e2 : mimeW m = u ++ [y] := hu
    rw [e2, trimEnd_snoc, if_neg (by rw [hy]; simp)]
  obtain ⟨a1, a2⟩ := takeWhile_stop nslash m.t (47 :: (m.s ++ m.ps.flatMap parW)) (fun b hb => by
    have := tok_not b (tm b hb)
    simp [nslash, this.2.2.1]) (.inr ⟨47, _, rfl, rfl⟩)
  obtain ⟨b1, b2⟩ := takeWhile_stop nsemi m.s (m.ps.flatMap parW) (fun b hb => by
    have := tok_not b (sm b hb)
    simp [nsemi, this.2.1]) (by
    rcases parsW_head m.ps with h | ⟨t, h⟩
    · exact .inl h
    · exact .inr ⟨59, t, h, rfl⟩)
  unfold parseL
  dsimp only
  rw [e1, e0, a1, a2]
  have c1 := trimEnd_none isWhite m.s (fun b hb => (tok_not b (sm b hb)).1)
  have c2 := parsL_back [] m.ps (by simpa using hp)
  simp only [List.tail_cons, b1, b2, c1, c2, ht.1, hs.1, ht.2, hs.2]
  simp

end Go.Proofs.YtcbhkcdphbffpaaGreatDoor

namespace Go.Proofs.YtcbhkcdphbffpaaGreatDoor
open Go.RowKit
set_option linter.unusedSimpArgs false
set_option linter.unusedVariables false

theorem infoU8 : (Tryz.prog.info? 5).map (fun i => (i.zero, i.size, i.bytes)) = some (some (.int .u8 0), 1, 1) := by kernel_rfl

/-- The first k bytes of a text, made small, as values. -/
def lowVals (s : ByteArray) (k : Nat) : List Value := ((lowerL s.data.toList).take k).map fun b => Value.int .u8 (b.toNat : Int)

theorem lowVals_step (s : ByteArray) (k : Nat) (hk : k < s.size) (x : Int) (hx : x = ((lowOf s[k]).toNat : Int)) : lowVals s (k + 1) = lowVals s k ++ [.int .u8 x] := by
  unfold lowVals
  rw [List.take_succ_eq_append_getElem (by rw [lowerL_length]; exact hk), List.map_append, lowerL_at s k hk, hx]
  rfl

theorem ownsBytes_back {P : Program} {w : World} {base : Nat} {e : TypeId} {v : Value} {n : Nat} {s : ByteArray} (h : w.ownsRow base e 1 v n (lowVals s n)) (hn : n = s.size) (hv : v ≠ .slice none 0 0) (src dst : TypeId)
    (hs : P.underlying src = some (.slice e)) (he : P.underlying e = some (.int .u8)) (hd : P.underlying dst = some .string) :
    (convert src dst v).run P w = .ok (.string (lowerB s)) w := by
  subst hn
  obtain ⟨hl, h2⟩ := h
  rcases h2 with ⟨h2, _⟩ | ⟨g, cap, cur, rfl, hg, hh, hc1, hc2, hc3, hc4⟩
  · exact absurd h2 hv
  · have hlen : s.size = (lowerL s.data.toList).length := by rw [lowerL_length]
    have := run_convert_bytes_back (P := P) w src dst e ⟨g, 0, none⟩ cap (lowerL s.data.toList) hs he hd (by
      intro j hj
      have hw : w.ownsRow base e 1 (.slice (some ⟨g, 0, none⟩) s.size cap) s.size (lowVals s s.size) := ⟨hl, .inr ⟨g, cap, cur, rfl, hg, hh, hc1, hc2, hc3, hc4⟩⟩
      have hc := hw.cellAt j (by rw [Nat.mul_one, hlen]; exact hj)
      rw [show (⟨g, 0, none⟩ : Addr).add j = ⟨g, j, none⟩ from by rw [Addr.add_lit, Nat.zero_add], hc]
      unfold lowVals
      rw [List.take_of_length_le (by omega), List.getElem?_map, List.getElem?_eq_getElem hj]
      rfl)
    rw [← hlen] at this
    exact this

set_option maxHeartbeats 1000000 in
set_option maxRecDepth 20000 in
theorem rLower_any (s : ByteArray) (w : World) (hs : s.size ≤ maxLen) (hreach : s.size ≤ 140737488355328) :
    Calls Tryz.prog 66 #[.string s] w fun e w' => e = .returned (.string (lowerB s)) ∧ Below w.heap.size w w' := by
  unfold maxLen at hs
  have HR := Lib.hid hreach; clear hreach
  obtain ⟨i0, hi, hz0, hz1, hz2⟩ := info_parts infoU8
  have HI := Lib.hid hi; have HZ0 := Lib.hid hz0; have HZ1 := Lib.hid hz1; have HZ2 := Lib.hid hz2
  clear hi hz0 hz1 hz2
  go_enter Tryz.func66, Tryz.ntmps66
  go_wp2
  go_loopw [3, 4, 5] (fun v i b wr => ∃ k : Nat, k ≤ s.size ∧ i = .int .i64 k ∧ wr.ownsRow w.heap.size 5 1 v k (lowVals s k) ∧ v ≠ .slice none 0 0 ∧ Below w.heap.size w wr) (fun _ i _ _ => s.size - (intOf i).toNat)
  case atStart => exact ⟨0, Nat.zero_le _, rfl, by simpa [lowVals] using World.ownsRow_lit (base := w.heap.size) (e := 5) (size := 1) w #[] 0 (Nat.le_refl _) (Nat.zero_le _) rfl, by simp, (Below.refl _ _).alloc (Nat.le_refl _) _⟩
  case round =>
    obtain ⟨k, hk, rfl, hown, hv, hb⟩ := hrel
    have HO := Lib.hid hown; have HV := Lib.hid hv; have HB := Lib.hid hb
    clear hown hv hb
    by_cases hlt : k < s.size
    · have HST := Lib.hid (lowVals_step s k hlt)
      have hidx := index_byte (P := Tryz.prog) 9 Tryz.underlying9 s k hlt
      generalize hx : s[k] = x at *
      have HX := Lib.hid hx; clear hx
      have hxb := bytes_small x
      go_wp2_with (at_builtin; refine wpList_append_own _ rfl _ _ 98 rfl w.heap.size 5 i0 (.int .u8 0) 1 1 Tryz.underlying98 HI.out HZ0.out HZ1.out HZ2.out rfl (by decide) _ _ _ rfl (HO.out.alloc _) ⟨wr.heap.size, 0, none⟩ 1 1 [.int .u8 _] rfl rfl (cell_one_new _ _ _) (by intro u hu; simp at hu; subst hu; rfl) (by unfold maxLen; omega) (by have := HR.out; omega) (by simp; exact Nat.le_succ_of_le HB.out.size) ?_)
      all_goals
        intro v' w1 hown' hg hne
        have HO2 := Lib.hid (show w1.ownsRow w.heap.size 5 1 v' (k + 1) (lowVals s (k + 1)) by first | (rw [HST.out ((x.toNat : Int) + 32) (by rw [lowOf_toNat x]; split <;> omega)]; exact hown') | (rw [HST.out (x.toNat : Int) (by rw [lowOf_toNat x]; split <;> omega)]; exact hown'))
        have HB2 := Lib.hid ((HB.out.alloc HB.out.size _).grown hg (by simp; exact Nat.le_succ_of_le HB.out.size) (fun g e => (HO.out.lt g e).1))
        have HN2 := Lib.hid hne
        clear hown' hg hne
        go_wp2
        go_roundw
        case rel => exact ⟨k + 1, by omega, by go_num, HO2.out, HN2.out, HB2.out⟩
        case measure => simp [intOf]; omega
    · obtain rfl : k = s.size := by omega
      have hback := ownsBytes_back (P := Tryz.prog) HO.out rfl HV.out 98 9 Tryz.underlying98 Tryz.underlying5 Tryz.underlying9
      go_wp2
      go_ret
      exact ⟨rfl, HB.out⟩

end Go.Proofs.YtcbhkcdphbffpaaGreatDoor
