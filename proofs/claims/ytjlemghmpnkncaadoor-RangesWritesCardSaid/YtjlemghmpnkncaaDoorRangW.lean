/-
  Walks of package ranges and its reference: the texts of a range and of a part.
-/
import Derived.Test.YtjlemghmpnkncaaDoorRangWP
import Derived.Test.YtjlemghmpnkncaaDoorRangG
import Derived.Test.YtjlemghmpnkncaaDoorRangT
import Derived.Test.YtjlemghmpnkncaaDoorDecimalT
import Derived.Test.YtjlemghmpnkncaaDoorQuietIn
namespace Go.Proofs.YtjlemghmpnkncaaDoor
open Go.RowKit
set_option linter.unusedSimpArgs false
set_option linter.unusedVariables false

/-- The library's table of powers of ten. -/
def Pow (w : World) : Prop := Lib.TabIs Tryd.prog w "internal/strconv.uint64pow10" .u64 Lib.pow10Tab

theorem itoa_word {n : Int} (h : inB n = true) (hn : n ≠ -1) : txt (Lib.itoa n) = txt (wordL n) := by
  have h2 := inB_on h
  rcases itoa_cases n (by omega) (by omega) with ⟨_, e⟩ | ⟨e, _⟩
  · rw [e]
    unfold wordL
    rw [if_neg hn]
  · omega

theorem word_any (n : Int) (w : World) (h : inB n = true) (hT : Pow w) :
    Calls Tryd.prog 47 #[.int .i64 n] w fun e w' => e = .returned (.string (txt (wordL n))) ∧ Below w.heap.size w w' := by
  have h2 := inB_on h
  by_cases hn : n = -1
  · subst hn
    rw [word_none]
    clear h hT
    go_enter Tryd.func47, Tryd.ntmps47
    go_wp2_with fail
    go_ret
    exact ⟨rfl, Below.refl _ _⟩
  · have HX := Lib.hid (Text_any n w (by omega) (by omega) hT)
    rw [itoa_word h hn] at HX
    generalize txt (wordL n) = T at *
    have hn2 : (n == -1) = false := beq_eq_false_iff_ne.2 hn
    clear h hT
    go_enter Tryd.func47, Tryd.ntmps47
    go_wp2_with (go_at_call 37; refine HX.out.mono ?_; rintro e w' ⟨rfl, hb⟩)
    go_ret
    exact ⟨rfl, hb⟩

theorem rword_any (n : Int) (w : World) (h : inB n = true) :
    Calls Tryd.prog 49 #[.int .i64 n] w fun e w' => e = .returned (.string (txt (wordL n))) ∧ w = w' := by
  have h2 := inB_on h
  by_cases hn : n = -1
  · subst hn
    rw [word_none]
    clear h
    go_enter Tryd.func49, Tryd.ntmps49
    go_wp2_with fail
    go_ret
    exact ⟨rfl, rfl⟩
  · have HX := Lib.hid (rText_any n w (by omega) (by omega))
    rw [itoa_word h hn] at HX
    generalize txt (wordL n) = T at *
    have hn2 : ¬ (n < 0) := by omega
    clear h
    go_enter Tryd.func49, Tryd.ntmps49
    go_wp2_with (go_at_call 45; refine HX.out.mono ?_; rintro e w' ⟨rfl, rfl⟩)
    go_ret
    exact ⟨rfl, rfl⟩

theorem in_any (n : Int) (w : World) : Calls Tryd.prog 46 #[.int .i64 n] w fun e w' => e = .returned (.bool (inB n)) ∧ w = w' := by
  unfold inB
  go_enter Tryd.func46, Tryd.ntmps46
  by_cases h : -1 ≤ n
  · go_wp2_with fail
    go_ret
    exact ⟨ret_bool (by simp [h]), rfl⟩
  · go_wp2_with fail
    go_ret
    exact ⟨ret_bool (by simp; omega), rfl⟩

theorem rin_any (n : Int) (w : World) : Calls Tryd.prog 48 #[.int .i64 n] w fun e w' => e = .returned (.bool (inB n)) ∧ w = w' := by
  unfold inB
  go_enter Tryd.func48, Tryd.ntmps48
  by_cases h : -1 ≤ n
  · go_wp2_with fail
    go_ret
    exact ⟨ret_bool (by simp [h]), rfl⟩
  · go_wp2_with fail
    go_ret
    exact ⟨ret_bool (by simp; omega), rfl⟩

theorem text_eq (f t : Int) : (⟨#[98, 121, 116, 101, 115, 61]⟩ : ByteArray) ++ txt (wordL f) ++ ⟨#[45]⟩ ++ txt (wordL t) = txt (textL f t) := by
  show txt [98, 121, 116, 101, 115, 61] ++ txt (wordL f) ++ txt [45] ++ txt (wordL t) = _
  rw [txt_app, txt_app, txt_app]
  unfold textL bytesL
  simp

theorem word_size {n : Int} (h : inB n = true) : (txt (wordL n)).size ≤ 20 := by rw [txt_size]; exact word_len h

/-- A range's text, or why it has none. -/
def textV (f t : Int) : Value :=
  if inB f = false ∨ inB t = false ∨ (f = -1 ∧ t = -1) then .tuple #[.string ⟨#[]⟩, .int .i64 2]
  else if t ≠ -1 ∧ t < f then .tuple #[.string ⟨#[]⟩, .int .i64 9]
  else .tuple #[.string (txt (textL f t)), .int .i64 0]

theorem textV_ok {f t : Int} (hf : inB f = true) (ht : inB t = true) (h : ¬ (f = -1 ∧ t = -1)) (h2 : ¬ (t ≠ -1 ∧ t < f)) : textV f t = .tuple #[.string (txt (textL f t)), .int .i64 0] := by
  unfold textV
  rw [if_neg (by rw [hf, ht]; simpa using h), if_neg h2]

theorem textV_far {f t : Int} (hf : inB f = true) (ht : inB t = true) (h : ¬ (f = -1 ∧ t = -1)) (h2 : t ≠ -1 ∧ t < f) : textV f t = .tuple #[.string ⟨#[]⟩, .int .i64 9] := by
  unfold textV
  rw [if_neg (by rw [hf, ht]; simpa using h), if_pos h2]

theorem textV_off {f t : Int} (h : inB f = false ∨ inB t = false ∨ (f = -1 ∧ t = -1)) : textV f t = .tuple #[.string ⟨#[]⟩, .int .i64 2] := by
  unfold textV
  rw [if_pos h]

set_option maxRecDepth 20000 in
set_option maxHeartbeats 1000000 in
theorem RText_any (f t : Int) (w : World) (hT : ∀ w', Below w.heap.size w w' → Pow w') :
    Calls Tryd.prog 23 #[.agg #[.int .i64 f, .int .i64 t]] w fun e w' => e = .returned (textV f t) ∧ Below w.heap.size w w' := by
  have HF := Lib.hid (fun w => in_any f w)
  have HG := Lib.hid (fun w => in_any t w)
  cases hf : inB f
  · rw [textV_off (.inl hf)]
    rw [hf] at HF
    clear hT
    go_enter Tryd.func23, Tryd.ntmps23
    go_wp2_with (go_at_call 46; first | (with_reducible refine Calls.mono (HF.out _) ?_; rintro e w' ⟨rfl, rfl⟩) | (with_reducible refine Calls.mono (HG.out _) ?_; rintro e w' ⟨rfl, rfl⟩))
    go_ret2
    exact ⟨rfl, below_box _ _⟩
  cases ht : inB t
  · rw [textV_off (.inr (.inl ht))]
    rw [hf] at HF
    rw [ht] at HG
    clear hT
    go_enter Tryd.func23, Tryd.ntmps23
    go_wp2_with (go_at_call 46; first | (with_reducible refine Calls.mono (HF.out _) ?_; rintro e w' ⟨rfl, rfl⟩) | (with_reducible refine Calls.mono (HG.out _) ?_; rintro e w' ⟨rfl, rfl⟩))
    go_ret2
    exact ⟨rfl, below_box _ _⟩
  have bf := inB_on hf
  have bt2 := inB_on ht
  rw [hf] at HF
  rw [ht] at HG
  by_cases h0 : f = -1 ∧ t = -1
  · rw [textV_off (.inr (.inr h0))]
    obtain ⟨rfl, rfl⟩ := h0
    clear hT hf ht
    go_enter Tryd.func23, Tryd.ntmps23
    go_wp2_with (go_at_call 46; first | (with_reducible refine Calls.mono (HF.out _) ?_; rintro e w' ⟨rfl, rfl⟩) | (with_reducible refine Calls.mono (HG.out _) ?_; rintro e w' ⟨rfl, rfl⟩))
    go_ret2
    exact ⟨rfl, below_box _ _⟩
  by_cases h2 : t ≠ -1 ∧ t < f
  · rw [textV_far hf ht h0 h2]
    have hn1 : (f == -1) = false := beq_eq_false_iff_ne.2 (by omega)
    have hn2 : (t == -1) = false := beq_eq_false_iff_ne.2 h2.1
    have hlt := h2.2
    have hn3 : (t != -1) = true := by rw [bne, hn2]; rfl
    have hlt2 : decide (t < f) = true := decide_eq_true hlt
    clear hT h2 h0 hf ht
    go_enter Tryd.func23, Tryd.ntmps23
    go_wp2_with (go_at_call 46; first | (with_reducible refine Calls.mono (HF.out _) ?_; rintro e w' ⟨rfl, rfl⟩) | (with_reducible refine Calls.mono (HG.out _) ?_; rintro e w' ⟨rfl, rfl⟩))
    go_ret2
    exact ⟨rfl, below_box _ _⟩
  rw [textV_ok hf ht h0 h2]
  have s1 := word_size hf
  have s2 := word_size ht
  have HE := Lib.hid (text_eq f t)
  have W1 := Lib.hid (fun w1 (hb : Below w.heap.size w w1) => word_any f w1 hf (hT w1 hb))
  have W2 := Lib.hid (fun w1 (hb : Below w.heap.size w w1) => word_any t w1 ht (hT w1 hb))
  generalize txt (wordL f) = A at *
  generalize txt (wordL t) = B at *
  generalize txt (textL f t) = R at *
  have HBW : Hid (Below w.heap.size w (w.alloc (.cells #[.int .i64 f, .int .i64 t] 35))) := Lib.hid (below_box w _)
  have hx0 : (w.alloc (.cells #[.int .i64 f, .int .i64 t] 35)).heap[w.heap.size]? = some (.cells #[.int .i64 f, .int .i64 t] 35 (0, 0)) := heap_alloc_new w _
  have hzb : w.heap.size < (w.alloc (.cells #[.int .i64 f, .int .i64 t] 35)).heap.size := (Array.getElem?_eq_some_iff.1 hx0).1
  have hn1 : f ≠ -1 → (f == -1) = false := fun h => beq_eq_false_iff_ne.2 h
  have hn2 : t ≠ -1 → (t == -1) = false := fun h => beq_eq_false_iff_ne.2 h
  clear hT hf ht
  by_cases hf1 : f = -1
  · have ht1 : t ≠ -1 := fun h => h0 ⟨hf1, h⟩
    have ht2 := hn2 ht1
    have hlt : ¬ (t < f) := fun h => h2 ⟨ht1, h⟩
    subst hf1
    clear hn1 hn2 h0 h2
    go_enter Tryd.func23, Tryd.ntmps23
    go_upto_region 5 with (go_at_call 46; first | (with_reducible refine Calls.mono (HF.out _) ?_; rintro e w' ⟨rfl, rfl⟩) | (with_reducible refine Calls.mono (HG.out _) ?_; rintro e w' ⟨rfl, rfl⟩))
    generalize w.alloc (.cells #[.int .i64 (-1), .int .i64 t] 35) = W at *
    have x0 := (Lib.cell_of_heap hx0 (j := 0))
    have x1 := (Lib.cell_of_heap hx0 (j := 1))
    simp at x0 x1
    have U1 := Lib.hid (fun (x : InB W) => W1.out x.val (HBW.out.trans (x.property.mono HBW.out.size)))
    have U2 := Lib.hid (fun (x : InB W) => W2.out x.val (HBW.out.trans (x.property.mono HBW.out.size)))
    clear W1 W2 HF HG hx0
    have hx := @InB.cells W
    refine wp_region_inb (by kernel_rfl) (by kernel_rfl) ?_; (repeat (first | go_big_quiet_skip | (go_big_quiet_want; go_big_quiet_op; first | go_big_quiet_on | (apply Exists.intro; refine ⟨fun x => ?_, ?_⟩; (· ((first | (go_at_call 47; with_reducible exact inb_call _ (U1.out _)) | (go_at_call 47; with_reducible exact inb_call _ (U2.out _))))); go_big_quiet_on)))); refine wpQuiet_nil ?_; intro _ hw'; obtain ⟨⟨wq, hbq⟩, rfl⟩ := hw'
    go_wp2_with fail
    go_ret2
    exact ⟨by rw [HE.out]; rfl, HBW.out.trans (hbq.mono HBW.out.size)⟩
  · have hf2 := hn1 hf1
    by_cases ht1 : t = -1
    · subst ht1
      clear hn1 hn2 h0 h2
      go_enter Tryd.func23, Tryd.ntmps23
      go_upto_region 5 with (go_at_call 46; first | (with_reducible refine Calls.mono (HF.out _) ?_; rintro e w' ⟨rfl, rfl⟩) | (with_reducible refine Calls.mono (HG.out _) ?_; rintro e w' ⟨rfl, rfl⟩))
      generalize w.alloc (.cells #[.int .i64 f, .int .i64 (-1)] 35) = W at *
      have x0 := (Lib.cell_of_heap hx0 (j := 0))
      have x1 := (Lib.cell_of_heap hx0 (j := 1))
      simp at x0 x1
      have U1 := Lib.hid (fun (x : InB W) => W1.out x.val (HBW.out.trans (x.property.mono HBW.out.size)))
      have U2 := Lib.hid (fun (x : InB W) => W2.out x.val (HBW.out.trans (x.property.mono HBW.out.size)))
      clear W1 W2 HF HG hx0
      have hx := @InB.cells W
      refine wp_region_inb (by kernel_rfl) (by kernel_rfl) ?_; (repeat (first | go_big_quiet_skip | (go_big_quiet_want; go_big_quiet_op; first | go_big_quiet_on | (apply Exists.intro; refine ⟨fun x => ?_, ?_⟩; (· ((first | (go_at_call 47; with_reducible exact inb_call _ (U1.out _)) | (go_at_call 47; with_reducible exact inb_call _ (U2.out _))))); go_big_quiet_on)))); refine wpQuiet_nil ?_; intro _ hw'; obtain ⟨⟨wq, hbq⟩, rfl⟩ := hw'
      go_wp2_with fail
      go_ret2
      exact ⟨by rw [HE.out]; rfl, HBW.out.trans (hbq.mono HBW.out.size)⟩
    · have ht2 := hn2 ht1
      have hlt : ¬ (t < f) := fun h => h2 ⟨ht1, h⟩
      clear hn1 hn2 h0 h2
      go_enter Tryd.func23, Tryd.ntmps23
      go_upto_region 5 with (go_at_call 46; first | (with_reducible refine Calls.mono (HF.out _) ?_; rintro e w' ⟨rfl, rfl⟩) | (with_reducible refine Calls.mono (HG.out _) ?_; rintro e w' ⟨rfl, rfl⟩))
      generalize w.alloc (.cells #[.int .i64 f, .int .i64 t] 35) = W at *
      have x0 := (Lib.cell_of_heap hx0 (j := 0))
      have x1 := (Lib.cell_of_heap hx0 (j := 1))
      simp at x0 x1
      have U1 := Lib.hid (fun (x : InB W) => W1.out x.val (HBW.out.trans (x.property.mono HBW.out.size)))
      have U2 := Lib.hid (fun (x : InB W) => W2.out x.val (HBW.out.trans (x.property.mono HBW.out.size)))
      clear W1 W2 HF HG hx0
      have hx := @InB.cells W
      refine wp_region_inb (by kernel_rfl) (by kernel_rfl) ?_; (repeat (first | go_big_quiet_skip | (go_big_quiet_want; go_big_quiet_op; first | go_big_quiet_on | (apply Exists.intro; refine ⟨fun x => ?_, ?_⟩; (· ((first | (go_at_call 47; with_reducible exact inb_call _ (U1.out _)) | (go_at_call 47; with_reducible exact inb_call _ (U2.out _))))); go_big_quiet_on)))); refine wpQuiet_nil ?_; intro _ hw'; obtain ⟨⟨wq, hbq⟩, rfl⟩ := hw'
      go_wp2_with fail
      go_ret2
      exact ⟨by rw [HE.out]; rfl, HBW.out.trans (hbq.mono HBW.out.size)⟩

set_option maxRecDepth 20000 in
set_option maxHeartbeats 1000000 in
theorem rRText_any (f t : Int) (w : World) :
    Calls Tryd.prog 24 #[.agg #[.int .i64 f, .int .i64 t]] w fun e w' => e = .returned (textV f t) ∧ Below w.heap.size w w' := by
  have HF := Lib.hid (fun w => rin_any f w)
  have HG := Lib.hid (fun w => rin_any t w)
  cases hf : inB f
  · rw [textV_off (.inl hf)]
    rw [hf] at HF
    go_enter Tryd.func24, Tryd.ntmps24
    go_wp2_with (go_at_call 48; first | (with_reducible refine Calls.mono (HF.out _) ?_; rintro e w' ⟨rfl, rfl⟩) | (with_reducible refine Calls.mono (HG.out _) ?_; rintro e w' ⟨rfl, rfl⟩))
    go_ret2
    exact ⟨rfl, below_box _ _⟩
  cases ht : inB t
  · rw [textV_off (.inr (.inl ht))]
    rw [hf] at HF
    rw [ht] at HG
    go_enter Tryd.func24, Tryd.ntmps24
    go_wp2_with (go_at_call 48; first | (with_reducible refine Calls.mono (HF.out _) ?_; rintro e w' ⟨rfl, rfl⟩) | (with_reducible refine Calls.mono (HG.out _) ?_; rintro e w' ⟨rfl, rfl⟩))
    go_ret2
    exact ⟨rfl, below_box _ _⟩
  have bf := inB_on hf
  have bt2 := inB_on ht
  rw [hf] at HF
  rw [ht] at HG
  by_cases h0 : f = -1 ∧ t = -1
  · rw [textV_off (.inr (.inr h0))]
    obtain ⟨rfl, rfl⟩ := h0
    clear hf ht
    go_enter Tryd.func24, Tryd.ntmps24
    go_wp2_with (go_at_call 48; first | (with_reducible refine Calls.mono (HF.out _) ?_; rintro e w' ⟨rfl, rfl⟩) | (with_reducible refine Calls.mono (HG.out _) ?_; rintro e w' ⟨rfl, rfl⟩))
    go_ret2
    exact ⟨rfl, below_box _ _⟩
  by_cases h2 : t ≠ -1 ∧ t < f
  · rw [textV_far hf ht h0 h2]
    have hn1 : ¬ (f < 0) := by omega
    have hn1d : decide (f < 0) = false := decide_eq_false hn1
    have hn3 : 0 ≤ t := by omega
    have hn3d : decide (0 ≤ t) = true := decide_eq_true hn3
    have hlt := h2.2
    have hlt2 : decide (t < f) = true := decide_eq_true hlt
    clear h2 h0 hf ht
    go_enter Tryd.func24, Tryd.ntmps24
    go_wp2_with (go_at_call 48; first | (with_reducible refine Calls.mono (HF.out _) ?_; rintro e w' ⟨rfl, rfl⟩) | (with_reducible refine Calls.mono (HG.out _) ?_; rintro e w' ⟨rfl, rfl⟩))
    go_ret2
    exact ⟨rfl, below_box _ _⟩
  rw [textV_ok hf ht h0 h2]
  have s1 := word_size hf
  have s2 := word_size ht
  have HE := Lib.hid (text_eq f t)
  have W1 := Lib.hid (fun w1 => rword_any f w1 hf)
  have W2 := Lib.hid (fun w1 => rword_any t w1 ht)
  generalize txt (wordL f) = A at *
  generalize txt (wordL t) = B at *
  generalize txt (textL f t) = R at *
  have HBW : Hid (Below w.heap.size w (w.alloc (.cells #[.int .i64 f, .int .i64 t] 35))) := Lib.hid (below_box w _)
  have hx0 : (w.alloc (.cells #[.int .i64 f, .int .i64 t] 35)).heap[w.heap.size]? = some (.cells #[.int .i64 f, .int .i64 t] 35 (0, 0)) := heap_alloc_new w _
  have hzb : w.heap.size < (w.alloc (.cells #[.int .i64 f, .int .i64 t] 35)).heap.size := (Array.getElem?_eq_some_iff.1 hx0).1
  clear hf ht
  by_cases hf1 : f = -1
  · have ht1 : ¬ (t < 0) := by omega
    have hlt : ¬ (t < f) := by omega
    subst hf1
    clear h0 h2
    go_enter Tryd.func24, Tryd.ntmps24
    go_upto_region 5 with (go_at_call 48; first | (with_reducible refine Calls.mono (HF.out _) ?_; rintro e w' ⟨rfl, rfl⟩) | (with_reducible refine Calls.mono (HG.out _) ?_; rintro e w' ⟨rfl, rfl⟩))
    generalize w.alloc (.cells #[.int .i64 (-1), .int .i64 t] 35) = W at *
    have x0 := (Lib.cell_of_heap hx0 (j := 0))
    have x1 := (Lib.cell_of_heap hx0 (j := 1))
    simp at x0 x1
    clear HF HG hx0
    have hx := @InB.cells W
    refine wp_region_inb (by kernel_rfl) (by kernel_rfl) ?_; (repeat (first | go_big_quiet_skip | (go_big_quiet_want; go_big_quiet_op; first | go_big_quiet_on | (apply Exists.intro; refine ⟨fun x => ?_, ?_⟩; (· ((first | (go_at_call 49; with_reducible exact inb_same _ (W1.out _)) | (go_at_call 49; with_reducible exact inb_same _ (W2.out _))))); go_big_quiet_on)))); refine wpQuiet_nil ?_; intro _ hw'; obtain ⟨⟨wq, hbq⟩, rfl⟩ := hw'
    go_wp2_with fail
    go_ret2
    exact ⟨by rw [HE.out]; rfl, HBW.out.trans (hbq.mono HBW.out.size)⟩
  · have hf2 : ¬ (f < 0) := by omega
    by_cases ht1 : t = -1
    · subst ht1
      have hlt : -1 < f := by omega
      clear h0 h2
      go_enter Tryd.func24, Tryd.ntmps24
      go_upto_region 5 with (go_at_call 48; first | (with_reducible refine Calls.mono (HF.out _) ?_; rintro e w' ⟨rfl, rfl⟩) | (with_reducible refine Calls.mono (HG.out _) ?_; rintro e w' ⟨rfl, rfl⟩))
      generalize w.alloc (.cells #[.int .i64 f, .int .i64 (-1)] 35) = W at *
      have x0 := (Lib.cell_of_heap hx0 (j := 0))
      have x1 := (Lib.cell_of_heap hx0 (j := 1))
      simp at x0 x1
      clear HF HG hx0
      have hx := @InB.cells W
      refine wp_region_inb (by kernel_rfl) (by kernel_rfl) ?_; (repeat (first | go_big_quiet_skip | (go_big_quiet_want; go_big_quiet_op; first | go_big_quiet_on | (apply Exists.intro; refine ⟨fun x => ?_, ?_⟩; (· ((first | (go_at_call 49; with_reducible exact inb_same _ (W1.out _)) | (go_at_call 49; with_reducible exact inb_same _ (W2.out _))))); go_big_quiet_on)))); refine wpQuiet_nil ?_; intro _ hw'; obtain ⟨⟨wq, hbq⟩, rfl⟩ := hw'
      go_wp2_with fail
      go_ret2
      exact ⟨by rw [HE.out]; rfl, HBW.out.trans (hbq.mono HBW.out.size)⟩
    · have ht2 : 0 ≤ t := by omega
      have hlt : ¬ (t < f) := fun h => h2 ⟨ht1, h⟩
      clear h0 h2
      go_enter Tryd.func24, Tryd.ntmps24
      go_upto_region 5 with (go_at_call 48; first | (with_reducible refine Calls.mono (HF.out _) ?_; rintro e w' ⟨rfl, rfl⟩) | (with_reducible refine Calls.mono (HG.out _) ?_; rintro e w' ⟨rfl, rfl⟩))
      generalize w.alloc (.cells #[.int .i64 f, .int .i64 t] 35) = W at *
      have x0 := (Lib.cell_of_heap hx0 (j := 0))
      have x1 := (Lib.cell_of_heap hx0 (j := 1))
      simp at x0 x1
      clear HF HG hx0
      have hx := @InB.cells W
      refine wp_region_inb (by kernel_rfl) (by kernel_rfl) ?_; (repeat (first | go_big_quiet_skip | (go_big_quiet_want; go_big_quiet_op; first | go_big_quiet_on | (apply Exists.intro; refine ⟨fun x => ?_, ?_⟩; (· ((first | (go_at_call 49; with_reducible exact inb_same _ (W1.out _)) | (go_at_call 49; with_reducible exact inb_same _ (W2.out _))))); go_big_quiet_on)))); refine wpQuiet_nil ?_; intro _ hw'; obtain ⟨⟨wq, hbq⟩, rfl⟩ := hw'
      go_wp2_with fail
      go_ret2
      exact ⟨by rw [HE.out]; rfl, HBW.out.trans (hbq.mono HBW.out.size)⟩

/-- A part's text, or why it has none. -/
def writeV (f t s : Int) : Value := if goodP f t s = true then .tuple #[.string (txt (writeL f t s)), .int .i64 0] else .tuple #[.string ⟨#[]⟩, .int .i64 2]

theorem good_ins {f t s : Int} (h : goodP f t s = true) : inB f = true ∧ inB t = true ∧ inB s = true := by
  unfold goodP at h
  rw [decide_eq_true_eq] at h
  unfold inB
  simp only [Bool.and_eq_true, decide_eq_true_eq]
  omega

theorem good_places {f t s : Int} (h : goodP f t s = true) : (f = -1 ∧ t = -1 ∧ 0 ≤ s) ∨ (0 ≤ f ∧ 0 ≤ t ∧ (s = -1 ∨ 0 ≤ s)) := by
  unfold goodP at h
  rw [decide_eq_true_eq] at h
  omega

theorem write_star (s : Int) (hs : s ≠ -1) : (⟨#[98, 121, 116, 101, 115, 32]⟩ : ByteArray) ++ ⟨#[42]⟩ ++ ⟨#[47]⟩ ++ txt (wordL s) = txt (writeL (-1) (-1) s) := by
  show txt [98, 121, 116, 101, 115, 32] ++ txt [42] ++ txt [47] ++ txt (wordL s) = _
  rw [txt_app, txt_app, txt_app]
  unfold writeL placeT sizeT bytesL
  rw [if_pos rfl, if_neg hs]
  simp

theorem write_full (f t s : Int) (hf : f ≠ -1) (hs : s ≠ -1) : (⟨#[98, 121, 116, 101, 115, 32]⟩ : ByteArray) ++ (txt (wordL f) ++ ⟨#[45]⟩ ++ txt (wordL t)) ++ ⟨#[47]⟩ ++ txt (wordL s) = txt (writeL f t s) := by
  show txt [98, 121, 116, 101, 115, 32] ++ (txt (wordL f) ++ txt [45] ++ txt (wordL t)) ++ txt [47] ++ txt (wordL s) = _
  rw [txt_app, txt_app, txt_app, txt_app, txt_app]
  unfold writeL placeT sizeT bytesL
  rw [if_neg hf, if_neg hs]
  simp

theorem write_open (f t : Int) (hf : f ≠ -1) : (⟨#[98, 121, 116, 101, 115, 32]⟩ : ByteArray) ++ (txt (wordL f) ++ ⟨#[45]⟩ ++ txt (wordL t)) ++ ⟨#[47]⟩ ++ ⟨#[42]⟩ = txt (writeL f t (-1)) := by
  show txt [98, 121, 116, 101, 115, 32] ++ (txt (wordL f) ++ txt [45] ++ txt (wordL t)) ++ txt [47] ++ txt [42] = _
  rw [txt_app, txt_app, txt_app, txt_app, txt_app]
  unfold writeL placeT sizeT bytesL
  rw [if_neg hf, if_pos rfl]
  simp

theorem rwrite_star (s : Int) (hs : s ≠ -1) : (⟨#[98, 121, 116, 101, 115, 32, 42]⟩ : ByteArray) ++ ⟨#[47]⟩ ++ txt (wordL s) = txt (writeL (-1) (-1) s) := by
  show txt [98, 121, 116, 101, 115, 32, 42] ++ txt [47] ++ txt (wordL s) = _
  rw [txt_app, txt_app]
  unfold writeL placeT sizeT bytesL
  rw [if_pos rfl, if_neg hs]
  simp

theorem rwrite_full (f t s : Int) (hf : f ≠ -1) (hs : s ≠ -1) : (⟨#[98, 121, 116, 101, 115, 32]⟩ : ByteArray) ++ txt (wordL f) ++ ⟨#[45]⟩ ++ txt (wordL t) ++ ⟨#[47]⟩ ++ txt (wordL s) = txt (writeL f t s) := by
  show txt [98, 121, 116, 101, 115, 32] ++ txt (wordL f) ++ txt [45] ++ txt (wordL t) ++ txt [47] ++ txt (wordL s) = _
  rw [txt_app, txt_app, txt_app, txt_app, txt_app]
  unfold writeL placeT sizeT bytesL
  rw [if_neg hf, if_neg hs]
  simp

theorem rwrite_open (f t : Int) (hf : f ≠ -1) : (⟨#[98, 121, 116, 101, 115, 32]⟩ : ByteArray) ++ txt (wordL f) ++ ⟨#[45]⟩ ++ txt (wordL t) ++ ⟨#[47, 42]⟩ = txt (writeL f t (-1)) := by
  show txt [98, 121, 116, 101, 115, 32] ++ txt (wordL f) ++ txt [45] ++ txt (wordL t) ++ txt [47, 42] = _
  rw [txt_app, txt_app, txt_app, txt_app]
  unfold writeL placeT sizeT bytesL
  rw [if_neg hf, if_pos rfl]
  simp

set_option maxRecDepth 20000 in
set_option maxHeartbeats 1000000 in
theorem Write_any (f t s : Int) (w : World) (hT : ∀ w', Below w.heap.size w w' → Pow w') :
    Calls Tryd.prog 26 #[.agg #[.int .i64 f, .int .i64 t, .int .i64 s]] w fun e w' => e = .returned (writeV f t s) ∧ Below w.heap.size w w' := by
  have HG := Lib.hid (fun w => good_any f t s w)
  unfold writeV
  cases hg : goodP f t s
  · rw [if_neg (by simp)]
    rw [hg] at HG
    clear hT hg
    go_enter Tryd.func26, Tryd.ntmps26
    go_wp2_with fail
    refine (HG.out _).mono ?_
    rintro e w2 ⟨rfl, hb⟩
    go_wp2_with fail
    go_ret2
    exact ⟨rfl, below_after hb⟩
  rw [if_pos rfl]
  rw [hg] at HG
  obtain ⟨i1, i2, i3⟩ := good_ins hg
  have hx0 : (w.alloc (.cells #[.int .i64 f, .int .i64 t, .int .i64 s] 37)).heap[w.heap.size]? = some (.cells #[.int .i64 f, .int .i64 t, .int .i64 s] 37 (0, 0)) := heap_alloc_new w _
  have s1 := word_size i1
  have s2 := word_size i2
  have s3 := word_size i3
  have W1 := Lib.hid (fun w1 (hb : Below w.heap.size w w1) => word_any f w1 i1 (hT w1 hb))
  have W2 := Lib.hid (fun w1 (hb : Below w.heap.size w w1) => word_any t w1 i2 (hT w1 hb))
  have W3 := Lib.hid (fun w1 (hb : Below w.heap.size w w1) => word_any s w1 i3 (hT w1 hb))
  have hE1 := write_star s
  have hE2 := write_full f t s
  have hE3 := write_open f t
  rcases good_places hg with ⟨rfl, rfl, h3⟩ | ⟨h1, h2, h3⟩
  · have HE := Lib.hid (hE1 (by omega))
    have hn3 : (s == -1) = false := beq_eq_false_iff_ne.2 (by omega)
    generalize txt (writeL (-1) (-1) s) = R at *
    generalize txt (wordL s) = C at *
    clear hE1 hE2 hE3 hT hg i1 i2 i3 W1 W2
    go_enter Tryd.func26, Tryd.ntmps26
    go_wp2_with fail
    refine (HG.out _).mono ?_
    rintro e w2 ⟨rfl, hb⟩
    have hx0 := (hb.block _ (Array.getElem?_eq_some_iff.1 hx0).1).trans hx0
    have HBW : Hid (Below w.heap.size w w2) := Lib.hid (below_after hb)
    have hzb : w.heap.size < w2.heap.size := (Array.getElem?_eq_some_iff.1 hx0).1
    have x0 := (Lib.cell_of_heap hx0 (j := 0))
    have x1 := (Lib.cell_of_heap hx0 (j := 1))
    have x2 := (Lib.cell_of_heap hx0 (j := 2))
    simp at x0 x1 x2
    clear hb hx0 HG
    go_wp2_with (go_at_call 47; refine Calls.mono (W3.out _ HBW.out) ?_; rintro e w3 ⟨rfl, hb3⟩)
    go_ret2
    exact ⟨by rw [HE.out]; rfl, HBW.out.trans (hb3.mono HBW.out.size)⟩
  · have hn1 : (f == -1) = false := beq_eq_false_iff_ne.2 (by omega)
    rcases h3 with rfl | h3
    · have HE := Lib.hid (hE3 (by omega))
      generalize txt (writeL f t (-1)) = R at *
      generalize txt (wordL f) = A at *
      generalize txt (wordL t) = B at *
      clear hE1 hE2 hE3 hT hg i1 i2 i3 W3
      go_enter Tryd.func26, Tryd.ntmps26
      go_wp2_with fail
      refine (HG.out _).mono ?_
      rintro e w2 ⟨rfl, hb⟩
      have hx0 := (hb.block _ (Array.getElem?_eq_some_iff.1 hx0).1).trans hx0
      have HBW : Hid (Below w.heap.size w w2) := Lib.hid (below_after hb)
      have hzb : w.heap.size < w2.heap.size := (Array.getElem?_eq_some_iff.1 hx0).1
      have x0 := (Lib.cell_of_heap hx0 (j := 0))
      have x1 := (Lib.cell_of_heap hx0 (j := 1))
      have x2 := (Lib.cell_of_heap hx0 (j := 2))
      simp at x0 x1 x2
      clear hb hx0 HG
      have U1 := Lib.hid (fun (x : InB w2) => W1.out x.val (HBW.out.trans (x.property.mono HBW.out.size)))
      have U2 := Lib.hid (fun (x : InB w2) => W2.out x.val (HBW.out.trans (x.property.mono HBW.out.size)))
      go_upto_region 5 with fail
      clear W1 W2
      have hx := @InB.cells w2
      refine wp_region_inb (by kernel_rfl) (by kernel_rfl) ?_; (repeat (first | go_big_quiet_skip | (go_big_quiet_want; go_big_quiet_op; first | go_big_quiet_on | (apply Exists.intro; refine ⟨fun x => ?_, ?_⟩; (· ((first | (go_at_call 47; with_reducible exact inb_call _ (U1.out _)) | (go_at_call 47; with_reducible exact inb_call _ (U2.out _))))); go_big_quiet_on)))); refine wpQuiet_nil ?_; intro _ hw'; obtain ⟨⟨wq, hbq⟩, rfl⟩ := hw'
      have q2 := (cell_below hbq hzb).trans x2
      go_wp2_with fail
      go_ret2
      exact ⟨by rw [HE.out]; rfl, HBW.out.trans (hbq.mono HBW.out.size)⟩
    · have HE := Lib.hid (hE2 (by omega) (by omega))
      have hn3 : (s == -1) = false := beq_eq_false_iff_ne.2 (by omega)
      generalize txt (writeL f t s) = R at *
      generalize txt (wordL f) = A at *
      generalize txt (wordL t) = B at *
      generalize txt (wordL s) = C at *
      clear hE1 hE2 hE3 hT hg i1 i2 i3
      go_enter Tryd.func26, Tryd.ntmps26
      go_wp2_with fail
      refine (HG.out _).mono ?_
      rintro e w2 ⟨rfl, hb⟩
      have hx0 := (hb.block _ (Array.getElem?_eq_some_iff.1 hx0).1).trans hx0
      have HBW : Hid (Below w.heap.size w w2) := Lib.hid (below_after hb)
      have hzb : w.heap.size < w2.heap.size := (Array.getElem?_eq_some_iff.1 hx0).1
      have x0 := (Lib.cell_of_heap hx0 (j := 0))
      have x1 := (Lib.cell_of_heap hx0 (j := 1))
      have x2 := (Lib.cell_of_heap hx0 (j := 2))
      simp at x0 x1 x2
      clear hb hx0 HG
      have U1 := Lib.hid (fun (x : InB w2) => W1.out x.val (HBW.out.trans (x.property.mono HBW.out.size)))
      have U2 := Lib.hid (fun (x : InB w2) => W2.out x.val (HBW.out.trans (x.property.mono HBW.out.size)))
      go_upto_region 5 with fail
      clear W1 W2
      have hx := @InB.cells w2
      refine wp_region_inb (by kernel_rfl) (by kernel_rfl) ?_; (repeat (first | go_big_quiet_skip | (go_big_quiet_want; go_big_quiet_op; first | go_big_quiet_on | (apply Exists.intro; refine ⟨fun x => ?_, ?_⟩; (· ((first | (go_at_call 47; with_reducible exact inb_call _ (U1.out _)) | (go_at_call 47; with_reducible exact inb_call _ (U2.out _))))); go_big_quiet_on)))); refine wpQuiet_nil ?_; intro _ hw'; obtain ⟨⟨wq, hbq⟩, rfl⟩ := hw'
      have q2 := (cell_below hbq hzb).trans x2
      have HBQ := Lib.hid (HBW.out.trans (hbq.mono HBW.out.size))
      go_wp2_with (go_at_call 47; refine Calls.mono (W3.out _ HBQ.out) ?_; rintro e w3 ⟨rfl, hb3⟩)
      go_ret2
      exact ⟨by rw [HE.out]; rfl, HBQ.out.trans (hb3.mono HBQ.out.size)⟩

set_option maxRecDepth 20000 in
set_option maxHeartbeats 1000000 in
theorem rWrite_any (f t s : Int) (w : World) (hg : goodP f t s = true) :
    Calls Tryd.prog 31 #[.agg #[.int .i64 f, .int .i64 t, .int .i64 s]] w fun e w' => e = .returned (.string (txt (writeL f t s))) ∧ Below w.heap.size w w' := by
  obtain ⟨i1, i2, i3⟩ := good_ins hg
  have hx0 : (w.alloc (.cells #[.int .i64 f, .int .i64 t, .int .i64 s] 37)).heap[w.heap.size]? = some (.cells #[.int .i64 f, .int .i64 t, .int .i64 s] 37 (0, 0)) := heap_alloc_new w _
  have hzb : w.heap.size < (w.alloc (.cells #[.int .i64 f, .int .i64 t, .int .i64 s] 37)).heap.size := (Array.getElem?_eq_some_iff.1 hx0).1
  have HBW : Hid (Below w.heap.size w (w.alloc (.cells #[.int .i64 f, .int .i64 t, .int .i64 s] 37))) := Lib.hid (below_box w _)
  have s1 := word_size i1
  have s2 := word_size i2
  have s3 := word_size i3
  have W1 := Lib.hid (fun w1 => rword_any f w1 i1)
  have W2 := Lib.hid (fun w1 => rword_any t w1 i2)
  have W3 := Lib.hid (fun w1 => rword_any s w1 i3)
  have hE1 := rwrite_star s
  have hE2 := rwrite_full f t s
  have hE3 := rwrite_open f t
  rcases good_places hg with ⟨rfl, rfl, h3⟩ | ⟨h1, h2, h3⟩
  · have HE := Lib.hid (hE1 (by omega))
    have hn3 : ¬ (s < 0) := by omega
    generalize txt (writeL (-1) (-1) s) = R at *
    generalize txt (wordL s) = C at *
    clear hE1 hE2 hE3 hg i1 i2 i3 W1 W2
    go_enter Tryd.func31, Tryd.ntmps31
    go_upto_region 2 with fail
    generalize w.alloc (.cells #[.int .i64 (-1), .int .i64 (-1), .int .i64 s] 37) = w2 at *
    have x0 := (Lib.cell_of_heap hx0 (j := 0))
    have x1 := (Lib.cell_of_heap hx0 (j := 1))
    have x2 := (Lib.cell_of_heap hx0 (j := 2))
    simp at x0 x1 x2
    clear hx0
    go_wp2_with (go_at_call 49; refine Calls.mono (W3.out _) ?_; rintro e w3 ⟨rfl, rfl⟩)
    go_ret
    exact ⟨by rw [HE.out]; rfl, HBW.out⟩
  · have hn1 : 0 ≤ f := h1
    rcases h3 with rfl | h3
    · have HE := Lib.hid (hE3 (by omega))
      generalize txt (writeL f t (-1)) = R at *
      generalize txt (wordL f) = A at *
      generalize txt (wordL t) = B at *
      clear hE1 hE2 hE3 hg i1 i2 i3 W3
      go_enter Tryd.func31, Tryd.ntmps31
      go_upto_region 3 with fail
      generalize w.alloc (.cells #[.int .i64 f, .int .i64 t, .int .i64 (-1)] 37) = w2 at *
      have x0 := (Lib.cell_of_heap hx0 (j := 0))
      have x1 := (Lib.cell_of_heap hx0 (j := 1))
      have x2 := (Lib.cell_of_heap hx0 (j := 2))
      simp at x0 x1 x2
      clear hx0
      have hx := @InB.cells w2
      refine wp_region_inb (by kernel_rfl) (by kernel_rfl) ?_; (repeat (first | go_big_quiet_skip | (go_big_quiet_want; go_big_quiet_op; first | go_big_quiet_on | (apply Exists.intro; refine ⟨fun x => ?_, ?_⟩; (· ((first | (go_at_call 49; with_reducible exact inb_same _ (W1.out _)) | (go_at_call 49; with_reducible exact inb_same _ (W2.out _))))); go_big_quiet_on)))); refine wpQuiet_nil ?_; intro _ hw'; obtain ⟨⟨wq, hbq⟩, rfl⟩ := hw'
      have q2 := (cell_below hbq hzb).trans x2
      go_wp2_with fail
      go_ret
      exact ⟨by rw [HE.out]; rfl, HBW.out.trans (hbq.mono HBW.out.size)⟩
    · have HE := Lib.hid (hE2 (by omega) (by omega))
      have hn3 : ¬ (s < 0) := by omega
      generalize txt (writeL f t s) = R at *
      generalize txt (wordL f) = A at *
      generalize txt (wordL t) = B at *
      generalize txt (wordL s) = C at *
      clear hE1 hE2 hE3 hg i1 i2 i3
      go_enter Tryd.func31, Tryd.ntmps31
      go_upto_region 3 with fail
      generalize w.alloc (.cells #[.int .i64 f, .int .i64 t, .int .i64 s] 37) = w2 at *
      have x0 := (Lib.cell_of_heap hx0 (j := 0))
      have x1 := (Lib.cell_of_heap hx0 (j := 1))
      have x2 := (Lib.cell_of_heap hx0 (j := 2))
      simp at x0 x1 x2
      clear hx0
      have hx := @InB.cells w2
      refine wp_region_inb (by kernel_rfl) (by kernel_rfl) ?_; (repeat (first | go_big_quiet_skip | (go_big_quiet_want; go_big_quiet_op; first | go_big_quiet_on | (apply Exists.intro; refine ⟨fun x => ?_, ?_⟩; (· ((first | (go_at_call 49; with_reducible exact inb_same _ (W1.out _)) | (go_at_call 49; with_reducible exact inb_same _ (W2.out _))))); go_big_quiet_on)))); refine wpQuiet_nil ?_; intro _ hw'; obtain ⟨⟨wq, hbq⟩, rfl⟩ := hw'
      have q2 := (cell_below hbq hzb).trans x2
      have HBQ := Lib.hid (HBW.out.trans (hbq.mono HBW.out.size))
      go_wp2_with (go_at_call 49; refine Calls.mono (W3.out _) ?_; rintro e w3 ⟨rfl, rfl⟩)
      go_ret
      exact ⟨by rw [HE.out]; rfl, HBQ.out⟩

end Go.Proofs.YtjlemghmpnkncaaDoor
