/-
  Walks of package status and its reference: Text, Good.
-/
import Derived.Test.YtjlemghmpnkncaaDoorStatT
import Derived.Test.YtjlemghmpnkncaaDoorStatY
namespace Go.Proofs.YtjlemghmpnkncaaDoor
open Go.RowKit
set_option linter.unusedSimpArgs false
set_option linter.unusedVariables false

/-- The library's table of powers of ten. -/
def Pow (w : World) : Prop := Lib.TabIs Tryd.prog w "internal/strconv.uint64pow10" .u64 Lib.pow10Tab

theorem goodS_parts {a b c : Int} {r : ByteArray} (h : goodS a b c r = true) : ∃ x y z : Nat, a = x ∧ b = y ∧ c = z ∧ x ≤ 9 ∧ y ≤ 9 ∧ 100 ≤ z ∧ z ≤ 999 ∧ reasonB r = true := by
  unfold goodS smallI at h
  simp only [Bool.and_eq_true, decide_eq_true_eq] at h
  obtain ⟨⟨⟨⟨h1, h2⟩, h3, h4⟩, h5⟩, h6⟩ := h
  have hc : 100 ≤ c ∧ c ≤ 999 := by
    unfold hundB at h5
    split at h5 <;> omega
  exact ⟨a.toNat, b.toNat, c.toNat, by omega, by omega, by omega, by omega, by omega, by omega, by omega, h6⟩

theorem itoa_one (n : Nat) (h : n ≤ 9) : txt (Lib.itoa n) = txt [dg n] := by
  rcases itoa_cases n (by omega) (by omega) with ⟨_, e⟩ | ⟨e, _⟩
  · rw [e, show ((n : Int)).toNat = n by omega, dec_one ⟨n, by omega⟩]
  · omega

theorem itoa_three (n : Nat) (h : 100 ≤ n) (h2 : n ≤ 999) : txt (Lib.itoa n) = txt [dg (n / 100), dg (n / 10 % 10), dg (n % 10)] := by
  rcases itoa_cases n (by omega) (by omega) with ⟨_, e⟩ | ⟨e, _⟩
  · rw [e, show ((n : Int)).toNat = n by omega, dec_three ⟨n, by omega⟩ h]
  · omega

/-- A status's text. -/
def textS (x y z : Nat) (r : ByteArray) : ByteArray := ⟨(lineL x y z r.data.toList).toArray⟩

theorem line_ends (x y z : Nat) (r : ByteArray) (hz : z ≤ 999) (hr : reasonB r = true) : endsB (textS x y z r) = textS x y z r := by
  have hl : trimEnd isTab (lineL x y z r.data.toList) = lineL x y z r.data.toList := by
    rcases List.eq_nil_or_concat r.data.toList with hn | ⟨l2, b, hc⟩
    · rw [hn]
      have e : lineL x y z [] = [72, 84, 84, 80, 47, dg x, 46, dg y, 32, dg (z / 100), dg (z / 10 % 10)] ++ [dg (z % 10)] := rfl
      rw [e, trimEnd_snoc, if_neg]
      have d3 := dg_digit ⟨z % 10, by omega⟩
      simp only at d3
      have : ∀ b, isDigit b = true → isTab b = false := fun b => all_u8 (p := fun b => isDigit b = true → isTab b = false) (by decide +kernel) b
      rw [this _ d3.1]
      simp
    · rw [List.concat_eq_append] at hc
      have hb : isTab b = false := by
        unfold reasonB at hr
        rw [Bool.and_eq_true] at hr
        have hs : r.size = l2.length + 1 := by rw [Lib.size_eq, hc]; simp
        have hpos : 0 < r.size := by omega
        have h1 := hr.1
        rw [dif_pos hpos] at h1
        have hlast : r[r.size - 1] = b := by
          rw [getElem_data r (r.size - 1) (by omega)]
          have hk : r.size - 1 = l2.length := by omega
          simp only [hc, hk]
          simp
        rw [hlast] at h1
        simp at h1
        exact h1.2
      rw [hc]
      have e : lineL x y z (l2 ++ [b]) = ([72, 84, 84, 80, 47, dg x, 46, dg y, 32, dg (z / 100), dg (z / 10 % 10), dg (z % 10), 32] ++ l2) ++ [b] := by
        unfold lineL
        rw [if_neg (by simp)]
        simp
      rw [e, trimEnd_snoc, if_neg (by rw [hb]; simp)]
  unfold endsB textS
  simp only [hl]

theorem line_said (x y z : Nat) (r : ByteArray) (hx : x ≤ 9) (hy : y ≤ 9) (hz : 100 ≤ z) (hz2 : z ≤ 999) (hr : reasonB r = true) :
    lineV (textS x y z r) = .tuple #[statV x y z r, .int .i64 0] := by
  rw [line_ref, line_ends x y z r hz2 hr]
  unfold refV textS
  rw [line_back x y z r.data.toList hx hy hz hz2 hr]

theorem textS_size (x y z : Nat) (r : ByteArray) : (textS x y z r).size ≤ r.size + 13 := by
  unfold textS lineL
  rw [Lib.size_eq, Lib.size_eq]
  split <;> simp <;> omega

theorem textS_nil (x y z : Nat) (r : ByteArray) (h : r.data.toList = []) :
    (⟨#[72, 84, 84, 80, 47]⟩ : ByteArray) ++ txt [dg x] ++ ⟨#[46]⟩ ++ txt [dg y] ++ ⟨#[32]⟩ ++ txt [dg (z / 100), dg (z / 10 % 10), dg (z % 10)] = textS x y z r := by
  show txt [72, 84, 84, 80, 47] ++ txt [dg x] ++ txt [46] ++ txt [dg y] ++ txt [32] ++ txt [dg (z / 100), dg (z / 10 % 10), dg (z % 10)] = txt (lineL x y z r.data.toList)
  rw [txt_app, txt_app, txt_app, txt_app, txt_app, h]
  rfl

theorem textS_more (x y z : Nat) (r : ByteArray) (h : r.data.toList ≠ []) :
    (⟨#[72, 84, 84, 80, 47]⟩ : ByteArray) ++ txt [dg x] ++ ⟨#[46]⟩ ++ txt [dg y] ++ ⟨#[32]⟩ ++ txt [dg (z / 100), dg (z / 10 % 10), dg (z % 10)] ++ (⟨#[32]⟩ ++ r) = textS x y z r := by
  have hr : r = txt r.data.toList := rfl
  show txt [72, 84, 84, 80, 47] ++ txt [dg x] ++ txt [46] ++ txt [dg y] ++ txt [32] ++ txt [dg (z / 100), dg (z / 10 % 10), dg (z % 10)] ++ (txt [32] ++ r) = txt (lineL x y z r.data.toList)
  conv => lhs; rw [hr]
  rw [txt_app, txt_app, txt_app, txt_app, txt_app, txt_app, txt_app]
  unfold lineL
  rw [if_neg h]
  rfl

theorem textS_more2 (x y z : Nat) (r : ByteArray) (h : r.data.toList ≠ []) :
    (⟨#[72, 84, 84, 80, 47]⟩ : ByteArray) ++ txt [dg x] ++ ⟨#[46]⟩ ++ txt [dg y] ++ ⟨#[32]⟩ ++ txt [dg (z / 100), dg (z / 10 % 10), dg (z % 10)] ++ ⟨#[32]⟩ ++ r = textS x y z r := by
  have hr : r = txt r.data.toList := rfl
  show txt [72, 84, 84, 80, 47] ++ txt [dg x] ++ txt [46] ++ txt [dg y] ++ txt [32] ++ txt [dg (z / 100), dg (z / 10 % 10), dg (z % 10)] ++ txt [32] ++ r = txt (lineL x y z r.data.toList)
  conv => lhs; rw [hr]
  rw [txt_app, txt_app, txt_app, txt_app, txt_app, txt_app, txt_app]
  unfold lineL
  rw [if_neg h]
  rfl

theorem SText_no (a b c : Int) (r : ByteArray) (w : World) (hg : goodS a b c r = false) (hs : r.size ≤ 1000) :
    Calls Tryd.prog 18 #[statV a b c r] w fun e w' => e = .returned (.string ⟨#[]⟩) ∧ Below w.heap.size w w' := by
  have HG := Lib.hid (fun w => goodS_any a b c r w (by unfold maxLen; omega))
  rw [hg] at HG
  unfold statV at *
  clear hg
  go_enter Tryd.func18, Tryd.ntmps18
  go_wp2_with fail
  refine (HG.out _).mono ?_
  rintro e w2 ⟨rfl, hb⟩
  go_wp2_with fail
  go_ret
  exact ⟨rfl, below_after hb⟩

set_option maxRecDepth 20000 in
set_option maxHeartbeats 1000000 in
theorem SText_yes (x y z : Nat) (r : ByteArray) (w : World) (hx : x ≤ 9) (hy : y ≤ 9) (hz : 100 ≤ z) (hz2 : z ≤ 999) (hg : goodS x y z r = true) (hs : r.size ≤ 1000)
    (hT : ∀ w', Below w.heap.size w w' → Pow w') :
    Calls Tryd.prog 18 #[statV x y z r] w fun e w' => e = .returned (.string (textS x y z r)) ∧ Below w.heap.size w w' := by
  have HG := Lib.hid (fun w => goodS_any x y z r w (by unfold maxLen; omega))
  rw [hg] at HG
  have T1 := Lib.hid (fun w1 (hb : Below w.heap.size w w1) => Text_any (x : Int) w1 (by omega) (by omega) (hT w1 hb))
  have T2 := Lib.hid (fun w1 (hb : Below w.heap.size w w1) => Text_any (y : Int) w1 (by omega) (by omega) (hT w1 hb))
  have T3 := Lib.hid (fun w1 (hb : Below w.heap.size w w1) => Text_any (z : Int) w1 (by omega) (by omega) (hT w1 hb))
  rw [itoa_one x hx] at T1
  rw [itoa_one y hy] at T2
  rw [itoa_three z hz hz2] at T3
  have hE1 := textS_nil x y z r
  have hE2 := textS_more x y z r
  have hA : (txt [dg x]).size = 1 := rfl
  have hB : (txt [dg y]).size = 1 := rfl
  have hC : (txt [dg (z / 100), dg (z / 10 % 10), dg (z % 10)]).size = 3 := rfl
  generalize txt [dg x] = A at *
  generalize txt [dg y] = B at *
  generalize txt [dg (z / 100), dg (z / 10 % 10), dg (z % 10)] = C at *
  generalize textS x y z r = R at *
  unfold statV at *
  clear hT hg
  by_cases hr : r.data.toList = []
  · have HE := Lib.hid (hE1 hr)
    have he : r.toList = [] := by rw [Lib.toList_data]; exact hr
    clear hE1 hE2 hr
    go_enter Tryd.func18, Tryd.ntmps18
    go_wp2_with fail
    refine (HG.out _).mono ?_
    rintro e w2 ⟨rfl, hb⟩
    have hx0 : (w.alloc (.cells #[.int .i64 x, .int .i64 y, .int .i64 z, .string r] 27)).heap[w.heap.size]? = some (statO x y z r) := heap_alloc_new w _
    have hx2 := (hb.block _ (Array.getElem?_eq_some_iff.1 hx0).1).trans hx0
    have HBW : Hid (Below w.heap.size w w2) := Lib.hid (below_after hb)
    have hzb : w.heap.size < w2.heap.size := (Array.getElem?_eq_some_iff.1 hx2).1
    go_upto_region 3 with fail
    clear hb hx0
    obtain ⟨p0, p1, p2, p3, pf⟩ := stat_cells hx2
    have U1 := Lib.hid (fun (x : InB w2) => T1.out x.val (HBW.out.trans (x.property.mono HBW.out.size)))
    have U2 := Lib.hid (fun (x : InB w2) => T2.out x.val (HBW.out.trans (x.property.mono HBW.out.size)))
    have U3 := Lib.hid (fun (x : InB w2) => T3.out x.val (HBW.out.trans (x.property.mono HBW.out.size)))
    clear T1 T2 T3 hx2 HG
    have hx := @InB.cells w2
    refine wp_region_inb (by kernel_rfl) (by kernel_rfl) ?_; (repeat (first | go_big_quiet_skip | (go_big_quiet_want; go_big_quiet_op; first | go_big_quiet_on | (apply Exists.intro; refine ⟨fun x => ?_, ?_⟩; (· ((first | (go_at_call 37; with_reducible exact inb_call _ (U1.out _)) | (go_at_call 37; with_reducible exact inb_call _ (U2.out _)) | (go_at_call 37; with_reducible exact inb_call _ (U3.out _))))); go_big_quiet_on)))); refine wpQuiet_nil ?_; intro _ hw'; obtain ⟨⟨wq, hbq⟩, rfl⟩ := hw'
    have q3 := (cell_below hbq hzb).trans p3
    go_wp2_with fail
    go_ret
    exact ⟨by rw [HE.out]; rfl, HBW.out.trans (hbq.mono HBW.out.size)⟩
  · have HE := Lib.hid (hE2 hr)
    have he : r.toList.isEmpty = false := by rw [Lib.toList_data, List.isEmpty_eq_false_iff]; exact hr
    clear hE1 hE2 hr
    go_enter Tryd.func18, Tryd.ntmps18
    go_wp2_with fail
    refine (HG.out _).mono ?_
    rintro e w2 ⟨rfl, hb⟩
    have hx0 : (w.alloc (.cells #[.int .i64 x, .int .i64 y, .int .i64 z, .string r] 27)).heap[w.heap.size]? = some (statO x y z r) := heap_alloc_new w _
    have hx2 := (hb.block _ (Array.getElem?_eq_some_iff.1 hx0).1).trans hx0
    have HBW : Hid (Below w.heap.size w w2) := Lib.hid (below_after hb)
    have hzb : w.heap.size < w2.heap.size := (Array.getElem?_eq_some_iff.1 hx2).1
    go_upto_region 3 with fail
    clear hb hx0
    obtain ⟨p0, p1, p2, p3, pf⟩ := stat_cells hx2
    have U1 := Lib.hid (fun (x : InB w2) => T1.out x.val (HBW.out.trans (x.property.mono HBW.out.size)))
    have U2 := Lib.hid (fun (x : InB w2) => T2.out x.val (HBW.out.trans (x.property.mono HBW.out.size)))
    have U3 := Lib.hid (fun (x : InB w2) => T3.out x.val (HBW.out.trans (x.property.mono HBW.out.size)))
    clear T1 T2 T3 hx2 HG
    have hx := @InB.cells w2
    refine wp_region_inb (by kernel_rfl) (by kernel_rfl) ?_; (repeat (first | go_big_quiet_skip | (go_big_quiet_want; go_big_quiet_op; first | go_big_quiet_on | (apply Exists.intro; refine ⟨fun x => ?_, ?_⟩; (· ((first | (go_at_call 37; with_reducible exact inb_call _ (U1.out _)) | (go_at_call 37; with_reducible exact inb_call _ (U2.out _)) | (go_at_call 37; with_reducible exact inb_call _ (U3.out _))))); go_big_quiet_on)))); refine wpQuiet_nil ?_; intro _ hw'; obtain ⟨⟨wq, hbq⟩, rfl⟩ := hw'
    have q3 := (cell_below hbq hzb).trans p3
    go_wp2_with fail
    go_ret
    exact ⟨by rw [HE.out]; rfl, HBW.out.trans (hbq.mono HBW.out.size)⟩

set_option maxRecDepth 20000 in
set_option maxHeartbeats 1000000 in
theorem rSText_yes (x y z : Nat) (r : ByteArray) (w : World) (hx : x ≤ 9) (hy : y ≤ 9) (hz : 100 ≤ z) (hz2 : z ≤ 999) (hs : r.size ≤ 1000) :
    Calls Tryd.prog 22 #[statV x y z r] w fun e w' => e = .returned (.string (textS x y z r)) ∧ Below w.heap.size w w' := by
  have T1 := Lib.hid (fun w1 => rText_any (x : Int) w1 (by omega) (by omega))
  have T2 := Lib.hid (fun w1 => rText_any (y : Int) w1 (by omega) (by omega))
  have T3 := Lib.hid (fun w1 => rText_any (z : Int) w1 (by omega) (by omega))
  rw [itoa_one x hx] at T1
  rw [itoa_one y hy] at T2
  rw [itoa_three z hz hz2] at T3
  have hE1 := textS_nil x y z r
  have hE2 := textS_more2 x y z r
  have hA : (txt [dg x]).size = 1 := rfl
  have hB : (txt [dg y]).size = 1 := rfl
  have hC : (txt [dg (z / 100), dg (z / 10 % 10), dg (z % 10)]).size = 3 := rfl
  generalize txt [dg x] = A at *
  generalize txt [dg y] = B at *
  generalize txt [dg (z / 100), dg (z / 10 % 10), dg (z % 10)] = C at *
  generalize textS x y z r = R at *
  unfold statV at *
  have hx0 : (w.alloc (.cells #[.int .i64 x, .int .i64 y, .int .i64 z, .string r] 27)).heap[w.heap.size]? = some (statO x y z r) := heap_alloc_new w _
  have HBW := Lib.hid (below_box w (.cells #[.int .i64 x, .int .i64 y, .int .i64 z, .string r] 27))
  have hzb : w.heap.size < (w.alloc (.cells #[.int .i64 x, .int .i64 y, .int .i64 z, .string r] 27)).heap.size := (Array.getElem?_eq_some_iff.1 hx0).1
  obtain ⟨p0, p1, p2, p3, pf⟩ := stat_cells hx0
  by_cases hr : r.data.toList = []
  · have HE := Lib.hid (hE1 hr)
    have he : r.toList = [] := by rw [Lib.toList_data]; exact hr
    clear hE1 hE2 hr
    go_enter Tryd.func22, Tryd.ntmps22
    go_upto_region 1 with fail
    generalize w.alloc (.cells #[.int .i64 x, .int .i64 y, .int .i64 z, .string r] 27) = w2 at *
    clear hx0
    have hx := @InB.cells w2
    refine wp_region_inb (by kernel_rfl) (by kernel_rfl) ?_; (repeat (first | go_big_quiet_skip | (go_big_quiet_want; go_big_quiet_op; first | go_big_quiet_on | (apply Exists.intro; refine ⟨fun x => ?_, ?_⟩; (· ((first | (go_at_call 45; with_reducible exact inb_same _ (T1.out _)) | (go_at_call 45; with_reducible exact inb_same _ (T2.out _)) | (go_at_call 45; with_reducible exact inb_same _ (T3.out _))))); go_big_quiet_on)))); refine wpQuiet_nil ?_; intro _ hw'; obtain ⟨⟨wq, hbq⟩, rfl⟩ := hw'
    have q3 := (cell_below hbq hzb).trans p3
    go_wp2_with fail
    go_ret
    exact ⟨by rw [HE.out]; rfl, HBW.out.trans (hbq.mono HBW.out.size)⟩
  · have HE := Lib.hid (hE2 hr)
    have he : r.toList.isEmpty = false := by rw [Lib.toList_data, List.isEmpty_eq_false_iff]; exact hr
    clear hE1 hE2 hr
    go_enter Tryd.func22, Tryd.ntmps22
    go_upto_region 1 with fail
    generalize w.alloc (.cells #[.int .i64 x, .int .i64 y, .int .i64 z, .string r] 27) = w2 at *
    clear hx0
    have hx := @InB.cells w2
    refine wp_region_inb (by kernel_rfl) (by kernel_rfl) ?_; (repeat (first | go_big_quiet_skip | (go_big_quiet_want; go_big_quiet_op; first | go_big_quiet_on | (apply Exists.intro; refine ⟨fun x => ?_, ?_⟩; (· ((first | (go_at_call 45; with_reducible exact inb_same _ (T1.out _)) | (go_at_call 45; with_reducible exact inb_same _ (T2.out _)) | (go_at_call 45; with_reducible exact inb_same _ (T3.out _))))); go_big_quiet_on)))); refine wpQuiet_nil ?_; intro _ hw'; obtain ⟨⟨wq, hbq⟩, rfl⟩ := hw'
    have q3 := (cell_below hbq hzb).trans p3
    go_wp2_with fail
    go_ret
    exact ⟨by rw [HE.out]; rfl, HBW.out.trans (hbq.mono HBW.out.size)⟩

end Go.Proofs.YtjlemghmpnkncaaDoor
