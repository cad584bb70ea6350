/-
  Walks of package image: its table.
-/
import Derived.Test.YtcpjokjfjhhndaaTabB
import Derived.Test.YtcpjokjfjhhndaaShelf
namespace Go.Proofs.Ytcpjokjfjhhndaa
open Go.RowKit
set_option linter.unusedSimpArgs false
set_option linter.unusedVariables false

/-- The patterns of pictures. -/
def imgTable : List Pat :=
  [exactP ⟨#[0, 0, 1, 0]⟩ ⟨#[105, 109, 97, 103, 101, 47, 120, 45, 105, 99, 111, 110]⟩ 0 0,
   exactP ⟨#[0, 0, 2, 0]⟩ ⟨#[105, 109, 97, 103, 101, 47, 120, 45, 105, 99, 111, 110]⟩ 0 0,
   exactP ⟨#[66, 77]⟩ ⟨#[105, 109, 97, 103, 101, 47, 98, 109, 112]⟩ 0 0,
   exactP ⟨#[71, 73, 70, 56, 55, 97]⟩ ⟨#[105, 109, 97, 103, 101, 47, 103, 105, 102]⟩ 0 0,
   exactP ⟨#[71, 73, 70, 56, 57, 97]⟩ ⟨#[105, 109, 97, 103, 101, 47, 103, 105, 102]⟩ 0 0,
   exactP ⟨#[82, 73, 70, 70, 0, 0, 0, 0, 87, 69, 66, 80, 86, 80]⟩ ⟨#[105, 109, 97, 103, 101, 47, 119, 101, 98, 112]⟩ 4 8,
   exactP ⟨#[137, 80, 78, 71, 13, 10, 26, 10]⟩ ⟨#[105, 109, 97, 103, 101, 47, 112, 110, 103]⟩ 0 0,
   exactP ⟨#[255, 216, 255]⟩ ⟨#[105, 109, 97, 103, 101, 47, 106, 112, 101, 103]⟩ 0 0]

theorem repeat_holed (n : Nat) : Lib.repeatL [255] n = holedL n 0 0 := by
  have h : Lib.repeatL [255] n = List.replicate n 255 := by
    induction n with
    | zero => rfl
    | succ n ih => simp [Lib.repeatL, ih, List.replicate_succ]
  rw [h]
  unfold holedL
  apply List.ext_getElem
  · simp
  · intro i h1 h2
    simp

set_option maxRecDepth 20000 in
theorem rTable_img (w : World) : Calls Try.prog 41 #[] w (GivesTab imgTable w) := by
  have hb := Below.refl w.heap.size w
  have C := fun (b t : ByteArray) (f u : Nat) (w : World) (hb : b.size ≤ 1000) (hf : f ≤ 1000) (hu : u ≤ 1000) => Exact_any b t f u w hb hf hu
  have C00 : ∀ (b t : ByteArray) (w : World), b.size ≤ 1000 → Calls Try.prog 72 #[.string b, .string t, .int .i64 0, .int .i64 0] w fun e w' => e = .returned (patV (exactP b t 0 0).b (exactP b t 0 0).m (exactP b t 0 0).k (exactP b t 0 0).t) ∧ Below w.heap.size w w' := fun b t w hb => C b t 0 0 w hb (by decide) (by decide)
  have C48 : ∀ (b t : ByteArray) (w : World), b.size ≤ 1000 → Calls Try.prog 72 #[.string b, .string t, .int .i64 4, .int .i64 8] w fun e w' => e = .returned (patV (exactP b t 4 8).b (exactP b t 4 8).m (exactP b t 4 8).k (exactP b t 4 8).t) ∧ Below w.heap.size w w' := fun b t w hb => C b t 4 8 w hb (by decide) (by decide)
  have H00 := Lib.hid C00
  have H48 := Lib.hid C48
  clear C C00 C48
  go_enter Try.func41, Try.ntmps41
  go_wp2_with (first | (go_at_call 72; (with_reducible refine (H00.out _ _ _ (by decide)).mono ?_); rintro e w' ⟨rfl, hb2⟩; replace hb := below_trans hb hb2; clear hb2) | (go_at_call 72; (with_reducible refine (H48.out _ _ _ (by decide)).mono ?_); rintro e w' ⟨rfl, hb2⟩; replace hb := below_trans hb hb2; clear hb2))
  go_ret
  exact ⟨_, _, rfl, patsAt_new _ imgTable _, hb.alloc hb.size _⟩

theorem exact_any (b t : ByteArray) (w : World) (hb : b.size ≤ 1000) :
    Calls Try.prog 94 #[.string b, .string t] w fun e w' => e = .returned (patV (exactP b t 0 0).b (exactP b t 0 0).m (exactP b t 0 0).k (exactP b t 0 0).t) ∧ Below w.heap.size w w' := by
  have CR : Hid (∀ w : World, Calls Try.prog 100 #[.string ⟨#[255]⟩, .int .i64 b.size] w fun e w' => e = .returned (.string ⟨(holedL b.size 0 0).toArray⟩) ∧ Below w.heap.size w w') := Lib.hid (fun w => by
    have := Try.strings_Repeat ⟨#[255]⟩ b.size w (by omega) (by show 1 * b.size ≤ _; omega)
    rwa [repeat_holed] at this)
  go_enter Try.func94, Try.ntmps94
  go_upto_region 1 with fail
  generalize hW : w.alloc (.cells #[.string ⟨#[]⟩, .string ⟨#[]⟩, .string ⟨#[]⟩, .string ⟨#[]⟩] 25) = W
  have hsz : w.heap.size < W.heap.size := by rw [← hW]; simp
  have hrow : W.heap[w.heap.size]? = some (.cells #[.string ⟨#[]⟩, .string ⟨#[]⟩, .string ⟨#[]⟩, .string ⟨#[]⟩] 25 (0, 0)) := by rw [← hW]; exact heap_alloc_new w _
  have hB0 : Below w.heap.size w W := by rw [← hW]; exact below_box w _
  have HR := Lib.hid hrow
  have HB := Lib.hid hB0
  clear hW hrow hB0
  go_wp2_with fail
  refine (CR.out _).mono ?_
  rintro e w1 ⟨rfl, hb1⟩
  have HROW := (hb1.block _ hsz).trans HR.out
  have hw := HB.out.trans (hb1.mono HB.out.size)
  have q0 := cell_of_row w1 w.heap.size 0 _ _ (0, 0) HROW
  have q1 := cell_of_row w1 w.heap.size 1 _ _ (0, 0) HROW
  have q2 := cell_of_row w1 w.heap.size 2 _ _ (0, 0) HROW
  have q3 := cell_of_row w1 w.heap.size 3 _ _ (0, 0) HROW
  have hfz : ∀ o, w1.frozen? ⟨w.heap.size, o, none⟩ = false := fun o => by simp [World.frozen?, HROW]
  simp at q0 q1 q2 q3
  have HW := Lib.hid hw
  clear HROW hb1 hw
  go_wp2_with fail
  refine bodyPost_ret (v := patV (exactP b t 0 0).b (exactP b t 0 0).m (exactP b t 0 0).k (exactP b t 0 0).t) ?_ rfl ⟨rfl, (((HW.out.setCell (Nat.le_refl _) _).setCell (Nat.le_refl _) _).setCell (Nat.le_refl _) _).setCell (Nat.le_refl _) _⟩
  simp [results, Try.results94, go_sem, q0, q1, q2, q3, exactP]

/-- The pattern with a gap behind the head. -/
def riffMask (h t : ByteArray) : ByteArray := ((⟨(holedL (h.size + 4 + t.size) 0 0).toArray⟩ : ByteArray).extract 0 h.size ++ ⟨#[0, 0, 0, 0]⟩) ++ (⟨(holedL (h.size + 4 + t.size) 0 0).toArray⟩ : ByteArray).extract (h.size + 4) (h.size + 4 + t.size)

set_option maxHeartbeats 1000000 in
theorem riff_any (h t k : ByteArray) (w : World) (hh : h.size ≤ 100) (ht : t.size ≤ 100) :
    Calls Try.prog 95 #[.string h, .string t, .string k] w fun e w' => e = .returned (patV ((h ++ ⟨#[0, 0, 0, 0]⟩) ++ t) (riffMask h t) ⟨#[]⟩ k) ∧ Below w.heap.size w w' := by
  have hsz : ((h ++ ⟨#[0, 0, 0, 0]⟩) ++ t).size = h.size + 4 + t.size := by rw [ByteArray.size_append, ByteArray.size_append]; rfl
  have hms : (⟨(holedL (h.size + 4 + t.size) 0 0).toArray⟩ : ByteArray).size = h.size + 4 + t.size := by rw [Lib.size_eq]; simp [holedL]
  have CE : Hid (∀ w : World, Calls Try.prog 94 #[.string ((h ++ ⟨#[0, 0, 0, 0]⟩) ++ t), .string k] w fun e w' => e = .returned (patV ((h ++ ⟨#[0, 0, 0, 0]⟩) ++ t) ⟨(holedL (h.size + 4 + t.size) 0 0).toArray⟩ ⟨#[]⟩ k) ∧ Below w.heap.size w w') := Lib.hid (fun w => by
    have := exact_any ((h ++ ⟨#[0, 0, 0, 0]⟩) ++ t) k w (by omega)
    simp only [exactP] at this
    rwa [hsz] at this)
  have HRM : Hid (riffMask h t = ((⟨(holedL (h.size + 4 + t.size) 0 0).toArray⟩ : ByteArray).extract 0 h.size ++ ⟨#[0, 0, 0, 0]⟩) ++ (⟨(holedL (h.size + 4 + t.size) 0 0).toArray⟩ : ByteArray).extract (h.size + 4) (h.size + 4 + t.size)) := Lib.hid rfl
  generalize (⟨(holedL (h.size + 4 + t.size) 0 0).toArray⟩ : ByteArray) = m at *
  generalize riffMask h t = rm at *
  rw [← hms] at HRM
  have hm1 : h.size + 4 ≤ m.size := by omega
  have hm2 : m.size ≤ 1000 := by omega
  have hm3 : h.size ≤ m.size := by omega
  clear hms hsz
  go_enter Try.func95, Try.ntmps95
  go_upto_region 1 with fail
  generalize hW : w.alloc (.cells #[.string ⟨#[]⟩, .string ⟨#[]⟩, .string ⟨#[]⟩, .string ⟨#[]⟩] 25) = W
  have hsz : w.heap.size < W.heap.size := by rw [← hW]; simp
  have hrow : W.heap[w.heap.size]? = some (.cells #[.string ⟨#[]⟩, .string ⟨#[]⟩, .string ⟨#[]⟩, .string ⟨#[]⟩] 25 (0, 0)) := by rw [← hW]; exact heap_alloc_new w _
  have hB0 : Below w.heap.size w W := by rw [← hW]; exact below_box w _
  have HR := Lib.hid hrow
  have HB := Lib.hid hB0
  clear hW hrow hB0
  go_upto_region 2 with (go_at_call 94; refine (CE.out _).mono ?_; rintro e w1 ⟨rfl, hb1⟩)
  have hg : w.heap.size < w1.heap.size := Nat.lt_of_lt_of_le hsz hb1.size
  have HR1 := Lib.hid ((hb1.block _ hsz).trans HR.out)
  have HB1 := Lib.hid (HB.out.trans (hb1.mono HB.out.size))
  clear hb1 HR HB
  go_cut [] (fun wx => Texts4 w1.heap.size ((h ++ ⟨#[0, 0, 0, 0]⟩) ++ t) rm ⟨#[]⟩ k wx ∧ wx.heap[w.heap.size]? = some (.cells #[.string ⟨#[]⟩, .string ⟨#[]⟩, .string ⟨#[]⟩, .string ⟨#[]⟩] 25 (0, 0)) ∧ Below w.heap.size w wx)
  case first =>
    go_region
    all_goals go_wp2_with fail
    all_goals go_meet
    all_goals rw [← HRM.out]
    all_goals exact ⟨⟨by simp, by simp [go_sem], by simp [go_sem], by simp [go_sem], by simp [go_sem]⟩, (Below.heap_alloc _ _ _ hg).trans HR1.out, (HB1.out.alloc HB1.out.size _).drew⟩
  obtain ⟨⟨z2, p0, p1, p2, p3⟩, HROW, hB2⟩ := hcut
  obtain ⟨W2, rfl⟩ : ∃ W2 : World, W2 = wc := ⟨_, rfl⟩
  have q0 := cell_of_row W2 w.heap.size 0 _ _ (0, 0) HROW
  have q1 := cell_of_row W2 w.heap.size 1 _ _ (0, 0) HROW
  have q2 := cell_of_row W2 w.heap.size 2 _ _ (0, 0) HROW
  have q3 := cell_of_row W2 w.heap.size 3 _ _ (0, 0) HROW
  have hfz : ∀ o, W2.frozen? ⟨w.heap.size, o, none⟩ = false := fun o => by simp [World.frozen?, HROW]
  simp at q0 q1 q2 q3
  have HW := Lib.hid hB2
  clear HROW hB2 HRM CE HR1 HB1
  go_wp2_with fail
  refine bodyPost_ret (v := patV ((h ++ ⟨#[0, 0, 0, 0]⟩) ++ t) rm ⟨#[]⟩ k) ?_ rfl ⟨rfl, (((HW.out.setCell (Nat.le_refl _) _).setCell (Nat.le_refl _) _).setCell (Nat.le_refl _) _).setCell (Nat.le_refl _) _⟩
  simp [results, Try.results95, go_sem, q0, q1, q2, q3]

set_option maxRecDepth 20000 in
theorem table_img (w : World) : Calls Try.prog 82 #[] w (GivesTab imgTable w) := by
  have hb := Below.refl w.heap.size w
  have H0 := Lib.hid exact_any
  have hm : riffMask ⟨#[82, 73, 70, 70]⟩ ⟨#[87, 69, 66, 80, 86, 80]⟩ = (exactP ⟨#[82, 73, 70, 70, 0, 0, 0, 0, 87, 69, 66, 80, 86, 80]⟩ ⟨#[105, 109, 97, 103, 101, 47, 119, 101, 98, 112]⟩ 4 8).m := by decide +kernel
  have HR : Hid (∀ w : World, Calls Try.prog 95 #[.string ⟨#[82, 73, 70, 70]⟩, .string ⟨#[87, 69, 66, 80, 86, 80]⟩, .string ⟨#[105, 109, 97, 103, 101, 47, 119, 101, 98, 112]⟩] w fun e w' => e = .returned (patV (exactP ⟨#[82, 73, 70, 70, 0, 0, 0, 0, 87, 69, 66, 80, 86, 80]⟩ ⟨#[105, 109, 97, 103, 101, 47, 119, 101, 98, 112]⟩ 4 8).b (exactP ⟨#[82, 73, 70, 70, 0, 0, 0, 0, 87, 69, 66, 80, 86, 80]⟩ ⟨#[105, 109, 97, 103, 101, 47, 119, 101, 98, 112]⟩ 4 8).m (exactP ⟨#[82, 73, 70, 70, 0, 0, 0, 0, 87, 69, 66, 80, 86, 80]⟩ ⟨#[105, 109, 97, 103, 101, 47, 119, 101, 98, 112]⟩ 4 8).k (exactP ⟨#[82, 73, 70, 70, 0, 0, 0, 0, 87, 69, 66, 80, 86, 80]⟩ ⟨#[105, 109, 97, 103, 101, 47, 119, 101, 98, 112]⟩ 4 8).t) ∧ Below w.heap.size w w') := Lib.hid (fun w => by
    rw [← hm]
    exact riff_any ⟨#[82, 73, 70, 70]⟩ ⟨#[87, 69, 66, 80, 86, 80]⟩ ⟨#[105, 109, 97, 103, 101, 47, 119, 101, 98, 112]⟩ w (by decide) (by decide))
  clear hm
  go_enter Try.func82, Try.ntmps82
  go_wp2_with (first | (go_at_call 94; (with_reducible refine (H0.out _ _ _ (by decide)).mono ?_); rintro e w' ⟨rfl, hb2⟩; replace hb := below_trans hb hb2; clear hb2) | (go_at_call 95; (with_reducible refine (HR.out _).mono ?_); rintro e w' ⟨rfl, hb2⟩; replace hb := below_trans hb hb2; clear hb2))
  go_ret
  exact ⟨_, _, rfl, patsAt_new _ imgTable _, hb.alloc hb.size _⟩

theorem Table_img (w : World) : Calls Try.prog 56 #[] w (GivesTab imgTable w) := by
  go_enter Try.func56, Try.ntmps56
  go_wp2_with fail
  refine (table_img _).mono ?_
  rintro e w1 ⟨g, c, rfl, hp, hb⟩
  go_wp2_with fail
  go_ret
  exact ⟨_, _, rfl, hp, hb⟩

theorem imgFull : Fulls imgTable := by
  have h : ∀ p ∈ imgTable, p.full = true := by decide +kernel
  exact fun i hi => h _ (List.getElem_mem hi)

theorem kind_img (s : ByteArray) (w : World) (hs : s.size ≤ maxLen) :
    Calls Try.prog 83 #[.string s] w fun e w' => e = .returned (.string (typeP s imgTable)) ∧ Below w.heap.size w w' := by
  have HT := Lib.hid (fun (A : Option Addr) (c : Nat) (w : World) (hA : PatsAt w w.heap.size A imgTable) => Type_any s imgTable A c w hs imgFull.oks (by decide) hA)
  go_enter Try.func83, Try.ntmps83
  go_wp2_with fail
  refine (table_img _).mono ?_
  rintro e w1 ⟨g, c, rfl, hp, hb⟩
  have HP := Lib.hid hp
  have HB := Lib.hid hb
  clear hp hb
  go_wp2_with fail
  refine (HT.out _ _ _ HP.out).mono ?_
  rintro e w2 ⟨rfl, hb2⟩
  go_wp2_with fail
  go_ret
  exact ⟨rfl, HB.out.trans (hb2.mono HB.out.size)⟩

theorem Type_img (s : ByteArray) (w : World) (hs : s.size ≤ maxLen) :
    Calls Try.prog 58 #[.string s] w fun e w' => e = .returned (.string (typeP s imgTable)) ∧ Below w.heap.size w w' := by
  go_enter Try.func58, Try.ntmps58
  go_wp2_with (go_at_call 83; refine (kind_img _ _ hs).mono ?_; rintro e w' ⟨rfl, hb⟩)
  go_ret
  exact ⟨rfl, hb⟩

end Go.Proofs.Ytcpjokjfjhhndaa
