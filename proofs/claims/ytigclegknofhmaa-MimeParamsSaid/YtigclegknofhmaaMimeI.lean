/-
  Walks of package mime: a parameter.
-/
import Derived.Test.YtigclegknofhmaaMimeH
namespace Go.Proofs.Ytigclegknofhmaa
open Go.RowKit
set_option linter.unusedSimpArgs false
set_option linter.unusedVariables false

theorem lower_bt (l : List UInt8) : lowerB (bt l) = bt (lowerL l) := rfl

theorem Cur.far {w : World} {g : Nat} {s : ByteArray} {k : Nat} (h : Cur w g s k) {p : Addr} (hp : p.block ≠ g) (u : Value) : Cur (w.setCell p u) g s k := by
  unfold Cur at h ⊢
  simp [World.setCell, Array.getElem?_modify, hp, h]

theorem Moved.far {w w2 : World} {g : Nat} {s : ByteArray} {k : Nat} (h : Moved g s k w w2) {p : Addr} (hp : w.heap.size ≤ p.block) (hg : p.block ≠ g) (u : Value) : Moved g s k w (w2.setCell p u) :=
  ⟨h.1.far hg u, h.2.setCell (.inr hp) u⟩

theorem Moved.drew {w w2 : World} {g : Nat} {s : ByteArray} {k : Nat} (h : Moved g s k w w2) : Moved g s k w w2.drew := ⟨h.1, h.2.drew⟩

theorem Moved.below {w w1 w2 : World} {g : Nat} {s : ByteArray} {k : Nat} (h : Moved g s k w w1) (hb : Below w1.heap.size w1 w2) : Moved g s k w w2 :=
  ⟨h.1.below hb h.1.lt, h.2.trans (But.of_below hb)⟩

theorem Moved.self {w : World} {g : Nat} {s : ByteArray} {k : Nat} (h : Cur w g s k) : Moved g s k w w := ⟨h, But.refl _ _⟩

/-- A block that is no cursor stands. -/
theorem Moved.stands {w w2 : World} {g : Nat} {s : ByteArray} {k : Nat} (h : Moved g s k w w2) {i : Nat} {o : Obj} (hn : i ≠ g) (hi : w.heap[i]? = some o) : w2.heap[i]? = some o :=
  (h.2.block i (Array.getElem?_eq_some_iff.1 hi).1 (fun e => hn (by simpa using e))).trans hi

theorem end_drop (s : ByteArray) (k : Nat) (hk : k ≤ s.size) : decide (k = s.size) = (dropB s k).isEmpty := by
  have := dropB_len s k
  by_cases h : k = s.size
  · subst h
    rw [dropB_end]; simp
  · have hne : dropB s k ≠ [] := by
      intro he
      rw [he] at this
      simp at this
      omega
    simp [h, hne]

theorem valL_len2 (r : List UInt8) : (valL r).1.length ≤ r.length := by
  unfold valL
  split
  · have h1 := (readL_le r.tail).2
    rw [List.length_tail] at h1
    show (readL r.tail).1.length ≤ r.length
    omega
  · have h1 := tw_len nsemi r
    have h2 := trimEnd_le isWhite (r.takeWhile nsemi)
    show (trimEnd isWhite (r.takeWhile nsemi)).length ≤ r.length
    omega

set_option maxHeartbeats 1000000 in
set_option maxRecDepth 20000 in
theorem param_any (g : Nat) (s : ByteArray) (k : Nat) (w : World) (h : Cur w g s k) (hk : k ≤ s.size) (hs : s.size ≤ 100000) :
    Calls Try.prog 62 #[.pointer (some ⟨g, 0, none⟩)] w fun e w' => ∃ k2, k ≤ k2 ∧ k2 ≤ s.size ∧ dropB s k2 = (parmStep (dropB s k)).2.2.2 ∧
      e = .returned (.tuple #[.agg #[.string (bt (parmStep (dropB s k)).1), .string (bt (parmStep (dropB s k)).2.1)], .bool (parmStep (dropB s k)).2.2.1]) ∧ Moved g s k2 w w' := by
  have hsm : s.size ≤ maxLen := by unfold maxLen; omega
  have HW1 := Lib.hid (fun (w1 : World) (h1 : Cur w1 g s k) => while_drop 94 isWhite fnWhiteC g s k w1 h1 hk hsm)
  have HU := Lib.hid (fun (k1 : Nat) (w1 : World) (hk1 : k1 ≤ s.size) (h1 : Cur w1 g s k1) => until_drop ⟨#[59, 61]⟩ nname goes_name g s k1 w1 h1 hk1 hsm)
  have hgl := h.lt
  have HM0 := Lib.hid ((Moved.self h).alloc (.cells #[.string ⟨#[]⟩, .string ⟨#[]⟩] 54))
  have HR0 : Hid ((w.alloc (.cells #[.string ⟨#[]⟩, .string ⟨#[]⟩] 54)).heap[w.heap.size]? = some (.cells #[.string ⟨#[]⟩, .string ⟨#[]⟩] 54 (0, 0))) := Lib.hid (heap_alloc_new w _)
  have hgne : w.heap.size ≠ g := by omega
  obtain ⟨PS, hps⟩ : ∃ PS, parmStep (dropB s k) = PS := ⟨_, rfl⟩
  rw [hps]
  have HPD := Lib.hid hps
  clear h hps
  go_enter Try.func62, Try.ntmps62
  go_wp2_with fail
  generalize w.alloc (.cells #[.string ⟨#[]⟩, .string ⟨#[]⟩] 54) = W0 at *
  refine (HW1.out _ HM0.out.1).mono ?_
  rintro e w1 ⟨k1, t1, h1, h2, h3, rfl, hm1⟩
  have HM1 := Lib.hid (HM0.out.trans hm1)
  have HR1 := Lib.hid (hm1.stands hgne HR0.out)
  have HK1 := Lib.hid (And.intro h1 (And.intro h2 h3))
  clear hm1 h1 h2 h3
  go_wp2_with fail
  refine (HU.out k1 _ HK1.out.2.1 HM1.out.1).mono ?_
  rintro e w2 ⟨k2, h1, h2, h3, rfl, hm2⟩
  have HM2 := Lib.hid (HM1.out.trans hm2)
  have HR2 := Lib.hid (hm2.stands hgne HR1.out)
  have HK2 := Lib.hid (And.intro h1 (And.intro h2 h3))
  clear hm2 h1 h2 h3
  have hl1 := tw_len nname (dropB s k1)
  have hl2 := dropB_len s k1
  have HLO := Lib.hid (fun w => Lower_any (bt ((dropB s k1).takeWhile nname)) w (by rw [bt_size]; unfold maxLen; omega))
  rw [lower_bt] at HLO
  clear hl1 hl2
  go_wp2_with fail
  refine (HLO.out _).mono ?_
  rintro e w3 ⟨rfl, hb3⟩
  have HM3 := Lib.hid (HM2.out.below hb3)
  have HR3 : Hid (w3.heap[w.heap.size]? = some (.cells #[.string ⟨#[]⟩, .string ⟨#[]⟩] 54 (0, 0))) := Lib.hid ((hb3.block _ (Array.getElem?_eq_some_iff.1 HR2.out).1).trans HR2.out)
  clear hb3
  have hlen3 : w.heap.size < w3.heap.size := (Array.getElem?_eq_some_iff.1 HR3.out).1
  have hP : PS = (if (dropB s k2).head? = some 61 then (if (dropB s k2).tail = [] then (lowerL ((dropB s k1).takeWhile nname), [], false, [])
      else (lowerL ((dropB s k1).takeWhile nname), (valL (dropB s k2).tail).1, (valL (dropB s k2).tail).2.1 && tokL (lowerL ((dropB s k1).takeWhile nname)) && quoL (valL (dropB s k2).tail).1, (valL (dropB s k2).tail).2.2))
      else (lowerL ((dropB s k1).takeWhile nname), [], false, dropB s k2)) := by
    rw [← HPD.out]
    unfold parmStep
    dsimp only
    rw [← HK1.out.2.2, ← HK2.out.2.2]
  have HP := Lib.hid hP
  have hnl : (lowerL ((dropB s k1).takeWhile nname)).length ≤ 100000 := by
    have h1 := tw_len nname (dropB s k1)
    have h2 := dropB_len s k1
    unfold lowerL
    rw [List.length_map]
    omega
  clear hP HLO
  generalize lowerL ((dropB s k1).takeWhile nname) = N at *
  go_upto_region 3 with fail
  have HM4 := Lib.hid (HM3.out.alloc (.cells #[.string (bt N), .string ⟨#[]⟩] 54))
  have HR4 := Lib.hid (heap_old w3 (.cells #[.string (bt N), .string ⟨#[]⟩] 54) HR3.out)
  have HQ4 : Hid ((w3.alloc (.cells #[.string (bt N), .string ⟨#[]⟩] 54)).heap[w3.heap.size]? = some (.cells #[.string (bt N), .string ⟨#[]⟩] 54 (0, 0))) := Lib.hid (heap_alloc_new w3 _)
  have hqg : w3.heap.size ≠ g := by omega
  have hqr : w3.heap.size ≠ w.heap.size := by omega
  generalize hB : w3.heap.size = B at *
  generalize w3.alloc (.cells #[.string (bt N), .string ⟨#[]⟩] 54) = w4 at *
  clear hB HR3 HM3 HR2 HM2 HR1 HM1 HR0 HM0 HW1 HU
  by_cases h61 : (dropB s k2).head? = some 61
  · have HSK := Lib.hid (skip_drop 61 g s k2 w4 HM4.out.1 HK2.out.2.1 hsm h61)
    go_wp2_with fail
    refine HSK.out.mono ?_
    rintro e w5 ⟨rfl, hk3, hd3, hm5⟩
    have HM5 := Lib.hid (HM4.out.trans hm5)
    have HR5 := Lib.hid (hm5.stands hgne HR4.out)
    have HQ5 := Lib.hid (hm5.stands hqg HQ4.out)
    have HD3 := Lib.hid hd3
    have HEN := Lib.hid (End_any g s (k2 + 1) w5 hm5.1 hk3 hsm)
    rw [end_drop s (k2 + 1) hk3, hd3] at HEN
    clear hm5 HSK hd3
    by_cases hnil : (dropB s k2).tail = []
    · have HPS : Hid (PS = (N, [], false, [])) := Lib.hid (by rw [HP.out, if_pos h61, if_pos hnil])
      rw [hnil] at HEN
      have HN := Lib.hid hnil
      clear hnil
      go_wp2_with fail
      refine HEN.out.mono ?_
      rintro e w6 ⟨rfl, hd⟩
      have hm6 := moved_drew HM5.out.1 hd
      have HM6 := Lib.hid (HM5.out.trans hm6)
      have hR6 := hm6.stands hgne HR5.out
      have hQ6 := hm6.stands hqg HQ5.out
      have c0 : w6.cell? ⟨B, 0, none⟩ = some (.string (bt N)) := by rw [Lib.cell_of_heap hQ6]; rfl
      have c1 : w6.cell? ⟨B, 1, none⟩ = some (.string ⟨#[]⟩) := by rw [Lib.cell_of_heap hQ6]; rfl
      have r0 : w6.cell? ⟨w.heap.size, 0, none⟩ = some (.string ⟨#[]⟩) := by rw [Lib.cell_of_heap hR6]; rfl
      have r1 : w6.cell? ⟨w.heap.size, 1, none⟩ = some (.string ⟨#[]⟩) := by rw [Lib.cell_of_heap hR6]; rfl
      have rz : ∀ o, w6.frozen? ⟨w.heap.size, o, none⟩ = false := fun o => Lib.frozen_of_heap hR6 o
      clear hm6 hR6 hQ6 hd
      go_wp2_with fail
      refine bodyPost_ret (v := .tuple #[.agg #[.string (bt N), .string ⟨#[]⟩], .bool false]) ?_ rfl ?_
      · simp [results, Try.results62, go_sem, r0, r1]
      · refine ⟨k2 + 1, by have := HK1.out.1; have := HK2.out.1; omega, hk3, by rw [HPS.out, HD3.out, HN.out], by rw [HPS.out]; rfl, (HM6.out.far (by simp) hgne _).far (by simp) hgne _⟩
    · have HPS : Hid (PS = (N, (valL (dropB s k2).tail).1, (valL (dropB s k2).tail).2.1 && tokL N && quoL (valL (dropB s k2).tail).1, (valL (dropB s k2).tail).2.2)) := Lib.hid (by rw [HP.out, if_pos h61, if_neg hnil])
      have he : (dropB s k2).tail.isEmpty = false := by cases h : (dropB s k2).tail with | nil => exact absurd h hnil | cons a r => rfl
      rw [he] at HEN
      clear he hnil
      go_wp2_with fail
      refine HEN.out.mono ?_
      rintro e w6 ⟨rfl, hd⟩
      have hm6 := moved_drew HM5.out.1 hd
      have HM6 := Lib.hid (HM5.out.trans hm6)
      have HR6 := Lib.hid (hm6.stands hgne HR5.out)
      have HQ6 := Lib.hid (hm6.stands hqg HQ5.out)
      have HVA := Lib.hid (value_any g s (k2 + 1) w6 hm6.1 hk3 hs)
      rw [HD3.out] at HVA
      have hvl := valL_len2 (dropB s k2).tail
      have hdl := dropB_len s (k2 + 1)
      rw [HD3.out] at hdl
      have hvl2 : (valL (dropB s k2).tail).1.length ≤ 100000 := by omega
      clear hm6 hd HEN hvl hdl
      generalize valL (dropB s k2).tail = V at *
      obtain ⟨V1, ok, V3⟩ := V
      dsimp only at HVA HPS hvl2 ⊢
      go_wp2_with fail
      refine HVA.out.mono ?_
      rintro e w7 ⟨k4, h1, h2, h3, rfl, hm7⟩
      have HM7 := Lib.hid (HM6.out.trans hm7)
      have HR7 := Lib.hid (hm7.stands hgne HR6.out)
      have hQ7 := hm7.stands hqg HQ6.out
      have c0 : w7.cell? ⟨B, 0, none⟩ = some (.string (bt N)) := by rw [Lib.cell_of_heap hQ7]; rfl
      have c1 : w7.cell? ⟨B, 1, none⟩ = some (.string ⟨#[]⟩) := by rw [Lib.cell_of_heap hQ7]; rfl
      have cz : ∀ o, w7.frozen? ⟨B, o, none⟩ = false := fun o => Lib.frozen_of_heap hQ7 o
      have HK4 := Lib.hid (And.intro h1 (And.intro h2 h3))
      have HQ7 := Lib.hid hQ7
      clear hm7 h1 h2 h3 hQ7
      go_upto_region 7 with fail
      have HM8 := Lib.hid (HM7.out.far (p := ⟨B, 1, none⟩) (by show w.heap.size ≤ B; omega) hqg (.string (bt V1)))
      have hR8 : (w7.setCell ⟨B, 1, none⟩ (.string (bt V1))).heap[w.heap.size]? = some (.cells #[.string ⟨#[]⟩, .string ⟨#[]⟩] 54 (0, 0)) := by
        have := HR7.out
        simp [World.setCell, Array.getElem?_modify, hqr, this]
      have d0 : (w7.setCell ⟨B, 1, none⟩ (.string (bt V1))).cell? ⟨B, 0, none⟩ = some (.string (bt N)) := by simp [go_sem, c0]
      have d1 : (w7.setCell ⟨B, 1, none⟩ (.string (bt V1))).cell? ⟨B, 1, none⟩ = some (.string (bt V1)) := by simp [go_sem, c1]
      clear c0 c1 cz
      generalize w7.setCell ⟨B, 1, none⟩ (.string (bt V1)) = w8 at *
      have r0 : w8.cell? ⟨w.heap.size, 0, none⟩ = some (.string ⟨#[]⟩) := by rw [Lib.cell_of_heap hR8]; rfl
      have r1 : w8.cell? ⟨w.heap.size, 1, none⟩ = some (.string ⟨#[]⟩) := by rw [Lib.cell_of_heap hR8]; rfl
      have rz : ∀ o, w8.frozen? ⟨w.heap.size, o, none⟩ = false := fun o => Lib.frozen_of_heap hR8 o
      have HTK := Lib.hid (fun w => token_any (bt N) w (by rw [bt_size]; unfold maxLen; omega))
      have HAL := Lib.hid (fun w => All_list 53 isQuoted fnQuoted (bt V1) w (by rw [bt_size]; unfold maxLen; omega))
      rw [bt_list] at HTK HAL
      have HQL : Hid (quoL V1 = V1.all isQuoted) := Lib.hid rfl
      generalize tokL N = rt at *
      generalize quoL V1 = rq at *
      rw [← HQL.out] at HAL
      clear hR8 hnl hvl2 HQL HR7 HQ7
      have hqr2 : w.heap.size ≠ B := Ne.symm hqr
      have hfin : ∃ rv, rv = (ok && rt && rq) := ⟨_, rfl⟩
      obtain ⟨rv, hrv⟩ := hfin
      rw [← hrv] at HPS
      have HRV := Lib.hid hrv
      clear hrv HP
      cases ok
      · skip
        refine wp_region_N 13 (fun w' => w'.cell? ⟨B, 0, none⟩ = some (.string (bt N)) ∧ w'.cell? ⟨B, 1, none⟩ = some (.string (bt V1))) (by kernel_rfl) (by kernel_rfl) ⟨d0, d1⟩ ?_
        (refine NJ.take (i := 0) (v := ?_) rfl rfl (by kernel_rfl) (by kernel_rfl) (by kernel_rfl) (by kernel_rfl) (fun _ _ _ h => h) (Or.inl ⟨by rfl, ?_⟩) ?_; rotate_left; (focus (intro wS hSw; (try dsimp only at hSw); go_simp; first | done | with_reducible rfl)); (try simp only [Act.put, List.getElem_toArray, List.getElem_cons_zero, List.getElem_cons_succ, List.setIfInBounds_toArray, List.set_cons_zero, List.set_cons_succ]))
        (refine NJ.take (i := 1) (v := ?_) rfl rfl (by kernel_rfl) (by kernel_rfl) (by kernel_rfl) (by kernel_rfl) (fun _ _ _ h => h) (Or.inl ⟨by rfl, ?_⟩) ?_; rotate_left; (focus (intro wS hSw; (try dsimp only at hSw); go_simp; first | done | with_reducible rfl)); (try simp only [Act.put, List.getElem_toArray, List.getElem_cons_zero, List.getElem_cons_succ, List.setIfInBounds_toArray, List.set_cons_zero, List.set_cons_succ]))
        (refine NJ.take (i := 2) (v := ?_) rfl rfl (by kernel_rfl) (by kernel_rfl) (by kernel_rfl) (by kernel_rfl) (fun _ _ _ h => h) (Or.inl ⟨by rfl, ?_⟩) ?_; rotate_left; (focus (intro wS hSw; (try dsimp only at hSw); go_simp; first | done | with_reducible rfl)); (try simp only [Act.put, List.getElem_toArray, List.getElem_cons_zero, List.getElem_cons_succ, List.setIfInBounds_toArray, List.set_cons_zero, List.set_cons_succ]))
        (refine NJ.take (i := 3) (v := undef) rfl rfl (by kernel_rfl) (by kernel_rfl) (by kernel_rfl) (by kernel_rfl) (fun _ _ _ h => h) (Or.inr ⟨by rfl, rfl⟩) ?_; (try simp only [Act.put, List.getElem_toArray, List.getElem_cons_zero, List.getElem_cons_succ, List.setIfInBounds_toArray, List.set_cons_zero, List.set_cons_succ]))
        (refine NJ.take (i := 4) (v := undef) rfl rfl (by kernel_rfl) (by kernel_rfl) (by kernel_rfl) (by kernel_rfl) (fun _ _ _ h => h) (Or.inr ⟨by rfl, rfl⟩) ?_; (try simp only [Act.put, List.getElem_toArray, List.getElem_cons_zero, List.getElem_cons_succ, List.setIfInBounds_toArray, List.set_cons_zero, List.set_cons_succ]))
        (refine NJ.take (i := 5) (v := undef) rfl rfl (by kernel_rfl) (by kernel_rfl) (by kernel_rfl) (by kernel_rfl) (fun _ _ _ h => h) (Or.inr ⟨by rfl, rfl⟩) ?_; (try simp only [Act.put, List.getElem_toArray, List.getElem_cons_zero, List.getElem_cons_succ, List.setIfInBounds_toArray, List.set_cons_zero, List.set_cons_succ]))
        (refine NJ.take (i := 6) (v := ?_) rfl rfl (by kernel_rfl) (by kernel_rfl) (by kernel_rfl) (by kernel_rfl) (fun _ _ _ h => h) (Or.inl ⟨by rfl, ?_⟩) ?_; rotate_left; (focus (intro wS hSw; (try dsimp only at hSw); go_simp; first | done | with_reducible rfl)); (try simp only [Act.put, List.getElem_toArray, List.getElem_cons_zero, List.getElem_cons_succ, List.setIfInBounds_toArray, List.set_cons_zero, List.set_cons_succ]))
        (refine NJ.take (i := 7) (v := ?_) rfl rfl (by kernel_rfl) (by kernel_rfl) (by kernel_rfl) (by kernel_rfl) (fun _ _ _ h => h) (Or.inl ⟨by rfl, ?_⟩) ?_; rotate_left; (focus (intro wS hSw; (try dsimp only at hSw); go_simp; first | done | with_reducible rfl)); (try simp only [Act.put, List.getElem_toArray, List.getElem_cons_zero, List.getElem_cons_succ, List.setIfInBounds_toArray, List.set_cons_zero, List.set_cons_succ]))
        (refine NJ.take (i := 8) (v := undef) rfl rfl (by kernel_rfl) (by kernel_rfl) (by kernel_rfl) (by kernel_rfl) (fun _ _ _ h => h) (Or.inr ⟨by rfl, rfl⟩) ?_; (try simp only [Act.put, List.getElem_toArray, List.getElem_cons_zero, List.getElem_cons_succ, List.setIfInBounds_toArray, List.set_cons_zero, List.set_cons_succ]))
        (refine NJ.take (i := 9) (v := undef) rfl rfl (by kernel_rfl) (by kernel_rfl) (by kernel_rfl) (by kernel_rfl) (fun _ _ _ h => h) (Or.inr ⟨by rfl, rfl⟩) ?_; (try simp only [Act.put, List.getElem_toArray, List.getElem_cons_zero, List.getElem_cons_succ, List.setIfInBounds_toArray, List.set_cons_zero, List.set_cons_succ]))
        (refine NJ.take (i := 10) (v := ?_) rfl rfl (by kernel_rfl) (by kernel_rfl) (by kernel_rfl) (by kernel_rfl) (fun _ _ _ h => h) (Or.inl ⟨by rfl, ?_⟩) ?_; rotate_left; (focus (intro wS hSw; (try dsimp only at hSw); go_simp; first | done | with_reducible rfl)); (try simp only [Act.put, List.getElem_toArray, List.getElem_cons_zero, List.getElem_cons_succ, List.setIfInBounds_toArray, List.set_cons_zero, List.set_cons_succ]))
        (refine NJ.step (i := 11) rfl rfl (by kernel_rfl) (fun hSat K hK => ?_); go_simp; refine hK.out _ _ ?_ ?_; (focus (first | exact hSat | go_keep)); clear hK hSat K; (try simp only [Act.put, List.getElem_toArray, List.getElem_cons_zero, List.getElem_cons_succ, List.setIfInBounds_toArray, List.set_cons_zero, List.set_cons_succ]))
        (refine NJ.take (i := 12) (v := ?_) rfl rfl (by kernel_rfl) (by kernel_rfl) (by kernel_rfl) (by kernel_rfl) (fun _ _ _ h => h) (Or.inl ⟨by rfl, ?_⟩) ?_; rotate_left; (focus (intro wS hSw; (try dsimp only at hSw); go_simp; first | done | with_reducible rfl)); (try simp only [Act.put, List.getElem_toArray, List.getElem_cons_zero, List.getElem_cons_succ, List.setIfInBounds_toArray, List.set_cons_zero, List.set_cons_succ]))
        refine NJ.done (by kernel_rfl) (fun hSat => ?_)
        clear hSat
        go_wp2_with fail
        refine bodyPost_ret (v := .tuple #[.agg #[.string (bt N), .string (bt V1)], .bool false]) ?_ rfl ?_
        · simp [results, Try.results62, go_sem, r0, r1]
        · exact ⟨k4, by have := HK1.out.1; have := HK2.out.1; have := HK4.out.1; omega, HK4.out.2.1, (by rw [HPS.out]; exact HK4.out.2.2), (by rw [HPS.out, HRV.out]; simp), ((HM8.out.far (by simp) hgne _).far (by simp) hgne _).drew⟩
      · cases rt
        · skip
          refine wp_region_N 13 (fun w' => w'.cell? ⟨B, 0, none⟩ = some (.string (bt N)) ∧ w'.cell? ⟨B, 1, none⟩ = some (.string (bt V1))) (by kernel_rfl) (by kernel_rfl) ⟨d0, d1⟩ ?_
          (refine NJ.take (i := 0) (v := ?_) rfl rfl (by kernel_rfl) (by kernel_rfl) (by kernel_rfl) (by kernel_rfl) (fun _ _ _ h => h) (Or.inl ⟨by rfl, ?_⟩) ?_; rotate_left; (focus (intro wS hSw; (try dsimp only at hSw); go_simp; first | done | with_reducible rfl)); (try simp only [Act.put, List.getElem_toArray, List.getElem_cons_zero, List.getElem_cons_succ, List.setIfInBounds_toArray, List.set_cons_zero, List.set_cons_succ]))
          (refine NJ.take (i := 1) (v := ?_) rfl rfl (by kernel_rfl) (by kernel_rfl) (by kernel_rfl) (by kernel_rfl) (fun _ _ _ h => h) (Or.inl ⟨by rfl, ?_⟩) ?_; rotate_left; (focus (intro wS hSw; (try dsimp only at hSw); go_simp; first | done | with_reducible rfl)); (try simp only [Act.put, List.getElem_toArray, List.getElem_cons_zero, List.getElem_cons_succ, List.setIfInBounds_toArray, List.set_cons_zero, List.set_cons_succ]))
          (refine NJ.take (i := 2) (v := ?_) rfl rfl (by kernel_rfl) (by kernel_rfl) (by kernel_rfl) (by kernel_rfl) (fun _ _ _ h => h) (Or.inl ⟨by rfl, ?_⟩) ?_; rotate_left; (focus (intro wS hSw; (try dsimp only at hSw); go_simp; first | done | with_reducible rfl)); (try simp only [Act.put, List.getElem_toArray, List.getElem_cons_zero, List.getElem_cons_succ, List.setIfInBounds_toArray, List.set_cons_zero, List.set_cons_succ]))
          (refine NJ.take (i := 3) (v := ?_) rfl rfl (by kernel_rfl) (by kernel_rfl) (by kernel_rfl) (by kernel_rfl) (fun _ _ _ h => h) (Or.inl ⟨by rfl, ?_⟩) ?_; rotate_left; (focus (intro wS hSw; (try dsimp only at hSw); go_simp; first | done | with_reducible rfl)); (try simp only [Act.put, List.getElem_toArray, List.getElem_cons_zero, List.getElem_cons_succ, List.setIfInBounds_toArray, List.set_cons_zero, List.set_cons_succ]))
          (refine NJ.take (i := 4) (v := ?_) rfl rfl (by kernel_rfl) (by kernel_rfl) (by kernel_rfl) (by kernel_rfl) (fun _ _ _ h => h) (Or.inl ⟨by rfl, ?_⟩) ?_; rotate_left; (focus (intro wS hSw; (try dsimp only at hSw); go_simp; first | done | with_reducible rfl)); (try simp only [Act.put, List.getElem_toArray, List.getElem_cons_zero, List.getElem_cons_succ, List.setIfInBounds_toArray, List.set_cons_zero, List.set_cons_succ]))
          (refine NJ.step (i := 5) rfl rfl (by kernel_rfl) (fun hSat K hK => ?_); go_simp; (go_at_call 61; (with_reducible refine (HTK.out _).mono ?_); rintro e w' ⟨rfl, rfl⟩); go_wp2_with fail; refine hK.out _ _ ?_ ?_; (focus (exact hSat)); clear hK hSat K; (try simp only [Act.put, List.getElem_toArray, List.getElem_cons_zero, List.getElem_cons_succ, List.setIfInBounds_toArray, List.set_cons_zero, List.set_cons_succ]))
          (refine NJ.take (i := 6) (v := ?_) rfl rfl (by kernel_rfl) (by kernel_rfl) (by kernel_rfl) (by kernel_rfl) (fun _ _ _ h => h) (Or.inl ⟨by rfl, ?_⟩) ?_; rotate_left; (focus (intro wS hSw; (try dsimp only at hSw); go_simp; first | done | with_reducible rfl)); (try simp only [Act.put, List.getElem_toArray, List.getElem_cons_zero, List.getElem_cons_succ, List.setIfInBounds_toArray, List.set_cons_zero, List.set_cons_succ]))
          (refine NJ.take (i := 7) (v := ?_) rfl rfl (by kernel_rfl) (by kernel_rfl) (by kernel_rfl) (by kernel_rfl) (fun _ _ _ h => h) (Or.inl ⟨by rfl, ?_⟩) ?_; rotate_left; (focus (intro wS hSw; (try dsimp only at hSw); go_simp; first | done | with_reducible rfl)); (try simp only [Act.put, List.getElem_toArray, List.getElem_cons_zero, List.getElem_cons_succ, List.setIfInBounds_toArray, List.set_cons_zero, List.set_cons_succ]))
          (refine NJ.take (i := 8) (v := undef) rfl rfl (by kernel_rfl) (by kernel_rfl) (by kernel_rfl) (by kernel_rfl) (fun _ _ _ h => h) (Or.inr ⟨by rfl, rfl⟩) ?_; (try simp only [Act.put, List.getElem_toArray, List.getElem_cons_zero, List.getElem_cons_succ, List.setIfInBounds_toArray, List.set_cons_zero, List.set_cons_succ]))
          (refine NJ.take (i := 9) (v := undef) rfl rfl (by kernel_rfl) (by kernel_rfl) (by kernel_rfl) (by kernel_rfl) (fun _ _ _ h => h) (Or.inr ⟨by rfl, rfl⟩) ?_; (try simp only [Act.put, List.getElem_toArray, List.getElem_cons_zero, List.getElem_cons_succ, List.setIfInBounds_toArray, List.set_cons_zero, List.set_cons_succ]))
          (refine NJ.take (i := 10) (v := ?_) rfl rfl (by kernel_rfl) (by kernel_rfl) (by kernel_rfl) (by kernel_rfl) (fun _ _ _ h => h) (Or.inl ⟨by rfl, ?_⟩) ?_; rotate_left; (focus (intro wS hSw; (try dsimp only at hSw); go_simp; first | done | with_reducible rfl)); (try simp only [Act.put, List.getElem_toArray, List.getElem_cons_zero, List.getElem_cons_succ, List.setIfInBounds_toArray, List.set_cons_zero, List.set_cons_succ]))
          (refine NJ.step (i := 11) rfl rfl (by kernel_rfl) (fun hSat K hK => ?_); go_simp; refine hK.out _ _ ?_ ?_; (focus (first | exact hSat | go_keep)); clear hK hSat K; (try simp only [Act.put, List.getElem_toArray, List.getElem_cons_zero, List.getElem_cons_succ, List.setIfInBounds_toArray, List.set_cons_zero, List.set_cons_succ]))
          (refine NJ.take (i := 12) (v := ?_) rfl rfl (by kernel_rfl) (by kernel_rfl) (by kernel_rfl) (by kernel_rfl) (fun _ _ _ h => h) (Or.inl ⟨by rfl, ?_⟩) ?_; rotate_left; (focus (intro wS hSw; (try dsimp only at hSw); go_simp; first | done | with_reducible rfl)); (try simp only [Act.put, List.getElem_toArray, List.getElem_cons_zero, List.getElem_cons_succ, List.setIfInBounds_toArray, List.set_cons_zero, List.set_cons_succ]))
          refine NJ.done (by kernel_rfl) (fun hSat => ?_)
          clear hSat
          go_wp2_with fail
          refine bodyPost_ret (v := .tuple #[.agg #[.string (bt N), .string (bt V1)], .bool false]) ?_ rfl ?_
          · simp [results, Try.results62, go_sem, r0, r1]
          · exact ⟨k4, by have := HK1.out.1; have := HK2.out.1; have := HK4.out.1; omega, HK4.out.2.1, (by rw [HPS.out]; exact HK4.out.2.2), (by rw [HPS.out, HRV.out]; simp), ((HM8.out.far (by simp) hgne _).far (by simp) hgne _).drew⟩
        · skip
          refine wp_region_N 13 (fun w' => w'.cell? ⟨B, 0, none⟩ = some (.string (bt N)) ∧ w'.cell? ⟨B, 1, none⟩ = some (.string (bt V1))) (by kernel_rfl) (by kernel_rfl) ⟨d0, d1⟩ ?_
          (refine NJ.take (i := 0) (v := ?_) rfl rfl (by kernel_rfl) (by kernel_rfl) (by kernel_rfl) (by kernel_rfl) (fun _ _ _ h => h) (Or.inl ⟨by rfl, ?_⟩) ?_; rotate_left; (focus (intro wS hSw; (try dsimp only at hSw); go_simp; first | done | with_reducible rfl)); (try simp only [Act.put, List.getElem_toArray, List.getElem_cons_zero, List.getElem_cons_succ, List.setIfInBounds_toArray, List.set_cons_zero, List.set_cons_succ]))
          (refine NJ.take (i := 1) (v := ?_) rfl rfl (by kernel_rfl) (by kernel_rfl) (by kernel_rfl) (by kernel_rfl) (fun _ _ _ h => h) (Or.inl ⟨by rfl, ?_⟩) ?_; rotate_left; (focus (intro wS hSw; (try dsimp only at hSw); go_simp; first | done | with_reducible rfl)); (try simp only [Act.put, List.getElem_toArray, List.getElem_cons_zero, List.getElem_cons_succ, List.setIfInBounds_toArray, List.set_cons_zero, List.set_cons_succ]))
          (refine NJ.take (i := 2) (v := ?_) rfl rfl (by kernel_rfl) (by kernel_rfl) (by kernel_rfl) (by kernel_rfl) (fun _ _ _ h => h) (Or.inl ⟨by rfl, ?_⟩) ?_; rotate_left; (focus (intro wS hSw; (try dsimp only at hSw); go_simp; first | done | with_reducible rfl)); (try simp only [Act.put, List.getElem_toArray, List.getElem_cons_zero, List.getElem_cons_succ, List.setIfInBounds_toArray, List.set_cons_zero, List.set_cons_succ]))
          (refine NJ.take (i := 3) (v := ?_) rfl rfl (by kernel_rfl) (by kernel_rfl) (by kernel_rfl) (by kernel_rfl) (fun _ _ _ h => h) (Or.inl ⟨by rfl, ?_⟩) ?_; rotate_left; (focus (intro wS hSw; (try dsimp only at hSw); go_simp; first | done | with_reducible rfl)); (try simp only [Act.put, List.getElem_toArray, List.getElem_cons_zero, List.getElem_cons_succ, List.setIfInBounds_toArray, List.set_cons_zero, List.set_cons_succ]))
          (refine NJ.take (i := 4) (v := ?_) rfl rfl (by kernel_rfl) (by kernel_rfl) (by kernel_rfl) (by kernel_rfl) (fun _ _ _ h => h) (Or.inl ⟨by rfl, ?_⟩) ?_; rotate_left; (focus (intro wS hSw; (try dsimp only at hSw); go_simp; first | done | with_reducible rfl)); (try simp only [Act.put, List.getElem_toArray, List.getElem_cons_zero, List.getElem_cons_succ, List.setIfInBounds_toArray, List.set_cons_zero, List.set_cons_succ]))
          (refine NJ.step (i := 5) rfl rfl (by kernel_rfl) (fun hSat K hK => ?_); go_simp; (go_at_call 61; (with_reducible refine (HTK.out _).mono ?_); rintro e w' ⟨rfl, rfl⟩); go_wp2_with fail; refine hK.out _ _ ?_ ?_; (focus (exact hSat)); clear hK hSat K; (try simp only [Act.put, List.getElem_toArray, List.getElem_cons_zero, List.getElem_cons_succ, List.setIfInBounds_toArray, List.set_cons_zero, List.set_cons_succ]))
          (refine NJ.take (i := 6) (v := ?_) rfl rfl (by kernel_rfl) (by kernel_rfl) (by kernel_rfl) (by kernel_rfl) (fun _ _ _ h => h) (Or.inl ⟨by rfl, ?_⟩) ?_; rotate_left; (focus (intro wS hSw; (try dsimp only at hSw); go_simp; first | done | with_reducible rfl)); (try simp only [Act.put, List.getElem_toArray, List.getElem_cons_zero, List.getElem_cons_succ, List.setIfInBounds_toArray, List.set_cons_zero, List.set_cons_succ]))
          (refine NJ.take (i := 7) (v := ?_) rfl rfl (by kernel_rfl) (by kernel_rfl) (by kernel_rfl) (by kernel_rfl) (fun _ _ _ h => h) (Or.inl ⟨by rfl, ?_⟩) ?_; rotate_left; (focus (intro wS hSw; (try dsimp only at hSw); go_simp; first | done | with_reducible rfl)); (try simp only [Act.put, List.getElem_toArray, List.getElem_cons_zero, List.getElem_cons_succ, List.setIfInBounds_toArray, List.set_cons_zero, List.set_cons_succ]))
          (refine NJ.take (i := 8) (v := ?_) rfl rfl (by kernel_rfl) (by kernel_rfl) (by kernel_rfl) (by kernel_rfl) (fun _ _ _ h => h) (Or.inl ⟨by rfl, ?_⟩) ?_; rotate_left; (focus (intro wS hSw; (try dsimp only at hSw); go_simp; first | done | with_reducible rfl)); (try simp only [Act.put, List.getElem_toArray, List.getElem_cons_zero, List.getElem_cons_succ, List.setIfInBounds_toArray, List.set_cons_zero, List.set_cons_succ]))
          (refine NJ.step (i := 9) rfl rfl (by kernel_rfl) (fun hSat K hK => ?_); go_simp; (go_at_call 48; (with_reducible refine (HAL.out _).mono ?_); rintro e w' ⟨rfl, rfl⟩); go_wp2_with fail; refine hK.out _ _ ?_ ?_; (focus (exact hSat)); clear hK hSat K; (try simp only [Act.put, List.getElem_toArray, List.getElem_cons_zero, List.getElem_cons_succ, List.setIfInBounds_toArray, List.set_cons_zero, List.set_cons_succ]))
          (refine NJ.take (i := 10) (v := ?_) rfl rfl (by kernel_rfl) (by kernel_rfl) (by kernel_rfl) (by kernel_rfl) (fun _ _ _ h => h) (Or.inl ⟨by rfl, ?_⟩) ?_; rotate_left; (focus (intro wS hSw; (try dsimp only at hSw); go_simp; first | done | with_reducible rfl)); (try simp only [Act.put, List.getElem_toArray, List.getElem_cons_zero, List.getElem_cons_succ, List.setIfInBounds_toArray, List.set_cons_zero, List.set_cons_succ]))
          (refine NJ.step (i := 11) rfl rfl (by kernel_rfl) (fun hSat K hK => ?_); go_simp; refine hK.out _ _ ?_ ?_; (focus (first | exact hSat | go_keep)); clear hK hSat K; (try simp only [Act.put, List.getElem_toArray, List.getElem_cons_zero, List.getElem_cons_succ, List.setIfInBounds_toArray, List.set_cons_zero, List.set_cons_succ]))
          (refine NJ.take (i := 12) (v := ?_) rfl rfl (by kernel_rfl) (by kernel_rfl) (by kernel_rfl) (by kernel_rfl) (fun _ _ _ h => h) (Or.inl ⟨by rfl, ?_⟩) ?_; rotate_left; (focus (intro wS hSw; (try dsimp only at hSw); go_simp; first | done | with_reducible rfl)); (try simp only [Act.put, List.getElem_toArray, List.getElem_cons_zero, List.getElem_cons_succ, List.setIfInBounds_toArray, List.set_cons_zero, List.set_cons_succ]))
          refine NJ.done (by kernel_rfl) (fun hSat => ?_)
          clear hSat
          go_wp2_with fail
          refine bodyPost_ret (v := .tuple #[.agg #[.string (bt N), .string (bt V1)], .bool rq]) ?_ rfl ?_
          · simp [results, Try.results62, go_sem, r0, r1]
          · exact ⟨k4, by have := HK1.out.1; have := HK2.out.1; have := HK4.out.1; omega, HK4.out.2.1, (by rw [HPS.out]; exact HK4.out.2.2), (by rw [HPS.out, HRV.out]; simp), ((HM8.out.far (by simp) hgne _).far (by simp) hgne _).drew⟩
  · have HSK := Lib.hid (skip_none 61 g s k2 w4 HM4.out.1 HK2.out.2.1 hsm h61)
    have HPS : Hid (PS = (N, [], false, dropB s k2)) := Lib.hid (by rw [HP.out, if_neg h61])
    go_wp2_with fail
    refine HSK.out.mono ?_
    rintro e w5 ⟨rfl, hm5⟩
    have HM5 := Lib.hid (HM4.out.trans hm5)
    have hR5 := hm5.stands hgne HR4.out
    have hQ5 := hm5.stands hqg HQ4.out
    have c0 : w5.cell? ⟨B, 0, none⟩ = some (.string (bt N)) := by rw [Lib.cell_of_heap hQ5]; rfl
    have c1 : w5.cell? ⟨B, 1, none⟩ = some (.string ⟨#[]⟩) := by rw [Lib.cell_of_heap hQ5]; rfl
    have r0 : w5.cell? ⟨w.heap.size, 0, none⟩ = some (.string ⟨#[]⟩) := by rw [Lib.cell_of_heap hR5]; rfl
    have r1 : w5.cell? ⟨w.heap.size, 1, none⟩ = some (.string ⟨#[]⟩) := by rw [Lib.cell_of_heap hR5]; rfl
    have rz : ∀ o, w5.frozen? ⟨w.heap.size, o, none⟩ = false := fun o => Lib.frozen_of_heap hR5 o
    clear hm5 hR5 hQ5
    go_wp2_with fail
    refine bodyPost_ret (v := .tuple #[.agg #[.string (bt N), .string ⟨#[]⟩], .bool false]) ?_ rfl ?_
    · simp [results, Try.results62, go_sem, r0, r1]
    · refine ⟨k2, by have := HK1.out.1; have := HK2.out.1; omega, HK2.out.2.1, by rw [HPS.out], by rw [HPS.out]; rfl, (HM5.out.far (by simp) hgne _).far (by simp) hgne _⟩

end Go.Proofs.Ytigclegknofhmaa
