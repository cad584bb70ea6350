/-
  Lemmas of this claim, part 7: the texts MimeI, MimeLen, MimeJ, one behind the other.
-/
import Derived.Test.YtcbhkcdphbffpaaGreatDoorM6

namespace Go.Proofs.YtcbhkcdphbffpaaGreatDoor
open Go.RowKit
set_option linter.unusedSimpArgs false
set_option linter.unusedVariables false

theorem lower_bt (l : List UInt8) : lowerB (bt l) = bt (lowerL l) := rfl

theorem Cur.far {w : World} {g : Nat} {s : ByteArray} {k : Nat} (h : Cur w g s k) {p : Addr} (hp : p.block ≠ g) (u : Value) : Cur (w.setCell p u) g s k := by
  unfold Cur at h ⊢
  simp [World.setCell, Array.getElem?_modify, hp, h]

theorem Moved.far {w w2 : World} {g : Nat} {s : ByteArray} {k : Nat} (h : Moved g s k w w2) {p : Addr} (hp : w.heap.size ≤ p.block) (hg : p.block ≠ g) (u : Value) : Moved g s k w (w2.setCell p u) :=
  ⟨h.1.far hg u, h.2.setCell (.inr hp) u⟩

theorem Moved.drew {w w2 : World} {g : Nat} {s : ByteArray} {k : Nat} (h : Moved g s k w w2) : Moved g s k w w2.drew := ⟨h.1, h.2.drew⟩

theorem Moved.below {w w1 w2 : World} {g : Nat} {s : ByteArray} {k : Nat} (h : Moved g s k w w1) (hb : Below w1.heap.size w1 w2) : Moved g s k w w2 :=
  ⟨h.1.below hb h.1.lt, h.2.trans (But.of_below hb)⟩

theorem Moved.self {w : World} {g : Nat} {s : ByteArray} {k : Nat} (h : Cur w g s k) : Moved g s k w w := ⟨h, But.refl _ _⟩

/-- A block that is no cursor stands. -/
theorem Moved.stands {w w2 : World} {g : Nat} {s : ByteArray} {k : Nat} (h : Moved g s k w w2) {i : Nat} {o : Obj} (hn : i ≠ g) (hi : w.heap[i]? = some o) : w2.heap[i]? = some o :=
  (h.2.block i (Array.getElem?_eq_some_iff.1 hi).1 (fun e => hn (by simpa using e))).trans hi

theorem end_drop (s : ByteArray) (k : Nat) (hk : k ≤ s.size) : decide (k = s.size) = (dropB s k).isEmpty := by
  have := dropB_len s k
  by_cases h : k = s.size
  · subst h
    rw [dropB_end]; simp
  · have hne : dropB s k ≠ [] := by
      intro he
      rw [he] at this
      simp at this
      omega
    simp [h, hne]

theorem valL_len2 (r : List UInt8) : (valL r).1.length ≤ r.length := by
  unfold valL
  split
  · have h1 := (readL_le r.tail).2
    rw [List.length_tail] at h1
    show (readL r.tail).1.length ≤ r.length
    omega
  · have h1 := tw_len nsemi r
    have h2 := trimEnd_le isWhite (r.takeWhile nsemi)
    show (trimEnd isWhite (r.takeWhile nsemi)).length ≤ r.length
    omega

set_option maxHeartbeats 1000000 in
set_option maxRecDepth 20000 in
theorem param_any (g : Nat) (s : ByteArray) (k : Nat) (w : World) (h : Cur w g s k) (hk : k ≤ s.size) (hs : s.size ≤ 100000) :
    Calls Tryz.prog 182 #[.pointer (some ⟨g, 0, none⟩)] w fun e w' => ∃ k2, k ≤ k2 ∧ k2 ≤ s.size ∧ dropB s k2 = (parmStep (dropB s k)).2.2.2 ∧
      e = .returned (.tuple #[.agg #[.string (bt (parmStep (dropB s k)).1), .string (bt (parmStep (dropB s k)).2.1)], .bool (parmStep (dropB s k)).2.2.1]) ∧ Moved g s k2 w w' := by
  have hsm : s.size ≤ maxLen := by unfold maxLen; omega
  have HW1 := Lib.hid (fun (w1 : World) (h1 : Cur w1 g s k) => while_drop 199 isWhite fnWhiteC g s k w1 h1 hk hsm)
  have HU := Lib.hid (fun (k1 : Nat) (w1 : World) (hk1 : k1 ≤ s.size) (h1 : Cur w1 g s k1) => until_drop ⟨#[59, 61]⟩ nname goes_name g s k1 w1 h1 hk1 hsm)
  have hgl := h.lt
  have HM0 := Lib.hid ((Moved.self h).alloc (.cells #[.string ⟨#[]⟩, .string ⟨#[]⟩] 96))
  have HR0 : Hid ((w.alloc (.cells #[.string ⟨#[]⟩, .string ⟨#[]⟩] 96)).heap[w.heap.size]? = some (.cells #[.string ⟨#[]⟩, .string ⟨#[]⟩] 96 (0, 0))) := Lib.hid (heap_alloc_new w _)
  have hgne : w.heap.size ≠ g := by omega
  obtain ⟨PS, hps⟩ : ∃ PS, parmStep (dropB s k) = PS := ⟨_, rfl⟩
  rw [hps]
  have HPD := Lib.hid hps
  clear h hps
  go_enter Tryz.func182, Tryz.ntmps182
  go_wp2_with fail
  generalize w.alloc (.cells #[.string ⟨#[]⟩, .string ⟨#[]⟩] 96) = W0 at *
  refine (HW1.out _ HM0.out.1).mono ?_
  rintro e w1 ⟨k1, t1, h1, h2, h3, rfl, hm1⟩
  have HM1 := Lib.hid (HM0.out.trans hm1)
  have HR1 := Lib.hid (hm1.stands hgne HR0.out)
  have HK1 := Lib.hid (And.intro h1 (And.intro h2 h3))
  clear hm1 h1 h2 h3
  go_wp2_with fail
  refine (HU.out k1 _ HK1.out.2.1 HM1.out.1).mono ?_
  rintro e w2 ⟨k2, h1, h2, h3, rfl, hm2⟩
  have HM2 := Lib.hid (HM1.out.trans hm2)
  have HR2 := Lib.hid (hm2.stands hgne HR1.out)
  have HK2 := Lib.hid (And.intro h1 (And.intro h2 h3))
  clear hm2 h1 h2 h3
  have hl1 := tw_len nname (dropB s k1)
  have hl2 := dropB_len s k1
  have HLO := Lib.hid (fun w => Lower_any (bt ((dropB s k1).takeWhile nname)) w (by rw [bt_size]; unfold maxLen; omega))
  rw [lower_bt] at HLO
  clear hl1 hl2
  go_wp2_with fail
  refine (HLO.out _).mono ?_
  rintro e w3 ⟨rfl, hb3⟩
  have HM3 := Lib.hid (HM2.out.below hb3)
  have HR3 : Hid (w3.heap[w.heap.size]? = some (.cells #[.string ⟨#[]⟩, .string ⟨#[]⟩] 96 (0, 0))) := Lib.hid ((hb3.block _ (Array.getElem?_eq_some_iff.1 HR2.out).1).trans HR2.out)
  clear hb3
  have hlen3 : w.heap.size < w3.heap.size := (Array.getElem?_eq_some_iff.1 HR3.out).1
  have hP : PS = (if (dropB s k2).head? = some 61 then (if (dropB s k2).tail = [] then (lowerL ((dropB s k1).takeWhile nname), [], false, [])
      else (lowerL ((dropB s k1).takeWhile nname), (valL (dropB s k2).tail).1, (valL (dropB s k2).tail).2.1 && tokL (lowerL ((dropB s k1).takeWhile nname)) && quoL (valL (dropB s k2).tail).1, (valL (dropB s k2).tail).2.2))
      else (lowerL ((dropB s k1).takeWhile nname), [], false, dropB s k2)) := by
    rw [← HPD.out]
    unfold parmStep
    dsimp only
    rw [← HK1.out.2.2, ← HK2.out.2.2]
  have HP := Lib.hid hP
  have hnl : (lowerL ((dropB s k1).takeWhile nname)).length ≤ 100000 := by
    have h1 := tw_len nname (dropB s k1)
    have h2 := dropB_len s k1
    unfold lowerL
    rw [List.length_map]
    omega
  clear hP HLO
  generalize lowerL ((dropB s k1).takeWhile nname) = N at *
  go_upto_region 3 with fail
  have HM4 := Lib.hid (HM3.out.alloc (.cells #[.string (bt N), .string ⟨#[]⟩] 96))
  have HR4 := Lib.hid (heap_old w3 (.cells #[.string (bt N), .string ⟨#[]⟩] 96) HR3.out)
  have HQ4 : Hid ((w3.alloc (.cells #[.string (bt N), .string ⟨#[]⟩] 96)).heap[w3.heap.size]? = some (.cells #[.string (bt N), .string ⟨#[]⟩] 96 (0, 0))) := Lib.hid (heap_alloc_new w3 _)
  have hqg : w3.heap.size ≠ g := by omega
  have hqr : w3.heap.size ≠ w.heap.size := by omega
  generalize hB : w3.heap.size = B at *
  generalize w3.alloc (.cells #[.string (bt N), .string ⟨#[]⟩] 96) = w4 at *
  clear hB HR3 HM3 HR2 HM2 HR1 HM1 HR0 HM0 HW1 HU
  by_cases h61 : (dropB s k2).head? = some 61
  · have HSK := Lib.hid (skip_drop 61 g s k2 w4 HM4.out.1 HK2.out.2.1 hsm h61)
    go_wp2_with fail
    refine HSK.out.mono ?_
    rintro e w5 ⟨rfl, hk3, hd3, hm5⟩
    have HM5 := Lib.hid (HM4.out.trans hm5)
    have HR5 := Lib.hid (hm5.stands hgne HR4.out)
    have HQ5 := Lib.hid (hm5.stands hqg HQ4.out)
    have HD3 := Lib.hid hd3
    have HEN := Lib.hid (End_any g s (k2 + 1) w5 hm5.1 hk3 hsm)
    rw [end_drop s (k2 + 1) hk3, hd3] at HEN
    clear hm5 HSK hd3
    by_cases hnil : (dropB s k2).tail = []
    · have HPS : Hid (PS = (N, [], false, [])) := Lib.hid (by rw [HP.out, if_pos h61, if_pos hnil])
      rw [hnil] at HEN
      have HN := Lib.hid hnil
      clear hnil
      go_wp2_with fail
      refine HEN.out.mono ?_
      rintro e w6 ⟨rfl, hd⟩
      have hm6 := moved_drew HM5.out.1 hd
      have HM6 := Lib.hid (HM5.out.trans hm6)
      have hR6 := hm6.stands hgne HR5.out
      have hQ6 := hm6.stands hqg HQ5.out
      have c0 : w6.cell? ⟨B, 0, none⟩ = some (.string (bt N)) := by rw [Lib.cell_of_heap hQ6]; rfl
      have c1 : w6.cell? ⟨B, 1, none⟩ = some (.string ⟨#[]⟩) := by rw [Lib.cell_of_heap hQ6]; rfl
      have r0 : w6.cell? ⟨w.heap.size, 0, none⟩ = some (.string ⟨#[]⟩) := by rw [Lib.cell_of_heap hR6]; rfl
      have r1 : w6.cell? ⟨w.heap.size, 1, none⟩ = some (.string ⟨#[]⟩) := by rw [Lib.cell_of_heap hR6]; rfl
      have rz : ∀ o, w6.frozen? ⟨w.heap.size, o, none⟩ = false := fun o => Lib.frozen_of_heap hR6 o
      clear hm6 hR6 hQ6 hd
      go_wp2_with fail
      refine bodyPost_ret (v := .tuple #[.agg #[.string (bt N), .string ⟨#[]⟩], .bool false]) ?_ rfl ?_
      · simp [results, Tryz.results182, go_sem, r0, r1]
      · refine ⟨k2 + 1, by have := HK1.out.1; have := HK2.out.1; omega, hk3, by rw [HPS.out, HD3.out, HN.out], by rw [HPS.out]; rfl, (HM6.out.far (by simp) hgne _).far (by simp) hgne _⟩
    · have HPS : Hid (PS = (N, (valL (dropB s k2).tail).1, (valL (dropB s k2).tail).2.1 && tokL N && quoL (valL (dropB s k2).tail).1, (valL (dropB s k2).tail).2.2)) := Lib.hid (by rw [HP.out, if_pos h61, if_neg hnil])
      have he : (dropB s k2).tail.isEmpty = false := by cases h : (dropB s k2).tail with | nil => exact absurd h hnil | cons a r => rfl
      rw [he] at HEN
      clear he hnil
      go_wp2_with fail
      refine HEN.out.mono ?_
      rintro e w6 ⟨rfl, hd⟩
      have hm6 := moved_drew HM5.out.1 hd
      have HM6 := Lib.hid (HM5.out.trans hm6)
      have HR6 := Lib.hid (hm6.stands hgne HR5.out)
      have HQ6 := Lib.hid (hm6.stands hqg HQ5.out)
      have HVA := Lib.hid (value_any g s (k2 + 1) w6 hm6.1 hk3 hs)
      rw [HD3.out] at HVA
      have hvl := valL_len2 (dropB s k2).tail
      have hdl := dropB_len s (k2 + 1)
      rw [HD3.out] at hdl
      have hvl2 : (valL (dropB s k2).tail).1.length ≤ 100000 := by omega
      clear hm6 hd HEN hvl hdl
      generalize valL (dropB s k2).tail = V at *
      obtain ⟨V1, ok, V3⟩ := V
      dsimp only at HVA HPS hvl2 ⊢
      go_wp2_with fail
      refine HVA.out.mono ?_
      rintro e w7 ⟨k4, h1, h2, h3, rfl, hm7⟩
      have HM7 := Lib.hid (HM6.out.trans hm7)
      have HR7 := Lib.hid (hm7.stands hgne HR6.out)
      have hQ7 := hm7.stands hqg HQ6.out
      have c0 : w7.cell? ⟨B, 0, none⟩ = some (.string (bt N)) := by rw [Lib.cell_of_heap hQ7]; rfl
      have c1 : w7.cell? ⟨B, 1, none⟩ = some (.string ⟨#[]⟩) := by rw [Lib.cell_of_heap hQ7]; rfl
      have cz : ∀ o, w7.frozen? ⟨B, o, none⟩ = false := fun o => Lib.frozen_of_heap hQ7 o
      have HK4 := Lib.hid (And.intro h1 (And.intro h2 h3))
      have HQ7 := Lib.hid hQ7
      clear hm7 h1 h2 h3 hQ7
      go_upto_region 7 with fail
      have HM8 := Lib.hid (HM7.out.far (p := ⟨B, 1, none⟩) (by show w.heap.size ≤ B; omega) hqg (.string (bt V1)))
      have hR8 : (w7.setCell ⟨B, 1, none⟩ (.string (bt V1))).heap[w.heap.size]? = some (.cells #[.string ⟨#[]⟩, .string ⟨#[]⟩] 96 (0, 0)) := by
        have := HR7.out
        simp [World.setCell, Array.getElem?_modify, hqr, this]
      have d0 : (w7.setCell ⟨B, 1, none⟩ (.string (bt V1))).cell? ⟨B, 0, none⟩ = some (.string (bt N)) := by simp [go_sem, c0]
      have d1 : (w7.setCell ⟨B, 1, none⟩ (.string (bt V1))).cell? ⟨B, 1, none⟩ = some (.string (bt V1)) := by simp [go_sem, c1]
      clear c0 c1 cz
      generalize w7.setCell ⟨B, 1, none⟩ (.string (bt V1)) = w8 at *
      have r0 : w8.cell? ⟨w.heap.size, 0, none⟩ = some (.string ⟨#[]⟩) := by rw [Lib.cell_of_heap hR8]; rfl
      have r1 : w8.cell? ⟨w.heap.size, 1, none⟩ = some (.string ⟨#[]⟩) := by rw [Lib.cell_of_heap hR8]; rfl
      have rz : ∀ o, w8.frozen? ⟨w.heap.size, o, none⟩ = false := fun o => Lib.frozen_of_heap hR8 o
      have HTK := Lib.hid (fun w => token_any (bt N) w (by rw [bt_size]; unfold maxLen; omega))
      have HAL := Lib.hid (fun w => All_list 187 isQuoted fnQuoted (bt V1) w (by rw [bt_size]; unfold maxLen; omega))
      rw [bt_list] at HTK HAL
      have HQL : Hid (quoL V1 = V1.all isQuoted) := Lib.hid rfl
      generalize tokL N = rt at *
      generalize quoL V1 = rq at *
      rw [← HQL.out] at HAL
      clear hR8 hnl hvl2 HQL HR7 HQ7
      have hqr2 : w.heap.size ≠ B := Ne.symm hqr
      have hfin : ∃ rv, rv = (ok && rt && rq) := ⟨_, rfl⟩
      obtain ⟨rv, hrv⟩ := hfin
      rw [← hrv] at HPS
      have HRV := Lib.hid hrv
      clear hrv HP
      cases ok
      · skip
        refine wp_region_N 13 (fun w' => w'.cell? ⟨B, 0, none⟩ = some (.string (bt N)) ∧ w'.cell? ⟨B, 1, none⟩ = some (.string (bt V1))) (by kernel_rfl) (by kernel_rfl) ⟨d0, d1⟩ ?_
        (refine NJ.take (i := 0) (v := ?_) rfl rfl (by kernel_rfl) (by kernel_rfl) (by kernel_rfl) (by kernel_rfl) (fun _ _ _ h => h) (Or.inl ⟨by rfl, ?_⟩) ?_; rotate_left; (focus (intro wS hSw; (try dsimp only at hSw); go_simp; first | done | with_reducible rfl)); (try simp only [Act.put, List.getElem_toArray, List.getElem_cons_zero, List.getElem_cons_succ, List.setIfInBounds_toArray, List.set_cons_zero, List.set_cons_succ]))
        (refine NJ.take (i := 1) (v := ?_) rfl rfl (by kernel_rfl) (by kernel_rfl) (by kernel_rfl) (by kernel_rfl) (fun _ _ _ h => h) (Or.inl ⟨by rfl, ?_⟩) ?_; rotate_left; (focus (intro wS hSw; (try dsimp only at hSw); go_simp; first | done | with_reducible rfl)); (try simp only [Act.put, List.getElem_toArray, List.getElem_cons_zero, List.getElem_cons_succ, List.setIfInBounds_toArray, List.set_cons_zero, List.set_cons_succ]))
        (refine NJ.take (i := 2) (v := ?_) rfl rfl (by kernel_rfl) (by kernel_rfl) (by kernel_rfl) (by kernel_rfl) (fun _ _ _ h => h) (Or.inl ⟨by rfl, ?_⟩) ?_; rotate_left; (focus (intro wS hSw; (try dsimp only at hSw); go_simp; first | done | with_reducible rfl)); (try simp only [Act.put, List.getElem_toArray, List.getElem_cons_zero, List.getElem_cons_succ, List.setIfInBounds_toArray, List.set_cons_zero, List.set_cons_succ]))
        (refine NJ.take (i := 3) (v := undef) rfl rfl (by kernel_rfl) (by kernel_rfl) (by kernel_rfl) (by kernel_rfl) (fun _ _ _ h => h) (Or.inr ⟨by rfl, rfl⟩) ?_; (try simp only [Act.put, List.getElem_toArray, List.getElem_cons_zero, List.getElem_cons_succ, List.setIfInBounds_toArray, List.set_cons_zero, List.set_cons_succ]))
        (refine NJ.take (i := 4) (v := undef) rfl rfl (by kernel_rfl) (by kernel_rfl) (by kernel_rfl) (by kernel_rfl) (fun _ _ _ h => h) (Or.inr ⟨by rfl, rfl⟩) ?_; (try simp only [Act.put, List.getElem_toArray, List.getElem_cons_zero, List.getElem_cons_succ, List.setIfInBounds_toArray, List.set_cons_zero, List.set_cons_succ]))
        (refine NJ.take (i := 5) (v := undef) rfl rfl (by kernel_rfl) (by kernel_rfl) (by kernel_rfl) (by kernel_rfl) (fun _ _ _ h => h) (Or.inr ⟨by rfl, rfl⟩) ?_; (try simp only [Act.put, List.getElem_toArray, List.getElem_cons_zero, List.getElem_cons_succ, List.setIfInBounds_toArray, List.set_cons_zero, List.set_cons_succ]))
        (refine NJ.take (i := 6) (v := ?_) rfl rfl (by kernel_rfl) (by kernel_rfl) (by kernel_rfl) (by kernel_rfl) (fun _ _ _ h => h) (Or.inl ⟨by rfl, ?_⟩) ?_; rotate_left; (focus (intro wS hSw; (try dsimp only at hSw); go_simp; first | done | with_reducible rfl)); (try simp only [Act.put, List.getElem_toArray, List.getElem_cons_zero, List.getElem_cons_succ, List.setIfInBounds_toArray, List.set_cons_zero, List.set_cons_succ]))
        (refine NJ.take (i := 7) (v := ?_) rfl rfl (by kernel_rfl) (by kernel_rfl) (by kernel_rfl) (by kernel_rfl) (fun _ _ _ h => h) (Or.inl ⟨by rfl, ?_⟩) ?_; rotate_left; (focus (intro wS hSw; (try dsimp only at hSw); go_simp; first | done | with_reducible rfl)); (try simp only [Act.put, List.getElem_toArray, List.getElem_cons_zero, List.getElem_cons_succ, List.setIfInBounds_toArray, List.set_cons_zero, List.set_cons_succ]))
        (refine NJ.take (i := 8) (v := undef) rfl rfl (by kernel_rfl) (by kernel_rfl) (by kernel_rfl) (by kernel_rfl) (fun _ _ _ h => h) (Or.inr ⟨by rfl, rfl⟩) ?_; (try simp only [Act.put, List.getElem_toArray, List.getElem_cons_zero, List.getElem_cons_succ, List.setIfInBounds_toArray, List.set_cons_zero, List.set_cons_succ]))
        (refine NJ.take (i := 9) (v := undef) rfl rfl (by kernel_rfl) (by kernel_rfl) (by kernel_rfl) (by kernel_rfl) (fun _ _ _ h => h) (Or.inr ⟨by rfl, rfl⟩) ?_; (try simp only [Act.put, List.getElem_toArray, List.getElem_cons_zero, List.getElem_cons_succ, List.setIfInBounds_toArray, List.set_cons_zero, List.set_cons_succ]))
        (refine NJ.take (i := 10) (v := ?_) rfl rfl (by kernel_rfl) (by kernel_rfl) (by kernel_rfl) (by kernel_rfl) (fun _ _ _ h => h) (Or.inl ⟨by rfl, ?_⟩) ?_; rotate_left; (focus (intro wS hSw; (try dsimp only at hSw); go_simp; first | done | with_reducible rfl)); (try simp only [Act.put, List.getElem_toArray, List.getElem_cons_zero, List.getElem_cons_succ, List.setIfInBounds_toArray, List.set_cons_zero, List.set_cons_succ]))
        (refine NJ.step (i := 11) rfl rfl (by kernel_rfl) (fun hSat K hK => ?_); go_simp; refine hK.out _ _ ?_ ?_; (focus (first | exact hSat | go_keep)); clear hK hSat K; (try simp only [Act.put, List.getElem_toArray, List.getElem_cons_zero, List.getElem_cons_succ, List.setIfInBounds_toArray, List.set_cons_zero, List.set_cons_succ]))
        (refine NJ.take (i := 12) (v := ?_) rfl rfl (by kernel_rfl) (by kernel_rfl) (by kernel_rfl) (by kernel_rfl) (fun _ _ _ h => h) (Or.inl ⟨by rfl, ?_⟩) ?_; rotate_left; (focus (intro wS hSw; (try dsimp only at hSw); go_simp; first | done | with_reducible rfl)); (try simp only [Act.put, List.getElem_toArray, List.getElem_cons_zero, List.getElem_cons_succ, List.setIfInBounds_toArray, List.set_cons_zero, List.set_cons_succ]))
        refine NJ.done (by kernel_rfl) (fun hSat => ?_)
        clear hSat
        go_wp2_with fail
        refine bodyPost_ret (v := .tuple #[.agg #[.string (bt N), .string (bt V1)], .bool false]) ?_ rfl ?_
        · simp [results, Tryz.results182, go_sem, r0, r1]
        · exact ⟨k4, by have := HK1.out.1; have := HK2.out.1; have := HK4.out.1; omega, HK4.out.2.1, (by rw [HPS.out]; exact HK4.out.2.2), (by rw [HPS.out, HRV.out]; simp), ((HM8.out.far (by simp) hgne _).far (by simp) hgne _).drew⟩
      · cases rt
        · skip
          refine wp_region_N 13 (fun w' => w'.cell? ⟨B, 0, none⟩ = some (.string (bt N)) ∧ w'.cell? ⟨B, 1, none⟩ = some (.string (bt V1))) (by kernel_rfl) (by kernel_rfl) ⟨d0, d1⟩ ?_
          (refine NJ.take (i := 0) (v := ?_) rfl rfl (by kernel_rfl) (by kernel_rfl) (by kernel_rfl) (by kernel_rfl) (fun _ _ _ h => h) (Or.inl ⟨by rfl, ?_⟩) ?_; rotate_left; (focus (intro wS hSw; (try dsimp only at hSw); go_simp; first | done | with_reducible rfl)); (try simp only [Act.put, List.getElem_toArray, List.getElem_cons_zero, List.getElem_cons_succ, List.setIfInBounds_toArray, List.set_cons_zero, List.set_cons_succ]))
          (refine NJ.take (i := 1) (v := ?_) rfl rfl (by kernel_rfl) (by kernel_rfl) (by kernel_rfl) (by kernel_rfl) (fun _ _ _ h => h) (Or.inl ⟨by rfl, ?_⟩) ?_; rotate_left; (focus (intro wS hSw; (try dsimp only at hSw); go_simp; first | done | with_reducible rfl)); (try simp only [Act.put, List.getElem_toArray, List.getElem_cons_zero, List.getElem_cons_succ, List.setIfInBounds_toArray, List.set_cons_zero, List.set_cons_succ]))
          (refine NJ.take (i := 2) (v := ?_) rfl rfl (by kernel_rfl) (by kernel_rfl) (by kernel_rfl) (by kernel_rfl) (fun _ _ _ h => h) (Or.inl ⟨by rfl, ?_⟩) ?_; rotate_left; (focus (intro wS hSw; (try dsimp only at hSw); go_simp; first | done | with_reducible rfl)); (try simp only [Act.put, List.getElem_toArray, List.getElem_cons_zero, List.getElem_cons_succ, List.setIfInBounds_toArray, List.set_cons_zero, List.set_cons_succ]))
          (refine NJ.take (i := 3) (v := ?_) rfl rfl (by kernel_rfl) (by kernel_rfl) (by kernel_rfl) (by kernel_rfl) (fun _ _ _ h => h) (Or.inl ⟨by rfl, ?_⟩) ?_; rotate_left; (focus (intro wS hSw; (try dsimp only at hSw); go_simp; first | done | with_reducible rfl)); (try simp only [Act.put, List.getElem_toArray, List.getElem_cons_zero, List.getElem_cons_succ, List.setIfInBounds_toArray, List.set_cons_zero, List.set_cons_succ]))
          (refine NJ.take (i := 4) (v := ?_) rfl rfl (by kernel_rfl) (by kernel_rfl) (by kernel_rfl) (by kernel_rfl) (fun _ _ _ h => h) (Or.inl ⟨by rfl, ?_⟩) ?_; rotate_left; (focus (intro wS hSw; (try dsimp only at hSw); go_simp; first | done | with_reducible rfl)); (try simp only [Act.put, List.getElem_toArray, List.getElem_cons_zero, List.getElem_cons_succ, List.setIfInBounds_toArray, List.set_cons_zero, List.set_cons_succ]))
          (refine NJ.step (i := 5) rfl rfl (by kernel_rfl) (fun hSat K hK => ?_); go_simp; (go_at_call 181; (with_reducible refine (HTK.out _).mono ?_); rintro e w' ⟨rfl, rfl⟩); go_wp2_with fail; refine hK.out _ _ ?_ ?_; (focus (exact hSat)); clear hK hSat K; (try simp only [Act.put, List.getElem_toArray, List.getElem_cons_zero, List.getElem_cons_succ, List.setIfInBounds_toArray, List.set_cons_zero, List.set_cons_succ]))
          (refine NJ.take (i := 6) (v := ?_) rfl rfl (by kernel_rfl) (by kernel_rfl) (by kernel_rfl) (by kernel_rfl) (fun _ _ _ h => h) (Or.inl ⟨by rfl, ?_⟩) ?_; rotate_left; (focus (intro wS hSw; (try dsimp only at hSw); go_simp; first | done | with_reducible rfl)); (try simp only [Act.put, List.getElem_toArray, List.getElem_cons_zero, List.getElem_cons_succ, List.setIfInBounds_toArray, List.set_cons_zero, List.set_cons_succ]))
          (refine NJ.take (i := 7) (v := ?_) rfl rfl (by kernel_rfl) (by kernel_rfl) (by kernel_rfl) (by kernel_rfl) (fun _ _ _ h => h) (Or.inl ⟨by rfl, ?_⟩) ?_; rotate_left; (focus (intro wS hSw; (try dsimp only at hSw); go_simp; first | done | with_reducible rfl)); (try simp only [Act.put, List.getElem_toArray, List.getElem_cons_zero, List.getElem_cons_succ, List.setIfInBounds_toArray, List.set_cons_zero, List.set_cons_succ]))
          (refine NJ.take (i := 8) (v := undef) rfl rfl (by kernel_rfl) (by kernel_rfl) (by kernel_rfl) (by kernel_rfl) (fun _ _ _ h => h) (Or.inr ⟨by rfl, rfl⟩) ?_; (try simp only [Act.put, List.getElem_toArray, List.getElem_cons_zero, List.getElem_cons_succ, List.setIfInBounds_toArray, List.set_cons_zero, List.set_cons_succ]))
          (refine NJ.take (i := 9) (v := undef) rfl rfl (by kernel_rfl) (by kernel_rfl) (by kernel_rfl) (by kernel_rfl) (fun _ _ _ h => h) (Or.inr ⟨by rfl, rfl⟩) ?_; (try simp only [Act.put, List.getElem_toArray, List.getElem_cons_zero, List.getElem_cons_succ, List.setIfInBounds_toArray, List.set_cons_zero, List.set_cons_succ]))
          (refine NJ.take (i := 10) (v := ?_) rfl rfl (by kernel_rfl) (by kernel_rfl) (by kernel_rfl) (by kernel_rfl) (fun _ _ _ h => h) (Or.inl ⟨by rfl, ?_⟩) ?_; rotate_left; (focus (intro wS hSw; (try dsimp only at hSw); go_simp; first | done | with_reducible rfl)); (try simp only [Act.put, List.getElem_toArray, List.getElem_cons_zero, List.getElem_cons_succ, List.setIfInBounds_toArray, List.set_cons_zero, List.set_cons_succ]))
          (refine NJ.step (i := 11) rfl rfl (by kernel_rfl) (fun hSat K hK => ?_); go_simp; refine hK.out _ _ ?_ ?_; (focus (first | exact hSat | go_keep)); clear hK hSat K; (try simp only [Act.put, List.getElem_toArray, List.getElem_cons_zero, List.getElem_cons_succ, List.setIfInBounds_toArray, List.set_cons_zero, List.set_cons_succ]))
          (refine NJ.take (i := 12) (v := ?_) rfl rfl (by kernel_rfl) (by kernel_rfl) (by kernel_rfl) (by kernel_rfl) (fun _ _ _ h => h) (Or.inl ⟨by rfl, ?_⟩) ?_; rotate_left; (focus (intro wS hSw; (try dsimp only at hSw); go_simp; first | done | with_reducible rfl)); (try simp only [Act.put, List.getElem_toArray, List.getElem_cons_zero, List.getElem_cons_succ, List.setIfInBounds_toArray, List.set_cons_zero, List.set_cons_succ]))
          refine NJ.done (by kernel_rfl) (fun hSat => ?_)
          clear hSat
          go_wp2_with fail
          refine bodyPost_ret (v := .tuple #[.agg #[.string (bt N), .string (bt V1)], .bool false]) ?_ rfl ?_
          · simp [results, Tryz.results182, go_sem, r0, r1]
          · exact ⟨k4, by have := HK1.out.1; have := HK2.out.1; have := HK4.out.1; omega, HK4.out.2.1, (by rw [HPS.out]; exact HK4.out.2.2), (by rw [HPS.out, HRV.out]; simp), ((HM8.out.far (by simp) hgne _).far (by simp) hgne _).drew⟩
        · skip
          refine wp_region_N 13 (fun w' => w'.cell? ⟨B, 0, none⟩ = some (.string (bt N)) ∧ w'.cell? ⟨B, 1, none⟩ = some (.string (bt V1))) (by kernel_rfl) (by kernel_rfl) ⟨d0, d1⟩ ?_
          (refine NJ.take (i := 0) (v := ?_) rfl rfl (by kernel_rfl) (by kernel_rfl) (by kernel_rfl) (by kernel_rfl) (fun _ _ _ h => h) (Or.inl ⟨by rfl, ?_⟩) ?_; rotate_left; (focus (intro wS hSw; (try dsimp only at hSw); go_simp; first | done | with_reducible rfl)); (try simp only [Act.put, List.getElem_toArray, List.getElem_cons_zero, List.getElem_cons_succ, List.setIfInBounds_toArray, List.set_cons_zero, List.set_cons_succ]))
          (refine NJ.take (i := 1) (v := ?_) rfl rfl (by kernel_rfl) (by kernel_rfl) (by kernel_rfl) (by kernel_rfl) (fun _ _ _ h => h) (Or.inl ⟨by rfl, ?_⟩) ?_; rotate_left; (focus (intro wS hSw; (try dsimp only at hSw); go_simp; first | done | with_reducible rfl)); (try simp only [Act.put, List.getElem_toArray, List.getElem_cons_zero, List.getElem_cons_succ, List.setIfInBounds_toArray, List.set_cons_zero, List.set_cons_succ]))
          (refine NJ.take (i := 2) (v := ?_) rfl rfl (by kernel_rfl) (by kernel_rfl) (by kernel_rfl) (by kernel_rfl) (fun _ _ _ h => h) (Or.inl ⟨by rfl, ?_⟩) ?_; rotate_left; (focus (intro wS hSw; (try dsimp only at hSw); go_simp; first | done | with_reducible rfl)); (try simp only [Act.put, List.getElem_toArray, List.getElem_cons_zero, List.getElem_cons_succ, List.setIfInBounds_toArray, List.set_cons_zero, List.set_cons_succ]))
          (refine NJ.take (i := 3) (v := ?_) rfl rfl (by kernel_rfl) (by kernel_rfl) (by kernel_rfl) (by kernel_rfl) (fun _ _ _ h => h) (Or.inl ⟨by rfl, ?_⟩) ?_; rotate_left; (focus (intro wS hSw; (try dsimp only at hSw); go_simp; first | done | with_reducible rfl)); (try simp only [Act.put, List.getElem_toArray, List.getElem_cons_zero, List.getElem_cons_succ, List.setIfInBounds_toArray, List.set_cons_zero, List.set_cons_succ]))
          (refine NJ.take (i := 4) (v := ?_) rfl rfl (by kernel_rfl) (by kernel_rfl) (by kernel_rfl) (by kernel_rfl) (fun _ _ _ h => h) (Or.inl ⟨by rfl, ?_⟩) ?_; rotate_left; (focus (intro wS hSw; (try dsimp only at hSw); go_simp; first | done | with_reducible rfl)); (try simp only [Act.put, List.getElem_toArray, List.getElem_cons_zero, List.getElem_cons_succ, List.setIfInBounds_toArray, List.set_cons_zero, List.set_cons_succ]))
          (refine NJ.step (i := 5) rfl rfl (by kernel_rfl) (fun hSat K hK => ?_); go_simp; (go_at_call 181; (with_reducible refine (HTK.out _).mono ?_); rintro e w' ⟨rfl, rfl⟩); go_wp2_with fail; refine hK.out _ _ ?_ ?_; (focus (exact hSat)); clear hK hSat K; (try simp only [Act.put, List.getElem_toArray, List.getElem_cons_zero, List.getElem_cons_succ, List.setIfInBounds_toArray, List.set_cons_zero, List.set_cons_succ]))
          (refine NJ.take (i := 6) (v := ?_) rfl rfl (by kernel_rfl) (by kernel_rfl) (by kernel_rfl) (by kernel_rfl) (fun _ _ _ h => h) (Or.inl ⟨by rfl, ?_⟩) ?_; rotate_left; (focus (intro wS hSw; (try dsimp only at hSw); go_simp; first | done | with_reducible rfl)); (try simp only [Act.put, List.getElem_toArray, List.getElem_cons_zero, List.getElem_cons_succ, List.setIfInBounds_toArray, List.set_cons_zero, List.set_cons_succ]))
          (refine NJ.take (i := 7) (v := ?_) rfl rfl (by kernel_rfl) (by kernel_rfl) (by kernel_rfl) (by kernel_rfl) (fun _ _ _ h => h) (Or.inl ⟨by rfl, ?_⟩) ?_; rotate_left; (focus (intro wS hSw; (try dsimp only at hSw); go_simp; first | done | with_reducible rfl)); (try simp only [Act.put, List.getElem_toArray, List.getElem_cons_zero, List.getElem_cons_succ, List.setIfInBounds_toArray, List.set_cons_zero, List.set_cons_succ]))
          (refine NJ.take (i := 8) (v := ?_) rfl rfl (by kernel_rfl) (by kernel_rfl) (by kernel_rfl) (by kernel_rfl) (fun _ _ _ h => h) (Or.inl ⟨by rfl, ?_⟩) ?_; rotate_left; (focus (intro wS hSw; (try dsimp only at hSw); go_simp; first | done | with_reducible rfl)); (try simp only [Act.put, List.getElem_toArray, List.getElem_cons_zero, List.getElem_cons_succ, List.setIfInBounds_toArray, List.set_cons_zero, List.set_cons_succ]))
          (refine NJ.step (i := 9) rfl rfl (by kernel_rfl) (fun hSat K hK => ?_); go_simp; (go_at_call 186; (with_reducible refine (HAL.out _).mono ?_); rintro e w' ⟨rfl, rfl⟩); go_wp2_with fail; refine hK.out _ _ ?_ ?_; (focus (exact hSat)); clear hK hSat K; (try simp only [Act.put, List.getElem_toArray, List.getElem_cons_zero, List.getElem_cons_succ, List.setIfInBounds_toArray, List.set_cons_zero, List.set_cons_succ]))
          (refine NJ.take (i := 10) (v := ?_) rfl rfl (by kernel_rfl) (by kernel_rfl) (by kernel_rfl) (by kernel_rfl) (fun _ _ _ h => h) (Or.inl ⟨by rfl, ?_⟩) ?_; rotate_left; (focus (intro wS hSw; (try dsimp only at hSw); go_simp; first | done | with_reducible rfl)); (try simp only [Act.put, List.getElem_toArray, List.getElem_cons_zero, List.getElem_cons_succ, List.setIfInBounds_toArray, List.set_cons_zero, List.set_cons_succ]))
          (refine NJ.step (i := 11) rfl rfl (by kernel_rfl) (fun hSat K hK => ?_); go_simp; refine hK.out _ _ ?_ ?_; (focus (first | exact hSat | go_keep)); clear hK hSat K; (try simp only [Act.put, List.getElem_toArray, List.getElem_cons_zero, List.getElem_cons_succ, List.setIfInBounds_toArray, List.set_cons_zero, List.set_cons_succ]))
          (refine NJ.take (i := 12) (v := ?_) rfl rfl (by kernel_rfl) (by kernel_rfl) (by kernel_rfl) (by kernel_rfl) (fun _ _ _ h => h) (Or.inl ⟨by rfl, ?_⟩) ?_; rotate_left; (focus (intro wS hSw; (try dsimp only at hSw); go_simp; first | done | with_reducible rfl)); (try simp only [Act.put, List.getElem_toArray, List.getElem_cons_zero, List.getElem_cons_succ, List.setIfInBounds_toArray, List.set_cons_zero, List.set_cons_succ]))
          refine NJ.done (by kernel_rfl) (fun hSat => ?_)
          clear hSat
          go_wp2_with fail
          refine bodyPost_ret (v := .tuple #[.agg #[.string (bt N), .string (bt V1)], .bool rq]) ?_ rfl ?_
          · simp [results, Tryz.results182, go_sem, r0, r1]
          · exact ⟨k4, by have := HK1.out.1; have := HK2.out.1; have := HK4.out.1; omega, HK4.out.2.1, (by rw [HPS.out]; exact HK4.out.2.2), (by rw [HPS.out, HRV.out]; simp), ((HM8.out.far (by simp) hgne _).far (by simp) hgne _).drew⟩
  · have HSK := Lib.hid (skip_none 61 g s k2 w4 HM4.out.1 HK2.out.2.1 hsm h61)
    have HPS : Hid (PS = (N, [], false, dropB s k2)) := Lib.hid (by rw [HP.out, if_neg h61])
    go_wp2_with fail
    refine HSK.out.mono ?_
    rintro e w5 ⟨rfl, hm5⟩
    have HM5 := Lib.hid (HM4.out.trans hm5)
    have hR5 := hm5.stands hgne HR4.out
    have hQ5 := hm5.stands hqg HQ4.out
    have c0 : w5.cell? ⟨B, 0, none⟩ = some (.string (bt N)) := by rw [Lib.cell_of_heap hQ5]; rfl
    have c1 : w5.cell? ⟨B, 1, none⟩ = some (.string ⟨#[]⟩) := by rw [Lib.cell_of_heap hQ5]; rfl
    have r0 : w5.cell? ⟨w.heap.size, 0, none⟩ = some (.string ⟨#[]⟩) := by rw [Lib.cell_of_heap hR5]; rfl
    have r1 : w5.cell? ⟨w.heap.size, 1, none⟩ = some (.string ⟨#[]⟩) := by rw [Lib.cell_of_heap hR5]; rfl
    have rz : ∀ o, w5.frozen? ⟨w.heap.size, o, none⟩ = false := fun o => Lib.frozen_of_heap hR5 o
    clear hm5 hR5 hQ5
    go_wp2_with fail
    refine bodyPost_ret (v := .tuple #[.agg #[.string (bt N), .string ⟨#[]⟩], .bool false]) ?_ rfl ?_
    · simp [results, Tryz.results182, go_sem, r0, r1]
    · refine ⟨k2, by have := HK1.out.1; have := HK2.out.1; omega, HK2.out.2.1, by rw [HPS.out], by rw [HPS.out]; rfl, (HM5.out.far (by simp) hgne _).far (by simp) hgne _⟩

end Go.Proofs.YtcbhkcdphbffpaaGreatDoor

namespace Go.Proofs.YtcbhkcdphbffpaaGreatDoor
set_option linter.unusedSimpArgs false
set_option linter.unusedVariables false

theorem parW_len (p : List UInt8 × List UInt8) : (parW p).length ≤ 4 + p.1.length + 2 * p.2.length := by
  have h := escL_length p.2
  unfold parW valW serL
  split <;> simp <;> omega

theorem parsW_len (l : Pars) (a b : Nat) (h : ∀ p ∈ l, p.1.length ≤ a ∧ p.2.length ≤ b) : (l.flatMap parW).length ≤ l.length * (4 + a + 2 * b) := by
  induction l with
  | nil => simp
  | cons p r ih =>
    have h1 := parW_len p
    have h2 := h p (by simp)
    have h3 := ih (fun q hq => h q (by simp [hq]))
    simp only [List.flatMap_cons, List.length_append, List.length_cons]
    rw [Nat.add_mul, Nat.one_mul]
    omega

theorem readL_len (l : List UInt8) : (readL l).1.length ≤ (readL l).2 := by
  match l with
  | [] => simp [readL]
  | [b] =>
    unfold readL
    split <;> simp
  | b :: x :: r =>
    have h1 := readL_len r
    have h2 := readL_len (x :: r)
    unfold readL
    split
    · simp
    · split
      · simp; omega
      · simp; omega
termination_by l.length

theorem tw_dw (p : UInt8 → Bool) (l : List UInt8) : (l.takeWhile p).length + (l.dropWhile p).length = l.length := by
  have := congrArg List.length (List.takeWhile_append_dropWhile (p := p) (l := l))
  rw [List.length_append] at this
  exact this

theorem valL_len3 (r : List UInt8) : (valL r).1.length + (valL r).2.2.length ≤ r.length := by
  unfold valL
  split
  · have h1 := (readL_le r.tail).1
    have h2 := readL_len r.tail
    have h3 := dropWhile_len nsemi (r.tail.drop (readL r.tail).2)
    rw [List.length_drop, List.length_tail] at h3
    rw [List.length_tail] at h1
    show (readL r.tail).1.length + ((r.tail.drop (readL r.tail).2).dropWhile nsemi).length ≤ r.length
    omega
  · have h1 := tw_dw nsemi r
    have h2 := trimEnd_le isWhite (r.takeWhile nsemi)
    show (trimEnd isWhite (r.takeWhile nsemi)).length + (r.dropWhile nsemi).length ≤ r.length
    omega

theorem parmStep_len3 (r : List UInt8) : (parmStep r).2.2.1 = true → (parmStep r).1.length + (parmStep r).2.1.length + (parmStep r).2.2.2.length + 1 ≤ r.length := by
  have h1 := dropWhile_len isWhite r
  have h2 := tw_dw nname (r.dropWhile isWhite)
  have h4 := valL_len3 ((r.dropWhile isWhite).dropWhile nname).tail
  rw [List.length_tail] at h4
  have hl : (lowerL ((r.dropWhile isWhite).takeWhile nname)).length = ((r.dropWhile isWhite).takeWhile nname).length := by
    unfold lowerL; rw [List.length_map]
  unfold parmStep
  dsimp only
  split
  · rename_i h61
    split
    · simp
    · intro _
      have hpos : 0 < ((r.dropWhile isWhite).dropWhile nname).length := by
        cases hx : (r.dropWhile isWhite).dropWhile nname with
        | nil => rw [hx] at h61; simp at h61
        | cons a b => simp
      show (lowerL _).length + (valL _).1.length + (valL _).2.2.length + 1 ≤ r.length
      omega
  · simp

theorem addP_len (acc : Pars) (r : List UInt8) : ((addP acc (parmStep r)).flatMap parW).length + 2 * (parmStep r).2.2.2.length ≤ (acc.flatMap parW).length + 2 * (r.length + 1) := by
  have h1 := parmStep_len r
  have h2 := parmStep_len3 r
  unfold addP
  split
  · rename_i hc
    rw [Bool.and_eq_true] at hc
    have h3 := h2 hc.1
    have h4 := parW_len ((parmStep r).1, (parmStep r).2.1)
    rw [List.flatMap_append, List.length_append]
    simp only [List.flatMap_cons, List.flatMap_nil, List.append_nil]
    simp only at h4
    omega
  · omega

theorem parsL_len (acc : Pars) (l : List UInt8) : ((parsL acc l).flatMap parW).length ≤ (acc.flatMap parW).length + 2 * l.length := by
  induction hn : l.length using Nat.strongRecOn generalizing l acc with
  | _ n ih =>
    match l with
    | [] => rw [parsL_nil]; omega
    | b :: r =>
      by_cases hb : b = 59
      · subst hb
        rw [parsL_semi]
        have h1 := parmStep_len r
        have h2 := addP_len acc r
        simp at hn
        have h3 := ih (parmStep r).2.2.2.length (by omega) (addP acc (parmStep r)) (parmStep r).2.2.2 rfl
        omega
      · rw [parsL_other _ _ _ hb]; omega

theorem mimeW_len {l : List UInt8} {m : MimeL} (h : parseL l = some m) : (mimeW m).length ≤ 2 * l.length + 1 := by
  unfold parseL at h
  dsimp only at h
  split at h
  · simp at h
  · simp only [Option.some.injEq] at h
    subst h
    have h0 : (trimL isWhite l).length ≤ l.length := by
      unfold trimL
      have h1 := trimEnd_le isWhite (l.dropWhile isWhite)
      have h2 := dropWhile_len isWhite l
      omega
    have h1 := tw_dw nslash (trimL isWhite l)
    have h2 := tw_dw nsemi ((trimL isWhite l).dropWhile nslash).tail
    have h3 := trimEnd_le isWhite (((trimL isWhite l).dropWhile nslash).tail.takeWhile nsemi)
    have h4 := parsL_len [] (((trimL isWhite l).dropWhile nslash).tail.dropWhile nsemi)
    have h5 : (((trimL isWhite l).dropWhile nslash).tail).length ≤ ((trimL isWhite l).dropWhile nslash).length := by rw [List.length_tail]; omega
    have e1 : (lowerL ((trimL isWhite l).takeWhile nslash)).length = ((trimL isWhite l).takeWhile nslash).length := by unfold lowerL; rw [List.length_map]
    have e2 : (lowerL (trimEnd isWhite (((trimL isWhite l).dropWhile nslash).tail.takeWhile nsemi))).length = (trimEnd isWhite (((trimL isWhite l).dropWhile nslash).tail.takeWhile nsemi)).length := by unfold lowerL; rw [List.length_map]
    unfold mimeW
    simp only [List.length_append, List.length_cons, List.flatMap_nil, List.length_nil] at *
    rw [e1, e2]
    omega

theorem escL_ge (l : List UInt8) : l.length ≤ (escL l).length := by
  induction l with
  | nil => simp
  | cons b r ih =>
    have he : escL (b :: r) = (if b = 34 ∨ b = 92 then [92, b] else [b]) ++ escL r := rfl
    have h1 : 1 ≤ (if b = 34 ∨ b = 92 then [92, b] else [b]).length := by split <;> simp
    rw [he, List.length_append, List.length_cons]
    omega

theorem parse_sizes {l : List UInt8} {m : MimeL} (h : parseL l = some m) (hl : l.length ≤ 400) : m.t.length ≤ 1000 ∧ m.s.length ≤ 1000 ∧ m.ps.length ≤ 1000 ∧ ∀ p ∈ m.ps, p.1.length ≤ 1000 ∧ p.2.length ≤ 1000 := by
  have hw := mimeW_len h
  unfold mimeW at hw
  simp only [List.length_append, List.length_cons] at hw
  have hmem : ∀ p ∈ m.ps, (parW p).length ≤ (m.ps.flatMap parW).length := by
    intro p hp
    generalize m.ps = q at *
    induction q with
    | nil => simp at hp
    | cons a r ih =>
      simp only [List.flatMap_cons, List.length_append]
      rcases List.mem_cons.1 hp with rfl | hp
      · omega
      · have := ih (by simp at hw ⊢; omega) hp
        omega
  have hcnt : m.ps.length ≤ (m.ps.flatMap parW).length := by
    generalize m.ps = q at *
    clear hw hmem h
    induction q with
    | nil => simp
    | cons a r ih =>
      simp only [List.flatMap_cons, List.length_append, List.length_cons]
      have : 1 ≤ (parW a).length := by unfold parW; simp
      omega
  have hpar : ∀ p : List UInt8 × List UInt8, p.1.length ≤ (parW p).length ∧ p.2.length ≤ (parW p).length := by
    intro p
    unfold parW valW serL
    have h1 := escL_ge p.2
    split <;> simp <;> omega
  refine ⟨by omega, by omega, by omega, fun p hp => ?_⟩
  have h1 := hmem p hp
  have h2 := hpar p
  omega

theorem few_len (m : MimeL) : (mimeW (fewM m)).length ≤ 1000 := by
  have h := parsW_len (fewM m).ps 20 30 (by
    intro p hp
    simp only [fewM, List.mem_map] at hp
    obtain ⟨q, _, rfl⟩ := hp
    simp [fewQ]; omega)
  have hn : (fewM m).ps.length ≤ 6 := by simp [fewM]; omega
  have ht : (fewM m).t.length ≤ 30 := by simp [fewM]; omega
  have hs : (fewM m).s.length ≤ 30 := by simp [fewM]; omega
  unfold mimeW
  simp only [List.length_append, List.length_cons]
  have : (fewM m).ps.length * (4 + 20 + 2 * 30) ≤ 6 * 84 := by
    have := Nat.mul_le_mul_right 84 hn
    simpa using this
  omega

end Go.Proofs.YtcbhkcdphbffpaaGreatDoor

namespace Go.Proofs.YtcbhkcdphbffpaaGreatDoor
open Go.RowKit
set_option linter.unusedSimpArgs false
set_option linter.unusedVariables false

def parseR (l : List UInt8) : MimeL × Nat := match parseL l with | some m => (m, 0) | none => (noM, 2)

theorem parseR_eq (s : ByteArray) (d r : List UInt8) (hd : d = (trimB s).data.toList.dropWhile nslash) (hr : r = d.tail) :
    parseR s.data.toList = if (!(!d.isEmpty) || !tokL (lowerL ((trimB s).data.toList.takeWhile nslash)) || !tokL (lowerL (trimEnd isWhite (r.takeWhile nsemi)))) then (noM, 2)
      else (⟨lowerL ((trimB s).data.toList.takeWhile nslash), lowerL (trimEnd isWhite (r.takeWhile nsemi)), parsL [] (r.dropWhile nsemi)⟩, 0) := by
  have ht : (trimB s).data.toList = trimL isWhite s.data.toList := rfl
  subst hr
  rw [ht] at hd ⊢
  unfold parseR parseL
  dsimp only
  rw [← hd, tokL_lower, tokL_lower]
  by_cases h1 : d = []
  · subst h1
    simp
  · have he : d.isEmpty = false := by cases d with | nil => exact absurd rfl h1 | cons a b => rfl
    rw [he]
    cases h2 : tokL ((trimL isWhite s.data.toList).takeWhile nslash) <;> cases h3 : tokL (trimEnd isWhite (d.tail.takeWhile nsemi)) <;> simp [h1]

theorem skip_slash (g : Nat) (s : ByteArray) (k : Nat) (w : World) (h : Cur w g s k) (hk : k ≤ s.size) (hs : s.size ≤ maxLen) (l : List UInt8) (hd : dropB s k = l.dropWhile nslash) :
    Calls Tryz.prog 105 #[.pointer (some ⟨g, 0, none⟩), .string ⟨#[47]⟩] w fun e w' => ∃ k2, k ≤ k2 ∧ k2 ≤ s.size ∧ dropB s k2 = (dropB s k).tail ∧ e = .returned (.bool (!(dropB s k).isEmpty)) ∧ Moved g s k2 w w' := by
  by_cases hb : (dropB s k).head? = some 47
  · refine (skip_drop 47 g s k w h hk hs hb).mono ?_
    rintro e w2 ⟨rfl, h1, h2, h3⟩
    have he : (dropB s k).isEmpty = false := by cases h : dropB s k with | nil => rw [h] at hb; simp at hb | cons a b => rfl
    exact ⟨k + 1, by omega, h1, h2, by rw [he]; rfl, h3⟩
  · have hn : dropB s k = [] := by
      rw [hd] at hb ⊢
      have hh := List.head?_dropWhile_not nslash l
      cases hx : l.dropWhile nslash with
      | nil => rfl
      | cons a b =>
        rw [hx] at hb hh
        simp only [List.head?_cons] at hh hb
        exfalso
        apply hb
        unfold nslash at hh
        simp at hh
        rw [hh]
    refine (skip_none 47 g s k w h hk hs hb).mono ?_
    rintro e w2 ⟨rfl, h3⟩
    exact ⟨k, Nat.le_refl _, hk, by rw [hn]; rfl, by rw [hn]; rfl, h3⟩

/-- The world in which a text's parameters are read. -/
structure ParW (W w : World) (R g F : Nat) (S T U : ByteArray) (k : Nat) (ps : Pars) (v : Value) (wr : World) : Prop where
  cur : Cur wr g S k
  bF : wr.heap[F]? = some (.cells #[.string T, .string U, v] 36 (0, 0))
  row : wr.ownsRow W.heap.size 96 2 v ps.length (rowQ ps)
  below : Below w.heap.size w wr
  bR : wr.heap[R]? = some (.cells #[.string ⟨#[]⟩, .string ⟨#[]⟩, .slice none 0 0] 36 (0, 0))
  size : W.heap.size ≤ wr.heap.size
  gW : g < W.heap.size
  FW : F < W.heap.size
  RW : R < W.heap.size
  ne1 : F ≠ g
  ne2 : R ≠ g
  ne3 : R ≠ F
  wg : w.heap.size ≤ g
  wF : w.heap.size ≤ F
  wR : w.heap.size ≤ R
  wW : w.heap.size ≤ W.heap.size

theorem ParW.belowOn {W w wr w2 : World} {R g F : Nat} {S T U : ByteArray} {k : Nat} {ps : Pars} {v : Value} (h : ParW W w R g F S T U k ps v wr) (hb : Below wr.heap.size wr w2) : ParW W w R g F S T U k ps v w2 :=
  { h with
    cur := h.cur.below hb h.cur.lt
    bF := (hb.block _ (by have := h.FW; have := h.size; omega)).trans h.bF
    row := row_stands h.row (fun j _ hj => hb.block j hj)
    below := h.below.trans (hb.mono h.below.size)
    bR := (hb.block _ (by have := h.RW; have := h.size; omega)).trans h.bR
    size := Nat.le_trans h.size hb.size }

theorem ParW.moved {W w wr w2 : World} {R g F : Nat} {S T U : ByteArray} {k k2 : Nat} {ps : Pars} {v : Value} (h : ParW W w R g F S T U k ps v wr) (hm : Moved g S k2 wr w2) : ParW W w R g F S T U k2 ps v w2 :=
  { h with
    cur := hm.1
    bF := hm.stands h.ne1 h.bF
    row := row_stands h.row (fun j hj hlt => hm.2.block j hlt (fun e => by
      have h1 := (h.row.lt j hj).1
      have h2 := h.gW
      simp at e
      omega))
    below := h.below.grown hm.2 h.below.size (fun j hj => by have := h.wg; simp at hj; omega)
    bR := hm.stands h.ne2 h.bR
    size := Nat.le_trans h.size hm.2.size }

theorem ParW.sub {W w wr : World} {R g F : Nat} {S T U : ByteArray} {k : Nat} {ps : Pars} {v : Value} (h : ParW W w R g F S T U k ps v wr) (U2 : ByteArray) : ParW W w R g F S T U2 k ps v (wr.setCell ⟨F, 1, none⟩ (.string U2)) := by
  have hF := h.bF
  have hR := h.bR
  have hne3 : F ≠ R := Ne.symm h.ne3
  exact { h with
    cur := h.cur.far h.ne1 _
    bF := by simp [World.setCell, Array.getElem?_modify, hF]
    row := row_stands h.row (fun j hj _ => by
      have h1 := (h.row.lt j hj).1
      have h2 := h.FW
      have h3 : F ≠ j := by omega
      simp [World.setCell, Array.getElem?_modify, h3])
    below := h.below.setCell h.wF _
    bR := by simp [World.setCell, Array.getElem?_modify, hne3, hR]
    size := by simpa using h.size }

/-- One parameter more is laid behind the others. -/
theorem ParW.more {W w wr w2 : World} {R g F : Nat} {S T U : ByteArray} {k : Nat} {ps : Pars} {v v2 : Value} {p : List UInt8 × List UInt8} (h : ParW W w R g F S T U k ps v wr) (hg : wr.grownBy w2 v.ownBlock)
    (ho : w2.ownsRow W.heap.size 96 2 v2 (ps.length + 1) (rowQ ps ++ parCells p)) : ParW W w R g F S T U k (ps ++ [p]) v2 (w2.setCell ⟨F, 2, none⟩ v2) := by
  have hv : ∀ i, i < W.heap.size → some i ≠ v.ownBlock := fun i hi e => by have := (h.row.lt i e.symm).1; omega
  have hF2 := (hg.block F (by have := h.FW; have := h.size; omega) (hv _ h.FW)).trans h.bF
  have hcur : Cur w2 g S k := (hg.block g h.cur.lt (hv _ h.gW)).trans h.cur
  have hR2 := (hg.block R (by have := h.RW; have := h.size; omega) (hv _ h.RW)).trans h.bR
  have hne : v2.ownBlock ≠ some F := fun e => by have := (ho.lt F e).1; have := h.FW; omega
  obtain ⟨x1, x2⟩ := row_laid hF2 ho hne
  have hne3 : F ≠ R := Ne.symm h.ne3
  exact { h with
    cur := hcur.far h.ne1 _
    bF := x1
    row := by rw [rowQ_snoc, List.length_append]; exact x2
    below := (h.below.grown hg h.below.size (fun j hj => by have := (h.row.lt j hj).1; have := h.wW; omega)).setCell h.wF _
    bR := by simp [World.setCell, Array.getElem?_modify, hne3, hR2]
    size := by simpa using Nat.le_trans h.size hg.size }

theorem parmStep_sizes (r : List UInt8) : (parmStep r).1.length ≤ r.length ∧ (parmStep r).2.1.length ≤ r.length := by
  have h1 := dropWhile_len isWhite r
  have h2 := dropWhile_len nname (r.dropWhile isWhite)
  have h3 := tw_len nname (r.dropWhile isWhite)
  have h4 := valL_len2 ((r.dropWhile isWhite).dropWhile nname).tail
  rw [List.length_tail] at h4
  have hl : (lowerL ((r.dropWhile isWhite).takeWhile nname)).length ≤ r.length := by
    unfold lowerL; rw [List.length_map]; omega
  unfold parmStep
  dsimp only
  split
  · split
    · exact ⟨hl, by simp⟩
    · exact ⟨hl, by show (valL _).1.length ≤ _; omega⟩
  · exact ⟨hl, by simp⟩

/-- What holds at the head of a round of Parse. -/
def ParL (W w : World) (R g F : Nat) (S T U : ByteArray) (Z : Pars) (wr : World) : Prop :=
  ∃ k ps v, ParW W w R g F S T U k ps v wr ∧ k ≤ S.size ∧ parsL ps (dropB S k) = Z ∧ ps.length + (S.size - k) ≤ S.size ∧ SizesP ps

set_option maxHeartbeats 1000000 in
set_option maxRecDepth 20000 in
theorem Parse_own (s : ByteArray) (w : World) (hs : s.size ≤ 1100) :
    Calls Tryz.prog 156 #[.string s] w fun e w' => ∃ A c, e = .returned (.tuple #[mimV (parseR s.data.toList).1 A c, .int .i64 (parseR s.data.toList).2]) ∧ ParsAt w' w'.heap.size A (parseR s.data.toList).1.ps ∧ Below w.heap.size w w' ∧ ∀ g, A = some ⟨g, 0, none⟩ → w.heap.size ≤ g := by
  have hTz := trimB_le s
  have HTR := Lib.hid (fun w => Trim_any s w (by unfold maxLen; omega))
  obtain ⟨PR, hpr⟩ : ∃ PR, parseR s.data.toList = PR := ⟨_, rfl⟩
  have HEQ := Lib.hid (fun d r hd hr => (parseR_eq s d r hd hr).symm.trans hpr)
  rw [hpr]
  clear hpr
  have hS : (trimB s).size ≤ 1100 := by omega
  clear hTz hs
  generalize trimB s = S at *
  have hSm : S.size ≤ maxLen := by unfold maxLen; omega
  have hb0 : Below w.heap.size w (w.alloc (.cells #[.string ⟨#[]⟩, .string ⟨#[]⟩, .slice none 0 0] 36)) := below_box w _
  have HR0 : Hid ((w.alloc (.cells #[.string ⟨#[]⟩, .string ⟨#[]⟩, .slice none 0 0] 36)).heap[w.heap.size]? = some (.cells #[.string ⟨#[]⟩, .string ⟨#[]⟩, .slice none 0 0] 36 (0, 0))) := Lib.hid (heap_alloc_new w _)
  have hz0 : (w.alloc (.cells #[.string ⟨#[]⟩, .string ⟨#[]⟩, .slice none 0 0] 36)).heap.size = w.heap.size + 1 := by simp
  go_enter Tryz.func156, Tryz.ntmps156
  go_wp2_with fail
  generalize w.alloc (.cells #[.string ⟨#[]⟩, .string ⟨#[]⟩, .slice none 0 0] 36) = W0 at *
  refine (HTR.out _).mono ?_
  rintro e w1 ⟨rfl, rfl⟩
  go_wp2_with fail
  refine (New_any S _).mono ?_
  rintro e w1 ⟨rfl, hw1⟩
  have hC1 := Cur.new W0 S
  have hR1 := heap_old W0 (.cells #[.string S, .int .i64 0] 163) HR0.out
  have hB1 := hb0.alloc (by omega) (.cells #[.string S, .int .i64 0] 163)
  have hz1 : (W0.alloc (.cells #[.string S, .int .i64 0] 163)).heap.size = w.heap.size + 2 := by simp [hz0]
  rw [hz0] at hC1
  rw [hw1] at hC1 hR1 hB1 hz1
  clear hw1 HR0 hb0 HTR
  rw [hz0]
  clear hz0
  have HC1 := Lib.hid hC1; have HR1 := Lib.hid hR1; have HB1 := Lib.hid hB1; have HZ1 := Lib.hid hz1
  clear hC1 hR1 hB1 hz1
  go_wp2_with fail
  have hU1 := until_drop ⟨#[47]⟩ nslash goes_slash (w.heap.size + 1) S 0 w1 HC1.out (Nat.zero_le _) hSm
  rw [dropB_zero] at hU1
  refine Calls.mono hU1 ?_
  clear hU1
  rintro e w2 ⟨k1, -, hk1, hd1, rfl, hm2⟩
  have hm2s := hm2.2.size
  have HB2 := Lib.hid (HB1.out.grown hm2.2 (by have := HZ1.out; omega) (fun j hj => by simp at hj; omega))
  have HR2 := Lib.hid (hm2.stands (by omega) HR1.out)
  have HC2 := Lib.hid hm2.1
  have hz2 : w.heap.size + 2 ≤ w2.heap.size := by have := HZ1.out; omega
  have htl := tw_len nslash S.data.toList
  rw [← Lib.size_eq] at htl
  have HL1 := Lib.hid (fun w => Lower_any (bt (S.data.toList.takeWhile nslash)) w (by rw [bt_size]; unfold maxLen; omega))
  rw [lower_bt] at HL1
  have hTz : (lowerL (S.data.toList.takeWhile nslash)).length ≤ 1100 := by unfold lowerL; rw [List.length_map]; omega
  clear hm2 hm2s htl
  go_wp2_with fail
  refine (HL1.out _).mono ?_
  rintro e w3 ⟨rfl, hb3⟩
  have hz3 := hb3.size
  go_upto_region 3 with fail
  have HP0 : Hid (ParW (w3.alloc (.cells #[.string (bt (lowerL (S.data.toList.takeWhile nslash))), .string ⟨#[]⟩, .slice none 0 0] 36)) w w.heap.size (w.heap.size + 1) w3.heap.size S (bt (lowerL (S.data.toList.takeWhile nslash))) ⟨#[]⟩ k1 [] (.slice none 0 0) (w3.alloc (.cells #[.string (bt (lowerL (S.data.toList.takeWhile nslash))), .string ⟨#[]⟩, .slice none 0 0] 36))) := Lib.hid
    { cur := (HC2.out.below hb3 HC2.out.lt).alloc _
      bF := heap_alloc_new w3 _
      row := World.ownsRow_nil _ _ _ _
      below := (HB2.out.trans (hb3.mono (by omega))).alloc (by omega) _
      bR := heap_old _ _ ((hb3.block _ (by omega)).trans HR2.out)
      size := Nat.le_refl _
      gW := by simp; omega
      FW := by simp
      RW := by simp; omega
      ne1 := by omega
      ne2 := by omega
      ne3 := by omega
      wg := by omega
      wF := by omega
      wR := by omega
      wW := by simp; omega }
  clear hb3 hz3 HL1 HC2 HR2 HB2 hz2 HB1 HR1 HC1 HZ1
  generalize hF : w3.heap.size = F at *
  generalize w3.alloc (.cells #[.string (bt (lowerL (S.data.toList.takeWhile nslash))), .string ⟨#[]⟩, .slice none 0 0] 36) = W at *
  clear hF
  go_wp2_with fail
  refine (skip_slash (w.heap.size + 1) S k1 W HP0.out.cur hk1 hSm S.data.toList hd1).mono ?_
  rintro e w5 ⟨k2, -, hk2, hd2, rfl, hm5⟩
  have HP5 := Lib.hid (HP0.out.moved hm5)
  have HD2 := Lib.hid (And.intro hd1 hd2)
  clear hm5 HP0 hd1
  go_wp2_with fail
  refine (until_drop ⟨#[59]⟩ nsemi goes_semi (w.heap.size + 1) S k2 w5 HP5.out.cur hk2 hSm).mono ?_
  rintro e w6 ⟨k3, -, hk3, hd3, rfl, hm6⟩
  have HP6 := Lib.hid (HP5.out.moved hm6)
  have HD3 := Lib.hid hd3
  clear hm6 HP5 hd3
  have hul := tw_len nsemi (dropB S k2)
  rw [dropB_len] at hul
  have hel := trimEnd_le isWhite ((dropB S k2).takeWhile nsemi)
  have HBK := Lib.hid (fun w => back_any (bt ((dropB S k2).takeWhile nsemi)) w (by rw [bt_size]; unfold maxLen; omega))
  rw [bt_list] at HBK
  have HL2 := Lib.hid (fun w => Lower_any (bt (trimEnd isWhite ((dropB S k2).takeWhile nsemi))) w (by rw [bt_size]; unfold maxLen; omega))
  rw [lower_bt] at HL2
  have hUz : (lowerL (trimEnd isWhite ((dropB S k2).takeWhile nsemi))).length ≤ 1100 := by unfold lowerL; rw [List.length_map]; omega
  have hEQ := HEQ.out (dropB S k1) (dropB S k2) HD2.out.1 HD2.out.2
  have HQ := Lib.hid hEQ
  rw [← HD3.out] at HQ
  clear hul hel hEQ HEQ HD2 hd2
  generalize lowerL (trimEnd isWhite ((dropB S k2).takeWhile nsemi)) = U at *
  generalize lowerL (S.data.toList.takeWhile nslash) = T at *
  generalize (!(dropB S k1).isEmpty) = ok at *
  go_wp2_with (go_at_call 180; (with_reducible refine (HBK.out _).mono ?_); rintro e w' ⟨rfl, rfl⟩)
  refine (HL2.out _).mono ?_
  rintro e w7 ⟨rfl, hb7⟩
  have HP7 := Lib.hid (HP6.out.belowOn hb7)
  have c0 : w7.cell? ⟨F, 0, none⟩ = some (.string (bt T)) := by rw [Lib.cell_of_heap HP7.out.bF]; rfl
  have c1 : w7.cell? ⟨F, 1, none⟩ = some (.string ⟨#[]⟩) := by rw [Lib.cell_of_heap HP7.out.bF]; rfl
  have cz : ∀ o, w7.frozen? ⟨F, o, none⟩ = false := fun o => Lib.frozen_of_heap HP7.out.bF o
  clear hb7 HP6 HBK HL2
  go_upto_region 5 with fail
  have HP8 := Lib.hid (HP7.out.sub (bt U))
  clear c0 c1 cz HP7
  generalize w7.setCell ⟨F, 1, none⟩ (.string (bt U)) = w8 at *
  have d0 : w8.cell? ⟨F, 0, none⟩ = some (.string (bt T)) := by rw [Lib.cell_of_heap HP8.out.bF]; rfl
  have d1 : w8.cell? ⟨F, 1, none⟩ = some (.string (bt U)) := by rw [Lib.cell_of_heap HP8.out.bF]; rfl
  have HT := Lib.hid (fun w => token_any (bt T) w (by rw [bt_size]; unfold maxLen; omega))
  have HU := Lib.hid (fun w => token_any (bt U) w (by rw [bt_size]; unfold maxLen; omega))
  rw [bt_list] at HT HU
  generalize tokL T = rt at *
  generalize tokL U = ru at *
  go_cut [36] (fun u wx => u = .bool (!ok || !rt || !ru) ∧ w8 = wx)
  case first =>
    cases ok
    · go_wp2_with (first | (go_at_call 181; (with_reducible refine (HT.out _).mono ?_); rintro e w' ⟨rfl, rfl⟩) | (go_at_call 181; (with_reducible refine (HU.out _).mono ?_); rintro e w' ⟨rfl, rfl⟩))
      go_meet
      exact ⟨rfl, rfl⟩
    · cases rt
      · go_wp2_with (first | (go_at_call 181; (with_reducible refine (HT.out _).mono ?_); rintro e w' ⟨rfl, rfl⟩) | (go_at_call 181; (with_reducible refine (HU.out _).mono ?_); rintro e w' ⟨rfl, rfl⟩))
        go_meet
        exact ⟨rfl, rfl⟩
      · go_wp2_with (first | (go_at_call 181; (with_reducible refine (HT.out _).mono ?_); rintro e w' ⟨rfl, rfl⟩) | (go_at_call 181; (with_reducible refine (HU.out _).mono ?_); rintro e w' ⟨rfl, rfl⟩))
        go_meet
        exact ⟨rfl, rfl⟩
  obtain ⟨rfl, rfl⟩ := hcut
  clear HT HU
  clear d0 d1
  generalize (!ok || !rt || !ru) = bad at *
  cases bad
  · have HZ : Hid (PR = (⟨T, U, parsL [] (dropB S k3)⟩, 0)) := Lib.hid (by rw [← HQ.out]; rfl)
    have HST : Hid (ParL W w w.heap.size (w.heap.size + 1) F S (bt T) (bt U) (parsL [] (dropB S k3)) w8) := Lib.hid ⟨k3, [], _, HP8.out, hk3, rfl, by simp, by simp [SizesP]⟩
    generalize parsL [] (dropB S k3) = Z at *
    clear HQ HP8 HD3
    obtain ⟨i0, hi, hz0, hz1, hz2⟩ := info_parts infoPar
    have HI := Lib.hid hi; have HZ0 := Lib.hid hz0; have HZ1 := Lib.hid hz1; have HZ2 := Lib.hid hz2
    clear hi hz0 hz1 hz2
    go_wp2_with fail
    go_loopw [8] (fun _ wr => ParL W w w.heap.size (w.heap.size + 1) F S (bt T) (bt U) Z wr) (fun _ wr => S.size - curAt wr (w.heap.size + 1))
    case atStart => exact HST.out
    case round =>
      clear HST
      obtain ⟨k, ps, v, hp, hk, hz, hcnt, hsz⟩ := hrel
      have HP := Lib.hid hp
      have hat := hp.cur.at_
      clear hp
      by_cases h59 : (dropB S k).head? = some 59
      · go_wp2_with fail
        refine (skip_drop 59 (w.heap.size + 1) S k wr HP.out.cur hk hSm h59).mono ?_
        rintro e w2 ⟨rfl, hk1, hd1, hm2⟩
        have HP2 := Lib.hid (HP.out.moved hm2)
        clear hm2
        go_wp2_with fail
        refine (param_any (w.heap.size + 1) S (k + 1) w2 HP2.out.cur hk1 (by omega)).mono ?_
        rw [hd1]
        rintro e w3 ⟨k2, h1, h2, h3, rfl, hm3⟩
        have HP3 := Lib.hid (HP2.out.moved hm3)
        have hdk : dropB S k = 59 :: (dropB S k).tail := by
          cases hd : dropB S k with
          | nil => rw [hd] at h59; simp at h59
          | cons b r => rw [hd] at h59; simp at h59; rw [h59]; rfl
        have hz2 : parsL (addP ps (parmStep (dropB S k).tail)) (parmStep (dropB S k).tail).2.2.2 = Z := by rw [← parsL_semi, ← hdk]; exact hz
        have hzs := parmStep_sizes (dropB S k).tail
        have htl : (dropB S k).tail.length ≤ 1100 := by rw [← hd1, dropB_len]; omega
        have hkk : k + 1 ≤ k2 := h1
        clear hz hdk hd1 hm3 HP2 HP h1 h59
        generalize parmStep (dropB S k).tail = PS at *
        obtain ⟨N, V, ok2, r3⟩ := PS
        dsimp only at hz2 hzs h3 ⊢
        have hz3 := Lib.hid hz2
        rw [← h3] at hz3
        clear hz2
        obtain ⟨A, c, rfl, hA⟩ := pars_of_own HP3.out.row rfl
        have HP4 := Lib.hid (HP3.out.belowOn (below_box w3 (.cells #[.string (bt N), .string (bt V)] 96)))
        have HA4 := Lib.hid (hA.on (below_box w3 (.cells #[.string (bt N), .string (bt V)] 96)))
        have HX4 : Hid ((w3.alloc (.cells #[.string (bt N), .string (bt V)] 96)).heap[w3.heap.size]? = some (.cells #[.string (bt N), .string (bt V)] 96 (0, 0))) := Lib.hid (heap_alloc_new w3 _)
        have hXW : W.heap.size ≤ w3.heap.size := HP3.out.size
        have HSM : Hid (SizesM ⟨T, U, ps⟩) := Lib.hid ⟨hTz, hUz, hsz⟩
        have HNZ : Hid (SizesP (ps ++ [(N, V)])) := Lib.hid ⟨by have h1 := hcnt; rw [List.length_append]; simp; omega, fun p hp => by
          rcases List.mem_append.1 hp with hp | hp
          · exact hsz.2 p hp
          · simp at hp; subst hp; exact ⟨by show N.length ≤ 1100; omega, by show V.length ≤ 1100; omega⟩⟩
        clear hA HP3 h3
        go_upto_region 9 with fail
        generalize hB : w3.heap.size = B at *
        generalize w3.alloc (.cells #[.string (bt N), .string (bt V)] 96) = w4 at *
        clear hB
        have f0 : w4.cell? ⟨F, 0, none⟩ = some (.string (bt T)) := by rw [Lib.cell_of_heap HP4.out.bF]; rfl
        have f1 : w4.cell? ⟨F, 1, none⟩ = some (.string (bt U)) := by rw [Lib.cell_of_heap HP4.out.bF]; rfl
        have f2 : w4.cell? ⟨F, 2, none⟩ = some (.slice A ps.length c) := by rw [Lib.cell_of_heap HP4.out.bF]; rfl
        have x0 : w4.cell? ⟨B, 0, none⟩ = some (.string (bt N)) := by rw [Lib.cell_of_heap HX4.out]; rfl
        have x1 : w4.cell? ⟨B, 1, none⟩ = some (.string (bt V)) := by rw [Lib.cell_of_heap HX4.out]; rfl
        have HFD := Lib.hid (find_par ⟨T, U, ps⟩ A c (bt N) w4 HSM.out HA4.out)
        rw [bt_list] at HFD
        unfold mimV at HFD
        dsimp only at HFD
        have hlt4 : B < w4.heap.size := (Array.getElem?_eq_some_iff.1 HX4.out).1
        have hF4 : F < w4.heap.size := (Array.getElem?_eq_some_iff.1 HP4.out.bF).1
        cases ok2
        · go_wp2_with fail
          go_roundw
          case rel => exact ⟨k2, ps, _, HP4.out, h2, hz3.out, by omega, hsz⟩
          case measure => rw [hat, HP4.out.cur.at_]; omega
        · by_cases hlt0 : atL ps N < 0
          · have HADD : Hid (addP ps (N, V, true, dropB S k2) = ps ++ [(N, V)]) := Lib.hid (by simp [addP, hlt0])
            go_wp2_with fail
            refine HFD.out.mono ?_
            rintro e w5 ⟨rfl, hb5⟩
            have HP5 := Lib.hid (HP4.out.belowOn hb5)
            rw [← cell_below hb5 hF4] at f2
            rw [← cell_below hb5 hlt4] at x0 x1
            have hz5 := hb5.size
            clear f0 f1 hb5 HFD
            have HP6 := Lib.hid (HP5.out.belowOn (below_box w5 (.cells #[.string (bt N), .string (bt V)] 96)))
            have K0 := Lib.hid HP6.out.row
            have K1 := Lib.hid (par_cells_new w5 (N, V) 96)
            have K2 := Lib.hid (show ∀ u ∈ parCells (N, V), u.oneCell' = true from by intro u hu; simp [parCells] at hu; rcases hu with rfl | rfl <;> rfl)
            have K3 := Lib.hid (show ps.length + 1 ≤ maxLen from by unfold maxLen; omega)
            have K4 := Lib.hid (show (ps.length + 1) * 32 ≤ 140737488355328 from by omega)
            have K5 := Lib.hid HP6.out.size
            have K6 : Hid (∀ w9, (w5.alloc (.cells #[.string (bt N), .string (bt V)] 96)).grownBy w9 (Value.slice A ps.length c).ownBlock → w9.heap[F]? = some (.cells #[.string (bt T), .string (bt U), .slice A ps.length c] 36 (0, 0))) :=
              Lib.hid (fun w9 hg => (hg.block F (by have := HP6.out.FW; have := HP6.out.size; omega) (fun e => by have := (HP6.out.row.lt F e.symm).1; have := HP6.out.FW; omega)).trans HP6.out.bF)
            go_wp2_with (at_builtin; go_must (refine wpList_append_lies _ rfl (.tmp 54) (.tmp 56) 34 rfl W.heap.size 96 i0 (.agg #[.string ByteArray.empty, .string ByteArray.empty]) 2 32 Tryz.underlying34 HI.out HZ0.out HZ1.out HZ2.out rfl (by decide) (.slice A ps.length c) ps.length (rowQ ps) rfl K0.out ⟨w5.heap.size, 0, none⟩ 1 1 (parCells (N, V)) rfl rfl K1.out K2.out (by decide) K3.out K4.out K5.out _ rfl ?_; intro g3 c3 w9 hown hgrow hat9 hlt9; have hf9 := K6.out w9 hgrow; have y2 : w9.cell? ⟨F, 2, none⟩ = some (.slice A ps.length c) := (by rw [Lib.cell_of_heap hf9]; rfl); have yz : ∀ o, w9.frozen? ⟨F, o, none⟩ = false := (fun o => Lib.frozen_of_heap hf9 o); have HP9 := Lib.hid (HP6.out.more hgrow hown); clear hown hgrow hat9 hlt9 hf9))
            go_roundw
            case rel => exact ⟨k2, _, _, HP9.out, h2, by rw [← HADD.out]; exact hz3.out, by rw [List.length_append]; simp; omega, HNZ.out⟩
            case measure => rw [hat, HP9.out.cur.at_]; omega
          · have HADD : Hid (addP ps (N, V, true, dropB S k2) = ps) := Lib.hid (by simp [addP, hlt0])
            go_wp2_with fail
            refine HFD.out.mono ?_
            rintro e w5 ⟨rfl, hb5⟩
            have HP5 := Lib.hid (HP4.out.belowOn hb5)
            clear f0 f1 f2 x0 x1 hb5 HFD
            go_wp2_with fail
            go_roundw
            case rel => exact ⟨k2, ps, _, HP5.out, h2, by rw [← HADD.out]; exact hz3.out, by omega, hsz⟩
            case measure => rw [hat, HP5.out.cur.at_]; omega
      · go_wp2_with fail
        refine (skip_none 59 (w.heap.size + 1) S k wr HP.out.cur hk hSm h59).mono ?_
        rintro e w2 ⟨rfl, hm2⟩
        have HP2 := Lib.hid (HP.out.moved hm2)
        have hps : ps = Z := by
          rw [← hz]
          cases hd : dropB S k with
          | nil => rw [parsL_nil]
          | cons b r => rw [hd] at h59; rw [parsL_other]; intro e; rw [e] at h59; simp at h59
        clear hm2 HP
        subst hps
        obtain ⟨A, c, rfl, hA⟩ := pars_of_own HP2.out.row rfl
        have HA := Lib.hid hA
        have f0 : w2.cell? ⟨F, 0, none⟩ = some (.string (bt T)) := by rw [Lib.cell_of_heap HP2.out.bF]; rfl
        have f1 : w2.cell? ⟨F, 1, none⟩ = some (.string (bt U)) := by rw [Lib.cell_of_heap HP2.out.bF]; rfl
        have f2 : w2.cell? ⟨F, 2, none⟩ = some (.slice A ps.length c) := by rw [Lib.cell_of_heap HP2.out.bF]; rfl
        have r0 : w2.cell? ⟨w.heap.size, 0, none⟩ = some (.string ⟨#[]⟩) := by rw [Lib.cell_of_heap HP2.out.bR]; rfl
        have r1 : w2.cell? ⟨w.heap.size, 1, none⟩ = some (.string ⟨#[]⟩) := by rw [Lib.cell_of_heap HP2.out.bR]; rfl
        have r2 : w2.cell? ⟨w.heap.size, 2, none⟩ = some (.slice none 0 0) := by rw [Lib.cell_of_heap HP2.out.bR]; rfl
        have rz : ∀ o, w2.frozen? ⟨w.heap.size, o, none⟩ = false := fun o => Lib.frozen_of_heap HP2.out.bR o
        clear hA
        go_wp2_with fail
        refine bodyPost_ret (v := .tuple #[mimV ⟨T, U, ps⟩ A c, .int .i64 0]) ?_ rfl ?_
        · simp [results, Tryz.results156, go_sem, r0, r1, r2, mimV]
        · have hfar : ∀ q, A = some ⟨q, 0, none⟩ → w.heap.size ≠ q := fun q hq => by
            subst hq
            have h1 := (HP2.out.row.lt q rfl).1
            have h2 := HP2.out.RW
            omega
          exact ⟨A, c, by rw [HZ.out]; rfl, by rw [HZ.out]; exact (((HA.out.set hfar _).set hfar _).set hfar _).more (by simp), ((HP2.out.below.setCell (by simp) _).setCell (by simp) _).setCell (by simp) _, fun q hq => by
            subst hq
            have h1 := (HP2.out.row.lt q rfl).1
            have h2 := HP2.out.RW
            omega⟩
  · have HZ : Hid (PR = (noM, 2)) := Lib.hid (by rw [← HQ.out]; rfl)
    have r0 : w8.cell? ⟨w.heap.size, 0, none⟩ = some (.string ⟨#[]⟩) := by rw [Lib.cell_of_heap HP8.out.bR]; rfl
    have r1 : w8.cell? ⟨w.heap.size, 1, none⟩ = some (.string ⟨#[]⟩) := by rw [Lib.cell_of_heap HP8.out.bR]; rfl
    have r2 : w8.cell? ⟨w.heap.size, 2, none⟩ = some (.slice none 0 0) := by rw [Lib.cell_of_heap HP8.out.bR]; rfl
    have rz : ∀ o, w8.frozen? ⟨w.heap.size, o, none⟩ = false := fun o => Lib.frozen_of_heap HP8.out.bR o
    go_wp2_with fail
    refine bodyPost_ret (v := .tuple #[mimV noM none 0, .int .i64 2]) ?_ rfl ?_
    · simp [results, Tryz.results156, go_sem, r0, r1, r2, mimV, noM, bt]
    · exact ⟨none, ⟨0, by rw [HZ.out]; rfl⟩, by rw [HZ.out]; exact .inl rfl, ((HP8.out.below.setCell (by simp) _).setCell (by simp) _).setCell (by simp) _, by intro g h; cases h⟩

theorem Parse_any (s : ByteArray) (w : World) (hs : s.size ≤ 1100) :
    Calls Tryz.prog 156 #[.string s] w fun e w' => ∃ A c, e = .returned (.tuple #[mimV (parseR s.data.toList).1 A c, .int .i64 (parseR s.data.toList).2]) ∧ ParsAt w' w'.heap.size A (parseR s.data.toList).1.ps ∧ Below w.heap.size w w' :=
  (Parse_own s w hs).mono fun _ _ ⟨A, c, h1, h2, h3, _⟩ => ⟨A, c, h1, h2, h3⟩

end Go.Proofs.YtcbhkcdphbffpaaGreatDoor
