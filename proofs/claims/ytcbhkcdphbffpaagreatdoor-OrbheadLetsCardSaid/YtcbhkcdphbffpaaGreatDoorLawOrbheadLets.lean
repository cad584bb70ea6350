/-
  The walk of the law OrbheadLets. (Printed by genorb.py.)
-/
import Derived.Test.YtcbhkcdphbffpaaGreatDoorM22
namespace Go.Proofs.YtcbhkcdphbffpaaGreatDoor
open Go.RowKit
set_option linter.unusedSimpArgs false
set_option linter.unusedVariables false

theorem lets_open {cr nc : Bool} {md st : Int} {l : Pars} {k : Bool} (h : (cr && nc) = false) : (ofL cr nc md st l k).1 = 1 := by
  unfold ofL ofB
  rw [h]
  rfl

theorem lets_safe {cr nc : Bool} {md st : Int} {l : Pars} {k : Bool} (h : ((kindM l).2 && safeB (bt (kindM l).1.t) (bt (kindM l).1.s)) = true) : (ofL cr nc md st l k).1 = 1 := by
  unfold ofL ofB
  rw [h]
  split
  · rfl
  · rfl

theorem ofB_known (g s n p li ns pl f : Bool) : ofB g s n p li ns pl true f = ofB g s n p li ns pl false f ∨
    (ofB g s n p li ns pl true f = (1, wValidated) ∧ (ofB g s n p li ns pl false f = (2, wRange) ∨ ofB g s n p li ns pl false f = (0, wNone))) := by
  unfold ofB
  by_cases h1 : g = false
  · rw [if_pos h1, if_pos h1]; exact .inl rfl
  by_cases h2 : s = true
  · rw [if_neg h1, if_neg h1, if_pos h2, if_pos h2]; exact .inl rfl
  by_cases h3 : n = true
  · rw [if_neg h1, if_neg h1, if_neg h2, if_neg h2, if_pos h3, if_pos h3]; exact .inl rfl
  by_cases h4 : (p && li) = true
  · rw [if_neg h1, if_neg h1, if_neg h2, if_neg h2, if_neg h3, if_neg h3, if_pos h4, if_pos h4]; exact .inl rfl
  by_cases h5 : (ns && (li || pl)) = true
  · rw [if_neg h1, if_neg h1, if_neg h2, if_neg h2, if_neg h3, if_neg h3, if_neg h4, if_neg h4, if_pos h5, if_pos h5]; exact .inl rfl
  rw [if_neg h1, if_neg h1, if_neg h2, if_neg h2, if_neg h3, if_neg h3, if_neg h4, if_neg h4, if_neg h5, if_neg h5, if_pos rfl, if_neg (by simp)]
  refine .inr ⟨rfl, ?_⟩
  by_cases h6 : (p && !f) = true
  · rw [if_pos h6]; exact .inl rfl
  · rw [if_neg h6]; exact .inr rfl

theorem lets_known (cr nc : Bool) (md st : Int) (l : Pars) : ofL cr nc md st l true = ofL cr nc md st l false ∨
    (md = 2 ∧ ofL cr nc md st l true = (1, wValidated) ∧ (ofL cr nc md st l false = (2, wRange) ∨ ofL cr nc md st l false = (0, wNone))) := by
  unfold ofL
  by_cases h2 : md = 2
  · subst h2
    rcases ofB_known (cr && nc) ((kindM l).2 && safeB (bt (kindM l).1.t) (bt (kindM l).1.s)) ((kindM l).2 && neverB (bt (kindM l).1.t) (bt (kindM l).1.s)) (st == 206)
      ((kindM l).2 && listedB (bt (kindM l).1.t) (bt (kindM l).1.s)) (noSniff l) (plainB (kindM l).1 (kindM l).2) (firstL l) with h | h
    · exact .inl h
    · exact .inr ⟨rfl, h⟩
  · rw [show (md == 2) = false from beq_eq_false_iff_ne.2 h2]
    exact .inl rfl

theorem Kp.six {w0 W : World} {gr ga : Nat} {st md : Int} {A : Option Addr} {n c : Nat} {u : ByteArray} {x y : Bool} {S : List (Nat × Obj)} (h : Kp w0 W ((gr, repO st A n c) :: (ga, askO u x y md) :: S)) :
    W.cell? ⟨ga, 0, none⟩ = some (.string u) ∧ W.cell? ⟨ga, 1, none⟩ = some (.bool x) ∧ W.cell? ⟨ga, 2, none⟩ = some (.bool y) ∧ W.cell? ⟨ga, 3, none⟩ = some (.int .i64 md) ∧ W.cell? ⟨gr, 0, none⟩ = some (.int .i64 st) ∧ W.cell? ⟨gr, 1, none⟩ = some (.slice A n c) := by
  obtain ⟨r0, r1, -, -⟩ := rep_cells h.h0
  obtain ⟨a0, a1, a2, a3, -, -⟩ := ask_cells h.tl.h0
  exact ⟨a0, a1, a2, a3, r0, r1⟩

/-- Two verdicts are written. -/
theorem Kp.puts {w0 W : World} {b6 b7 gx gr ga : Nat} {st md : Int} {A A4 : Option Addr} {n c c4 : Nat} {u : ByteArray} {x y : Bool} {M : MimeL} {hs ns bu : Bool} {v6 v7 : Int} {s6 s7 : ByteArray} {p6 p7 : Int} {q6 q7 : ByteArray}
    (hb : Below w0.heap.size w0 W) (h6 : W.heap[b6]? = some (judO p6 q6)) (h7 : W.heap[b7]? = some (judO p7 q7)) (hx : W.heap[gx]? = some (saidO M A4 c4 hs ns bu)) (hr : W.heap[gr]? = some (repO st A n c)) (ha : W.heap[ga]? = some (askO u x y md))
    (hne : b6 ≠ b7) (l6 : w0.heap.size ≤ b6) (l7 : w0.heap.size ≤ b7) :
    Kp w0 ((((((((W.setCell ⟨b6, 0, none⟩ (.int .i64 v6)).setCell ⟨b6, 1, none⟩ (.string s6)).setCell ⟨b6, 2, none⟩ (.int .i64 0)).setCell ⟨b6, 3, none⟩ (.bool false)).setCell ⟨b7, 0, none⟩ (.int .i64 v7)).setCell ⟨b7, 1, none⟩ (.string s7)).setCell ⟨b7, 2, none⟩ (.int .i64 0)).setCell ⟨b7, 3, none⟩ (.bool false))
      [(b6, judO v6 s6), (b7, judO v7 s7), (gx, saidO M A4 c4 hs ns bu), (gr, repO st A n c), (ga, askO u x y md)] := by
  have nx6 : b6 ≠ gx := by rintro rfl; have := h6.symm.trans hx; simp [judO, saidO] at this
  have nx7 : b7 ≠ gx := by rintro rfl; have := h7.symm.trans hx; simp [judO, saidO] at this
  have nr6 : b6 ≠ gr := by rintro rfl; have := h6.symm.trans hr; simp [judO, repO] at this
  have nr7 : b7 ≠ gr := by rintro rfl; have := h7.symm.trans hr; simp [judO, repO] at this
  have na6 : b6 ≠ ga := by rintro rfl; have := h6.symm.trans ha; simp [judO, askO] at this
  have na7 : b7 ≠ ga := by rintro rfl; have := h7.symm.trans ha; simp [judO, askO] at this
  have off8 : ∀ {g : Nat} {o : Obj}, b6 ≠ g → b7 ≠ g → W.heap[g]? = some o → ((((((((W.setCell ⟨b6, 0, none⟩ (.int .i64 v6)).setCell ⟨b6, 1, none⟩ (.string s6)).setCell ⟨b6, 2, none⟩ (.int .i64 0)).setCell ⟨b6, 3, none⟩ (.bool false)).setCell ⟨b7, 0, none⟩ (.int .i64 v7)).setCell ⟨b7, 1, none⟩ (.string s7)).setCell ⟨b7, 2, none⟩ (.int .i64 0)).setCell ⟨b7, 3, none⟩ (.bool false)).heap[g]? = some o := fun n6 n7 h =>
    heap_off1 n7 (heap_off1 n7 (heap_off1 n7 (heap_off1 n7 (heap_off1 n6 (heap_off1 n6 (heap_off1 n6 (heap_off1 n6 h)))))))
  refine ⟨(((((((hb.setCell l6 _).setCell l6 _).setCell l6 _).setCell l6 _).setCell l7 _).setCell l7 _).setCell l7 _).setCell l7 _, fun p hp => ?_⟩
  rcases List.mem_cons.1 hp with rfl | hp
  · exact heap_off1 hne.symm (heap_off1 hne.symm (heap_off1 hne.symm (heap_off1 hne.symm (jud_put h6))))
  rcases List.mem_cons.1 hp with rfl | hp
  · exact jud_put (heap_off1 hne (heap_off1 hne (heap_off1 hne (heap_off1 hne h7))))
  rcases List.mem_cons.1 hp with rfl | hp
  · exact off8 nx6 nx7 hx
  rcases List.mem_cons.1 hp with rfl | hp
  · exact off8 nr6 nr7 hr
  rcases List.mem_cons.1 hp with rfl | hp
  · exact off8 na6 na7 ha
  · cases hp

set_option maxHeartbeats 20000000 in
set_option maxRecDepth 20000 in
theorem orbheadLets_walk (url : ByteArray) (cr nc : Bool) (md st : Int) (l : Pars) (A : Option Addr) (c : Nat) (w : World) (hT : Tab w) (hu : url.size ≤ maxLen) (hlm : l.length ≤ maxLen) (hps : ∀ p ∈ l, (bt p.1).size ≤ maxLen ∧ (bt p.2).size ≤ maxLen) (hA : ParsIn w w.heap.size A l) :
    Calls Tryz.prog 4 #[askV url cr nc md, repV st A l.length c] w fun e w' => e = .returned (.bool true) ∧ Below w.heap.size w w' := by
  have HT := Lib.hid (fun (w1 : World) (hb : Below w.heap.size w w1) => hT.on hb)
  have HAS := Lib.hid (fun (w1 : World) => Ask30_any url cr nc md w1 hu)
  have HF := Lib.hid (fun (w1 : World) (hb : Below w.heap.size w w1) => Few30_any st l A c w1 hlm hps (hA.on hb))
  have hf := fewHs_fewP l
  have hid := fewHs_idem 8 l
  generalize cutB url 80 = u2 at *
  generalize l.length = nl at *
  generalize fewHs 8 l = L at *
  have hfn := hf.n
  have hfb := fewR_big (fewP_fewR hf)
  clear hT hu hlm hps hA
  have K0 := Kp.box2 w (askO url cr nc md) (repO st A nl c)
  unfold askO repO at K0
  unfold askV at HAS ⊢
  unfold repV at HF ⊢
  go_enter Tryz.func4, Tryz.ntmps4
  go_upto_region 1 with fail
  generalize (w.alloc (.cells #[.string url, .bool cr, .bool nc, .int .i64 md] 23)).alloc (.cells #[.int .i64 st, .slice A nl c] 26) = W at *
  go_cut [] (fun wx => TwoO w u2 cr nc md st L wx)
  case first =>
    obtain ⟨r0, r1, -, rz⟩ := rep_cells K0.h0
    obtain ⟨a0, a1, a2, a3, -, az⟩ := ask_cells K0.tl.h0
    have HK := Lib.hid K0
    clear K0 hid hfn hfb hf
    refine wp_region_N 4 (fun w' => w'.cell? ⟨w.heap.size, 0, none⟩ = some (.string url) ∧ w'.cell? ⟨w.heap.size, 1, none⟩ = some (.bool cr) ∧ w'.cell? ⟨w.heap.size, 2, none⟩ = some (.bool nc) ∧ w'.cell? ⟨w.heap.size, 3, none⟩ = some (.int .i64 md) ∧ w'.cell? ⟨w.heap.size + 1, 0, none⟩ = some (.int .i64 st) ∧ w'.cell? ⟨w.heap.size + 1, 1, none⟩ = some (.slice A nl c)) (by kernel_rfl) (by kernel_rfl) ⟨a0, a1, a2, a3, r0, r1⟩ ?_
    (refine NJ.take (i := 0) (v := ?_) rfl rfl (by kernel_rfl) (by kernel_rfl) (by kernel_rfl) (by kernel_rfl) (fun _ _ _ h => h) (Or.inl ⟨by rfl, ?_⟩) ?_; rotate_left; (focus (intro wS hSw; (try dsimp only at hSw); go_simp; first | done | with_reducible rfl)); (try simp only [Act.put, List.getElem_toArray, List.getElem_cons_zero, List.getElem_cons_succ, List.setIfInBounds_toArray, List.set_cons_zero, List.set_cons_succ]))
    (refine NJ.take (i := 2) (v := ?_) rfl rfl (by kernel_rfl) (by kernel_rfl) (by kernel_rfl) (by kernel_rfl) (fun _ _ _ h => h) (Or.inl ⟨by rfl, ?_⟩) ?_; rotate_left; (focus (intro wS hSw; (try dsimp only at hSw); go_simp; first | done | with_reducible rfl)); (try simp only [Act.put, List.getElem_toArray, List.getElem_cons_zero, List.getElem_cons_succ, List.setIfInBounds_toArray, List.set_cons_zero, List.set_cons_succ]))
    refine NJ.step (i := 1) rfl rfl (by kernel_rfl) (fun hSat K hK => ?_)
    go_simp
    refine Calls.mono (HAS.out _) ?_
    rintro e w1 ⟨rfl, hb⟩
    have hbn := below_undrew hb
    have HB1 := Lib.hid hbn
    have HK1 := Lib.hid (HK.out.on hbn)
    clear hb
    go_wp2_with fail
    refine hK.out _ _ ?_ ?_
    · exact ⟨(cell_below hbn az).trans a0, (cell_below hbn az).trans a1, (cell_below hbn az).trans a2, (cell_below hbn az).trans a3, (cell_below hbn rz).trans r0, (cell_below hbn rz).trans r1⟩
    clear hK hSat K
    (try simp only [Act.put, List.getElem_toArray, List.getElem_cons_zero, List.getElem_cons_succ, List.setIfInBounds_toArray, List.set_cons_zero, List.set_cons_succ])
    clear hbn
    refine NJ.step (i := 3) rfl rfl (by kernel_rfl) (fun hSat K hK => ?_)
    go_simp
    refine Calls.mono (HF.out _ HK1.out.b) ?_
    rintro e w2 ⟨A3, c3, rfl, hA3, hb, hfr⟩
    have hbn := HB1.out.trans (hb.mono HB1.out.size)
    have HK2 := Lib.hid (HK1.out.on hb)
    have HA3 := Lib.hid hA3
    have HFR := Lib.hid (show ∀ g, A3 = some ⟨g, 0, none⟩ → w.heap.size + 1 < g from fun g hg => by have h1 := hfr g hg; have h2 := HB1.out.size; omega)
    have q0 := (cell_below (o := 0) hbn az).trans a0
    have q1 := (cell_below (o := 1) hbn az).trans a1
    have q2 := (cell_below (o := 2) hbn az).trans a2
    have q3 := (cell_below (o := 3) hbn az).trans a3
    have q4 := (cell_below (o := 0) hbn rz).trans r0
    have q5 := (cell_below (o := 1) hbn rz).trans r1
    have fq : ∀ i, w2.frozen? ⟨w.heap.size, i, none⟩ = false := fun i => Lib.frozen_of_heap HK2.out.tl.h0 i
    have fr : ∀ i, w2.frozen? ⟨w.heap.size + 1, i, none⟩ = false := fun i => Lib.frozen_of_heap HK2.out.h0 i
    clear hA3 hb hfr
    go_wp2_with fail
    refine hK.out _ _ ?_ ?_
    · exact ⟨(cell_below hbn az).trans a0, (cell_below hbn az).trans a1, (cell_below hbn az).trans a2, (cell_below hbn az).trans a3, (cell_below hbn rz).trans r0, (cell_below hbn rz).trans r1⟩
    clear hK hSat K
    (try simp only [Act.put, List.getElem_toArray, List.getElem_cons_zero, List.getElem_cons_succ, List.setIfInBounds_toArray, List.set_cons_zero, List.set_cons_succ])
    clear hbn a0 a1 a2 a3 r0 r1
    (refine NJ.over rfl (by kernel_rfl) (fun hSat K hK => ?_); go_simp; refine hK.out _ _ ?_; clear hK hSat K; (try simp only [Act.put, List.getElem_toArray, List.getElem_cons_zero, List.getElem_cons_succ, List.setIfInBounds_toArray, List.set_cons_zero, List.set_cons_succ]))
    (refine wpAnyN_tail (i := 5) rfl rfl (by kernel_rfl) (fun K hK => ?_); go_simp; refine hK.out _ _ ?_; clear hK K; (try simp only [Act.put, List.getElem_toArray, List.getElem_cons_zero, List.getElem_cons_succ, List.setIfInBounds_toArray, List.set_cons_zero, List.set_cons_succ]))
    refine wpAnyN_fin (by kernel_rfl) ?_
    go_wp2_with fail
    go_meet
    have e1 : ∀ g, A3 = some ⟨g, 0, none⟩ → w.heap.size ≠ g := fun g hg => by have := HFR.out g hg; omega
    have e2 : ∀ g, A3 = some ⟨g, 0, none⟩ → w.heap.size + 1 ≠ g := fun g hg => by have := HFR.out g hg; omega
    refine ⟨A3, c3, ⟨?_, fun p hp => ?_⟩, ?_⟩
    · exact (((((HK2.out.b.setCell (by simp) _).setCell (by simp) _).setCell (by simp) _).setCell (by simp) _).setCell (by simp) _).setCell (by simp) _
    · rcases List.mem_cons.1 hp with rfl | hp
      · exact rep_put (heap_off1 (by simp) (heap_off1 (by simp) (heap_off1 (by simp) (heap_off1 (by simp) HK2.out.h0))))
      · rcases List.mem_cons.1 hp with rfl | hp
        · exact heap_off1 (by simp) (heap_off1 (by simp) (ask_put HK2.out.tl.h0))
        · cases hp
    · exact ((((((HA3.out.put1 e1 _).put1 e1 _).put1 e1 _).put1 e1 _).put1 e2 _).put1 e2 _).more (by simp)
  obtain ⟨A3, c3, hK3, hA3⟩ := hcut
  obtain ⟨V, hV⟩ : ∃ V, V = wc := ⟨_, rfl⟩
  subst hV
  have HA3 := Lib.hid hA3
  have HF2 := Lib.hid (fun (w1 : World) (hb : Below V.heap.size V w1) => Few30_any st L A3 c3 w1 (by unfold maxLen; omega) hfb (HA3.out.on hb).isIn)
  rw [hid] at HF2
  clear hA3 K0 HF HAS hid hfn hfb
  have hsz := kindM_sizes hf
  have HOT := Lib.hid (fun (A1 : Option Addr) (c1 : Nat) (w1 : World) (hw : Below w.heap.size w w1) (h1 : ParsAt w1 w1.heap.size A1 L) => Of30_any u2 cr nc md st L A1 c1 true w1 (HT.out w1 hw) hf h1.isIn)
  have HOF := Lib.hid (fun (A1 : Option Addr) (c1 : Nat) (w1 : World) (hw : Below w.heap.size w w1) (h1 : ParsAt w1 w1.heap.size A1 L) => Of30_any u2 cr nc md st L A1 c1 false w1 (HT.out w1 hw) hf h1.isIn)
  have HS := Lib.hid (fun (w1 : World) (hb : Below V.heap.size V w1) => rSaid_any L A3 c3 w1 hf (HA3.out.on hb).isIn)
  have HSA := Lib.hid (fun (A1 : Option Addr) (c1 : Nat) (w1 : World) (hw : Below w.heap.size w w1) => rSafe_says (bt (kindM L).1.t) (bt (kindM L).1.s) A1 (kindM L).1.ps.length c1 w1 (HT.out w1 hw) (sizeT hsz) (sizeS hsz))
  rw [← safe_eq] at HSA
  have HOP := Lib.hid (show (cr && nc) = false → (ofL cr nc md st L true).1 = 1 ∧ (ofL cr nc md st L false).1 = 1 from fun h => ⟨lets_open h, lets_open h⟩)
  have HSF := Lib.hid (show ((kindM L).2 && safeB (bt (kindM L).1.t) (bt (kindM L).1.s)) = true → (ofL cr nc md st L true).1 = 1 ∧ (ofL cr nc md st L false).1 = 1 from fun h => ⟨lets_safe h, lets_safe h⟩)
  have HKN := Lib.hid (lets_known cr nc md st L)
  generalize ofL cr nc md st L true = Y at *
  generalize ofL cr nc md st L false = Z at *
  obtain ⟨y1, y2⟩ := Y
  obtain ⟨z1, z2⟩ := Z
  unfold GivesSaid at HS
  generalize noSniff L = ns at *
  generalize saidBug L = bu at *
  generalize safeB (bt (kindM L).1.t) (bt (kindM L).1.s) = sb at *
  generalize kindM L = X at *
  obtain ⟨M, hs⟩ := X
  dsimp only at HOT HOF HS HSA HOP HSF
  unfold askV repV judV at HOT HOF
  unfold repV at HF2
  clear hf hsz
  have HWV := Lib.hid hK3.b.size
  obtain ⟨r0, r1, -, rz⟩ := rep_cells hK3.h0
  go_wp2_with fail
  refine (HS.out V (Below.refl _ _)).mono ?_
  rintro e w1 ⟨A4, c4, rfl, -, hb⟩
  have HB1 := Lib.hid (hb.trans ((below_box w1 (saidO M A4 c4 hs ns bu)).mono hb.size))
  have HK1 := Lib.hid ((hK3.on hb).box (saidO M A4 c4 hs ns bu))
  clear hb r0 r1 rz hK3 HS
  unfold saidO at HB1 HK1
  unfold saidV
  go_upto_region 3 with fail
  generalize w1.alloc (.cells #[.string (bt M.t), .string (bt M.s), .slice A4 M.ps.length c4, .bool hs, .bool ns, .bool bu] 38) = U at *
  generalize w1.heap.size = gx at *
  go_cut [6, 7] (fun s6 s7 wx => ∃ b6 b7, s6 = .pointer (some ⟨b6, 0, none⟩) ∧ s7 = .pointer (some ⟨b7, 0, none⟩) ∧ Kp w wx [(b6, judO y1 y2), (b7, judO z1 z2), (gx, saidO M A4 c4 hs ns bu), (w.heap.size + 1, repO st A3 L.length c3), (w.heap.size, askO u2 cr nc md)])
  case first =>
    clear HOP HSF HKN HSA
    obtain ⟨u0, hu0⟩ : ∃ u0, u0 = U.drew := ⟨_, rfl⟩
    have h6 := HK1.out.tl.six
    refine wp_region_N 10 (fun w' => w'.cell? ⟨w.heap.size, 0, none⟩ = some (.string u2) ∧ w'.cell? ⟨w.heap.size, 1, none⟩ = some (.bool cr) ∧ w'.cell? ⟨w.heap.size, 2, none⟩ = some (.bool nc) ∧ w'.cell? ⟨w.heap.size, 3, none⟩ = some (.int .i64 md) ∧ w'.cell? ⟨w.heap.size + 1, 0, none⟩ = some (.int .i64 st) ∧ w'.cell? ⟨w.heap.size + 1, 1, none⟩ = some (.slice A3 L.length c3)) (by kernel_rfl) (by kernel_rfl) h6 ?_
    rw [← hu0]
    have HK := Lib.hid (show Kp w u0 _ from hu0 ▸ HK1.out.drew)
    have HB := Lib.hid (show Below V.heap.size V u0 from hu0 ▸ HB1.out.drew)
    clear hu0 h6 HK1 HB1
    (refine NJ.take (i := 0) (v := ?_) rfl rfl (by kernel_rfl) (by kernel_rfl) (by kernel_rfl) (by kernel_rfl) (fun _ _ _ h => h) (Or.inl ⟨by rfl, ?_⟩) ?_; rotate_left; (focus (intro wS hSw; (try dsimp only at hSw); go_simp; first | done | with_reducible rfl)); (try simp only [Act.put, List.getElem_toArray, List.getElem_cons_zero, List.getElem_cons_succ, List.setIfInBounds_toArray, List.set_cons_zero, List.set_cons_succ]))
    (refine NJ.take (i := 1) (v := ?_) rfl rfl (by kernel_rfl) (by kernel_rfl) (by kernel_rfl) (by kernel_rfl) (fun _ _ _ h => h) (Or.inl ⟨by rfl, ?_⟩) ?_; rotate_left; (focus (intro wS hSw; (try dsimp only at hSw); go_simp; first | done | with_reducible rfl)); (try simp only [Act.put, List.getElem_toArray, List.getElem_cons_zero, List.getElem_cons_succ, List.setIfInBounds_toArray, List.set_cons_zero, List.set_cons_succ]))
    (refine NJ.take (i := 4) (v := ?_) rfl rfl (by kernel_rfl) (by kernel_rfl) (by kernel_rfl) (by kernel_rfl) (fun _ _ _ h => h) (Or.inl ⟨by rfl, ?_⟩) ?_; rotate_left; (focus (intro wS hSw; (try dsimp only at hSw); go_simp; first | done | with_reducible rfl)); (try simp only [Act.put, List.getElem_toArray, List.getElem_cons_zero, List.getElem_cons_succ, List.setIfInBounds_toArray, List.set_cons_zero, List.set_cons_succ]))
    (refine NJ.take (i := 5) (v := ?_) rfl rfl (by kernel_rfl) (by kernel_rfl) (by kernel_rfl) (by kernel_rfl) (fun _ _ _ h => h) (Or.inl ⟨by rfl, ?_⟩) ?_; rotate_left; (focus (intro wS hSw; (try dsimp only at hSw); go_simp; first | done | with_reducible rfl)); (try simp only [Act.put, List.getElem_toArray, List.getElem_cons_zero, List.getElem_cons_succ, List.setIfInBounds_toArray, List.set_cons_zero, List.set_cons_succ]))
    refine NJ.three (i := 2) (j := 8) (k := 9) (by kernel_rfl) ⟨_, rfl, rfl, fun hSat K hK => ?_⟩ ⟨_, rfl, rfl, fun hSat K hK => ?_⟩ ⟨_, rfl, rfl, fun hSat K hK => ?_⟩
    · go_simp
      refine Calls.mono (HF2.out _ HB.out) ?_
      rintro e u1 ⟨X1, x1, rfl, hx, hb, -⟩
      replace HK := Lib.hid (HK.out.on hb)
      replace HB := Lib.hid (HB.out.trans (hb.mono HB.out.size))
      have HX1 := Lib.hid hx
      clear hx
      clear hb
      go_wp2_with fail
      refine hK.out _ _ ?_ ?_
      · exact HK.out.tl.six
      clear hK hSat K
      (try simp only [Act.put, List.getElem_toArray, List.getElem_cons_zero, List.getElem_cons_succ, List.setIfInBounds_toArray, List.set_cons_zero, List.set_cons_succ])
      refine NJ.three (i := 3) (j := 8) (k := 9) (by kernel_rfl) ⟨_, rfl, rfl, fun hSat K hK => ?_⟩ ⟨_, rfl, rfl, fun hSat K hK => ?_⟩ ⟨_, rfl, rfl, fun hSat K hK => ?_⟩
      · go_simp
        refine Calls.mono (HOT.out _ _ _ HK.out.b HX1.out) ?_
        rintro e u2 ⟨rfl, hb⟩
        replace HK := Lib.hid (HK.out.on hb)
        replace HB := Lib.hid (HB.out.trans (hb.mono HB.out.size))
        clear HX1
        clear hb
        go_wp2_with fail
        refine hK.out _ _ ?_ ?_
        · exact HK.out.tl.six
        clear hK hSat K
        (try simp only [Act.put, List.getElem_toArray, List.getElem_cons_zero, List.getElem_cons_succ, List.setIfInBounds_toArray, List.set_cons_zero, List.set_cons_succ])
        refine NJ.three (i := 6) (j := 8) (k := 9) (by kernel_rfl) ⟨_, rfl, rfl, fun hSat K hK => ?_⟩ ⟨_, rfl, rfl, fun hSat K hK => ?_⟩ ⟨_, rfl, rfl, fun hSat K hK => ?_⟩
        · go_simp
          refine Calls.mono (HF2.out _ HB.out) ?_
          rintro e u3 ⟨X2, x2, rfl, hx, hb, -⟩
          replace HK := Lib.hid (HK.out.on hb)
          replace HB := Lib.hid (HB.out.trans (hb.mono HB.out.size))
          have HX2 := Lib.hid hx
          clear hx
          clear hb
          go_wp2_with fail
          refine hK.out _ _ ?_ ?_
          · exact HK.out.tl.six
          clear hK hSat K
          (try simp only [Act.put, List.getElem_toArray, List.getElem_cons_zero, List.getElem_cons_succ, List.setIfInBounds_toArray, List.set_cons_zero, List.set_cons_succ])
          refine NJ.three (i := 7) (j := 8) (k := 9) (by kernel_rfl) ⟨_, rfl, rfl, fun hSat K hK => ?_⟩ ⟨_, rfl, rfl, fun hSat K hK => ?_⟩ ⟨_, rfl, rfl, fun hSat K hK => ?_⟩
          · go_simp
            refine Calls.mono (HOF.out _ _ _ HK.out.b HX2.out) ?_
            rintro e u4 ⟨rfl, hb⟩
            replace HK := Lib.hid (HK.out.on hb)
            replace HB := Lib.hid (HB.out.trans (hb.mono HB.out.size))
            clear HX2
            clear hb
            go_wp2_with fail
            refine hK.out _ _ ?_ ?_
            · exact HK.out.tl.six
            clear hK hSat K
            (try simp only [Act.put, List.getElem_toArray, List.getElem_cons_zero, List.getElem_cons_succ, List.setIfInBounds_toArray, List.set_cons_zero, List.set_cons_succ])
            refine NJ.two (i := 8) (j := 9) (by kernel_rfl) ⟨_, rfl, rfl, fun hSat K hK => ?_⟩ ⟨_, rfl, rfl, fun hSat K hK => ?_⟩
            · go_simp
              have hb := below_box u4 (.cells #[.int .i64 0, .string ⟨#[]⟩, .int .i64 0, .bool false] 30)
              replace HK := Lib.hid (HK.out.box (.cells #[.int .i64 0, .string ⟨#[]⟩, .int .i64 0, .bool false] 30))
              have hle := HB.out.size
              replace HB := Lib.hid (HB.out.trans (hb.mono HB.out.size))
              have L8 := Lib.hid (Nat.le_trans HWV.out hle)
              have LT8 := Lib.hid (show u4.heap.size < (u4.alloc (.cells #[.int .i64 0, .string ⟨#[]⟩, .int .i64 0, .bool false] 30)).heap.size by simp)
              clear hb hle
              generalize u4.alloc (.cells #[.int .i64 0, .string ⟨#[]⟩, .int .i64 0, .bool false] 30) = u5 at *
              generalize u4.heap.size = b8 at *
              refine hK.out _ _ ?_ ?_
              · exact HK.out.tl.tl.six
              clear hK hSat K
              (try simp only [Act.put, List.getElem_toArray, List.getElem_cons_zero, List.getElem_cons_succ, List.setIfInBounds_toArray, List.set_cons_zero, List.set_cons_succ])
              refine NJ.step (i := 9) rfl rfl (by kernel_rfl) (fun hSat K hK => ?_)
              go_simp
              have hb := below_box u5 (.cells #[.int .i64 0, .string ⟨#[]⟩, .int .i64 0, .bool false] 30)
              replace HK := Lib.hid (HK.out.box (.cells #[.int .i64 0, .string ⟨#[]⟩, .int .i64 0, .bool false] 30))
              have hle := HB.out.size
              replace HB := Lib.hid (HB.out.trans (hb.mono HB.out.size))
              have HNE := Lib.hid (show b8 ≠ u5.heap.size from by have := LT8.out; omega)
              clear LT8
              have L9 := Lib.hid (Nat.le_trans HWV.out hle)
              clear hb hle
              generalize u5.alloc (.cells #[.int .i64 0, .string ⟨#[]⟩, .int .i64 0, .bool false] 30) = u6 at *
              generalize u5.heap.size = b9 at *
              refine hK.out _ _ ?_ ?_
              · exact HK.out.tl.tl.tl.six
              clear hK hSat K
              (try simp only [Act.put, List.getElem_toArray, List.getElem_cons_zero, List.getElem_cons_succ, List.setIfInBounds_toArray, List.set_cons_zero, List.set_cons_succ])
              obtain ⟨q0, q1, q2, q3, fq, -⟩ := jud_cells HK.out.tl.h0
              obtain ⟨s0, s1, s2, s3, fs, -⟩ := jud_cells HK.out.h0
              have HPU := Lib.hid (Kp.puts (v6 := y1) (s6 := y2) (v7 := z1) (s7 := z2) HK.out.b HK.out.tl.h0 HK.out.h0 HK.out.tl.tl.h0 HK.out.tl.tl.tl.h0 HK.out.tl.tl.tl.tl.h0 HNE.out L8.out L9.out)
              have HN := Lib.hid (Ne.symm HNE.out)
              have hne := HNE.out
              have hne2 := HN.out
              clear HK HB HNE HN L8 L9
              (refine NJ.over rfl (by kernel_rfl) (fun hSat K hK => ?_); go_simp; refine hK.out _ _ ?_; clear hK hSat K; (try simp only [Act.put, List.getElem_toArray, List.getElem_cons_zero, List.getElem_cons_succ, List.setIfInBounds_toArray, List.set_cons_zero, List.set_cons_succ]))
              (refine wpAnyN_tail (i := 11) rfl rfl (by kernel_rfl) (fun K hK => ?_); go_simp; refine hK.out _ _ ?_; clear hK K; (try simp only [Act.put, List.getElem_toArray, List.getElem_cons_zero, List.getElem_cons_succ, List.setIfInBounds_toArray, List.set_cons_zero, List.set_cons_succ]))
              refine wpAnyN_fin (by kernel_rfl) ?_
              go_wp2_with fail
              go_meet
              exact ⟨b8, b9, rfl, rfl, HPU.out⟩
            · go_simp
              have hb := below_box u4 (.cells #[.int .i64 0, .string ⟨#[]⟩, .int .i64 0, .bool false] 30)
              replace HK := Lib.hid (HK.out.box (.cells #[.int .i64 0, .string ⟨#[]⟩, .int .i64 0, .bool false] 30))
              have hle := HB.out.size
              replace HB := Lib.hid (HB.out.trans (hb.mono HB.out.size))
              have L9 := Lib.hid (Nat.le_trans HWV.out hle)
              have LT9 := Lib.hid (show u4.heap.size < (u4.alloc (.cells #[.int .i64 0, .string ⟨#[]⟩, .int .i64 0, .bool false] 30)).heap.size by simp)
              clear hb hle
              generalize u4.alloc (.cells #[.int .i64 0, .string ⟨#[]⟩, .int .i64 0, .bool false] 30) = u5 at *
              generalize u4.heap.size = b9 at *
              refine hK.out _ _ ?_ ?_
              · exact HK.out.tl.tl.six
              clear hK hSat K
              (try simp only [Act.put, List.getElem_toArray, List.getElem_cons_zero, List.getElem_cons_succ, List.setIfInBounds_toArray, List.set_cons_zero, List.set_cons_succ])
              refine NJ.step (i := 8) rfl rfl (by kernel_rfl) (fun hSat K hK => ?_)
              go_simp
              have hb := below_box u5 (.cells #[.int .i64 0, .string ⟨#[]⟩, .int .i64 0, .bool false] 30)
              replace HK := Lib.hid (HK.out.box (.cells #[.int .i64 0, .string ⟨#[]⟩, .int .i64 0, .bool false] 30))
              have hle := HB.out.size
              replace HB := Lib.hid (HB.out.trans (hb.mono HB.out.size))
              have HNE := Lib.hid (show u5.heap.size ≠ b9 from by have := LT9.out; omega)
              clear LT9
              have L8 := Lib.hid (Nat.le_trans HWV.out hle)
              clear hb hle
              generalize u5.alloc (.cells #[.int .i64 0, .string ⟨#[]⟩, .int .i64 0, .bool false] 30) = u6 at *
              generalize u5.heap.size = b8 at *
              refine hK.out _ _ ?_ ?_
              · exact HK.out.tl.tl.tl.six
              clear hK hSat K
              (try simp only [Act.put, List.getElem_toArray, List.getElem_cons_zero, List.getElem_cons_succ, List.setIfInBounds_toArray, List.set_cons_zero, List.set_cons_succ])
              obtain ⟨q0, q1, q2, q3, fq, -⟩ := jud_cells HK.out.h0
              obtain ⟨s0, s1, s2, s3, fs, -⟩ := jud_cells HK.out.tl.h0
              have HPU := Lib.hid (Kp.puts (v6 := y1) (s6 := y2) (v7 := z1) (s7 := z2) HK.out.b HK.out.h0 HK.out.tl.h0 HK.out.tl.tl.h0 HK.out.tl.tl.tl.h0 HK.out.tl.tl.tl.tl.h0 HNE.out L8.out L9.out)
              have HN := Lib.hid (Ne.symm HNE.out)
              have hne := HNE.out
              have hne2 := HN.out
              clear HK HB HNE HN L8 L9
              (refine NJ.over rfl (by kernel_rfl) (fun hSat K hK => ?_); go_simp; refine hK.out _ _ ?_; clear hK hSat K; (try simp only [Act.put, List.getElem_toArray, List.getElem_cons_zero, List.getElem_cons_succ, List.setIfInBounds_toArray, List.set_cons_zero, List.set_cons_succ]))
              (refine wpAnyN_tail (i := 11) rfl rfl (by kernel_rfl) (fun K hK => ?_); go_simp; refine hK.out _ _ ?_; clear hK K; (try simp only [Act.put, List.getElem_toArray, List.getElem_cons_zero, List.getElem_cons_succ, List.setIfInBounds_toArray, List.set_cons_zero, List.set_cons_succ]))
              refine wpAnyN_fin (by kernel_rfl) ?_
              go_wp2_with fail
              go_meet
              exact ⟨b8, b9, rfl, rfl, HPU.out⟩
          · go_simp
            have hb := below_box u3 (.cells #[.int .i64 0, .string ⟨#[]⟩, .int .i64 0, .bool false] 30)
            replace HK := Lib.hid (HK.out.box (.cells #[.int .i64 0, .string ⟨#[]⟩, .int .i64 0, .bool false] 30))
            have hle := HB.out.size
            replace HB := Lib.hid (HB.out.trans (hb.mono HB.out.size))
            replace HX2 := Lib.hid (HX2.out.on hb)
            have L8 := Lib.hid (Nat.le_trans HWV.out hle)
            have LT8 := Lib.hid (show u3.heap.size < (u3.alloc (.cells #[.int .i64 0, .string ⟨#[]⟩, .int .i64 0, .bool false] 30)).heap.size by simp)
            clear hb hle
            generalize u3.alloc (.cells #[.int .i64 0, .string ⟨#[]⟩, .int .i64 0, .bool false] 30) = u4 at *
            generalize u3.heap.size = b8 at *
            refine hK.out _ _ ?_ ?_
            · exact HK.out.tl.tl.six
            clear hK hSat K
            (try simp only [Act.put, List.getElem_toArray, List.getElem_cons_zero, List.getElem_cons_succ, List.setIfInBounds_toArray, List.set_cons_zero, List.set_cons_succ])
            refine NJ.two (i := 7) (j := 9) (by kernel_rfl) ⟨_, rfl, rfl, fun hSat K hK => ?_⟩ ⟨_, rfl, rfl, fun hSat K hK => ?_⟩
            · go_simp
              refine Calls.mono (HOF.out _ _ _ HK.out.b HX2.out) ?_
              rintro e u5 ⟨rfl, hb⟩
              replace HK := Lib.hid (HK.out.on hb)
              replace HB := Lib.hid (HB.out.trans (hb.mono HB.out.size))
              clear HX2
              replace LT8 := Lib.hid (Nat.lt_of_lt_of_le LT8.out hb.size)
              clear hb
              go_wp2_with fail
              refine hK.out _ _ ?_ ?_
              · exact HK.out.tl.tl.six
              clear hK hSat K
              (try simp only [Act.put, List.getElem_toArray, List.getElem_cons_zero, List.getElem_cons_succ, List.setIfInBounds_toArray, List.set_cons_zero, List.set_cons_succ])
              refine NJ.step (i := 9) rfl rfl (by kernel_rfl) (fun hSat K hK => ?_)
              go_simp
              have hb := below_box u5 (.cells #[.int .i64 0, .string ⟨#[]⟩, .int .i64 0, .bool false] 30)
              replace HK := Lib.hid (HK.out.box (.cells #[.int .i64 0, .string ⟨#[]⟩, .int .i64 0, .bool false] 30))
              have hle := HB.out.size
              replace HB := Lib.hid (HB.out.trans (hb.mono HB.out.size))
              have HNE := Lib.hid (show b8 ≠ u5.heap.size from by have := LT8.out; omega)
              clear LT8
              have L9 := Lib.hid (Nat.le_trans HWV.out hle)
              clear hb hle
              generalize u5.alloc (.cells #[.int .i64 0, .string ⟨#[]⟩, .int .i64 0, .bool false] 30) = u6 at *
              generalize u5.heap.size = b9 at *
              refine hK.out _ _ ?_ ?_
              · exact HK.out.tl.tl.tl.six
              clear hK hSat K
              (try simp only [Act.put, List.getElem_toArray, List.getElem_cons_zero, List.getElem_cons_succ, List.setIfInBounds_toArray, List.set_cons_zero, List.set_cons_succ])
              obtain ⟨q0, q1, q2, q3, fq, -⟩ := jud_cells HK.out.tl.h0
              obtain ⟨s0, s1, s2, s3, fs, -⟩ := jud_cells HK.out.h0
              have HPU := Lib.hid (Kp.puts (v6 := y1) (s6 := y2) (v7 := z1) (s7 := z2) HK.out.b HK.out.tl.h0 HK.out.h0 HK.out.tl.tl.h0 HK.out.tl.tl.tl.h0 HK.out.tl.tl.tl.tl.h0 HNE.out L8.out L9.out)
              have HN := Lib.hid (Ne.symm HNE.out)
              have hne := HNE.out
              have hne2 := HN.out
              clear HK HB HNE HN L8 L9
              (refine NJ.over rfl (by kernel_rfl) (fun hSat K hK => ?_); go_simp; refine hK.out _ _ ?_; clear hK hSat K; (try simp only [Act.put, List.getElem_toArray, List.getElem_cons_zero, List.getElem_cons_succ, List.setIfInBounds_toArray, List.set_cons_zero, List.set_cons_succ]))
              (refine wpAnyN_tail (i := 11) rfl rfl (by kernel_rfl) (fun K hK => ?_); go_simp; refine hK.out _ _ ?_; clear hK K; (try simp only [Act.put, List.getElem_toArray, List.getElem_cons_zero, List.getElem_cons_succ, List.setIfInBounds_toArray, List.set_cons_zero, List.set_cons_succ]))
              refine wpAnyN_fin (by kernel_rfl) ?_
              go_wp2_with fail
              go_meet
              exact ⟨b8, b9, rfl, rfl, HPU.out⟩
            · go_simp
              have hb := below_box u4 (.cells #[.int .i64 0, .string ⟨#[]⟩, .int .i64 0, .bool false] 30)
              replace HK := Lib.hid (HK.out.box (.cells #[.int .i64 0, .string ⟨#[]⟩, .int .i64 0, .bool false] 30))
              have hle := HB.out.size
              replace HB := Lib.hid (HB.out.trans (hb.mono HB.out.size))
              replace HX2 := Lib.hid (HX2.out.on hb)
              have HNE := Lib.hid (show b8 ≠ u4.heap.size from by have := LT8.out; omega)
              clear LT8
              have L9 := Lib.hid (Nat.le_trans HWV.out hle)
              clear hb hle
              generalize u4.alloc (.cells #[.int .i64 0, .string ⟨#[]⟩, .int .i64 0, .bool false] 30) = u5 at *
              generalize u4.heap.size = b9 at *
              refine hK.out _ _ ?_ ?_
              · exact HK.out.tl.tl.tl.six
              clear hK hSat K
              (try simp only [Act.put, List.getElem_toArray, List.getElem_cons_zero, List.getElem_cons_succ, List.setIfInBounds_toArray, List.set_cons_zero, List.set_cons_succ])
              refine NJ.step (i := 7) rfl rfl (by kernel_rfl) (fun hSat K hK => ?_)
              go_simp
              refine Calls.mono (HOF.out _ _ _ HK.out.b HX2.out) ?_
              rintro e u6 ⟨rfl, hb⟩
              replace HK := Lib.hid (HK.out.on hb)
              replace HB := Lib.hid (HB.out.trans (hb.mono HB.out.size))
              clear HX2
              clear hb
              go_wp2_with fail
              refine hK.out _ _ ?_ ?_
              · exact HK.out.tl.tl.tl.six
              clear hK hSat K
              (try simp only [Act.put, List.getElem_toArray, List.getElem_cons_zero, List.getElem_cons_succ, List.setIfInBounds_toArray, List.set_cons_zero, List.set_cons_succ])
              obtain ⟨q0, q1, q2, q3, fq, -⟩ := jud_cells HK.out.tl.h0
              obtain ⟨s0, s1, s2, s3, fs, -⟩ := jud_cells HK.out.h0
              have HPU := Lib.hid (Kp.puts (v6 := y1) (s6 := y2) (v7 := z1) (s7 := z2) HK.out.b HK.out.tl.h0 HK.out.h0 HK.out.tl.tl.h0 HK.out.tl.tl.tl.h0 HK.out.tl.tl.tl.tl.h0 HNE.out L8.out L9.out)
              have HN := Lib.hid (Ne.symm HNE.out)
              have hne := HNE.out
              have hne2 := HN.out
              clear HK HB HNE HN L8 L9
              (refine NJ.over rfl (by kernel_rfl) (fun hSat K hK => ?_); go_simp; refine hK.out _ _ ?_; clear hK hSat K; (try simp only [Act.put, List.getElem_toArray, List.getElem_cons_zero, List.getElem_cons_succ, List.setIfInBounds_toArray, List.set_cons_zero, List.set_cons_succ]))
              (refine wpAnyN_tail (i := 11) rfl rfl (by kernel_rfl) (fun K hK => ?_); go_simp; refine hK.out _ _ ?_; clear hK K; (try simp only [Act.put, List.getElem_toArray, List.getElem_cons_zero, List.getElem_cons_succ, List.setIfInBounds_toArray, List.set_cons_zero, List.set_cons_succ]))
              refine wpAnyN_fin (by kernel_rfl) ?_
              go_wp2_with fail
              go_meet
              exact ⟨b8, b9, rfl, rfl, HPU.out⟩
          · go_simp
            have hb := below_box u3 (.cells #[.int .i64 0, .string ⟨#[]⟩, .int .i64 0, .bool false] 30)
            replace HK := Lib.hid (HK.out.box (.cells #[.int .i64 0, .string ⟨#[]⟩, .int .i64 0, .bool false] 30))
            have hle := HB.out.size
            replace HB := Lib.hid (HB.out.trans (hb.mono HB.out.size))
            replace HX2 := Lib.hid (HX2.out.on hb)
            have L9 := Lib.hid (Nat.le_trans HWV.out hle)
            have LT9 := Lib.hid (show u3.heap.size < (u3.alloc (.cells #[.int .i64 0, .string ⟨#[]⟩, .int .i64 0, .bool false] 30)).heap.size by simp)
            clear hb hle
            generalize u3.alloc (.cells #[.int .i64 0, .string ⟨#[]⟩, .int .i64 0, .bool false] 30) = u4 at *
            generalize u3.heap.size = b9 at *
            refine hK.out _ _ ?_ ?_
            · exact HK.out.tl.tl.six
            clear hK hSat K
            (try simp only [Act.put, List.getElem_toArray, List.getElem_cons_zero, List.getElem_cons_succ, List.setIfInBounds_toArray, List.set_cons_zero, List.set_cons_succ])
            refine NJ.two (i := 7) (j := 8) (by kernel_rfl) ⟨_, rfl, rfl, fun hSat K hK => ?_⟩ ⟨_, rfl, rfl, fun hSat K hK => ?_⟩
            · go_simp
              refine Calls.mono (HOF.out _ _ _ HK.out.b HX2.out) ?_
              rintro e u5 ⟨rfl, hb⟩
              replace HK := Lib.hid (HK.out.on hb)
              replace HB := Lib.hid (HB.out.trans (hb.mono HB.out.size))
              clear HX2
              replace LT9 := Lib.hid (Nat.lt_of_lt_of_le LT9.out hb.size)
              clear hb
              go_wp2_with fail
              refine hK.out _ _ ?_ ?_
              · exact HK.out.tl.tl.six
              clear hK hSat K
              (try simp only [Act.put, List.getElem_toArray, List.getElem_cons_zero, List.getElem_cons_succ, List.setIfInBounds_toArray, List.set_cons_zero, List.set_cons_succ])
              refine NJ.step (i := 8) rfl rfl (by kernel_rfl) (fun hSat K hK => ?_)
              go_simp
              have hb := below_box u5 (.cells #[.int .i64 0, .string ⟨#[]⟩, .int .i64 0, .bool false] 30)
              replace HK := Lib.hid (HK.out.box (.cells #[.int .i64 0, .string ⟨#[]⟩, .int .i64 0, .bool false] 30))
              have hle := HB.out.size
              replace HB := Lib.hid (HB.out.trans (hb.mono HB.out.size))
              have HNE := Lib.hid (show u5.heap.size ≠ b9 from by have := LT9.out; omega)
              clear LT9
              have L8 := Lib.hid (Nat.le_trans HWV.out hle)
              clear hb hle
              generalize u5.alloc (.cells #[.int .i64 0, .string ⟨#[]⟩, .int .i64 0, .bool false] 30) = u6 at *
              generalize u5.heap.size = b8 at *
              refine hK.out _ _ ?_ ?_
              · exact HK.out.tl.tl.tl.six
              clear hK hSat K
              (try simp only [Act.put, List.getElem_toArray, List.getElem_cons_zero, List.getElem_cons_succ, List.setIfInBounds_toArray, List.set_cons_zero, List.set_cons_succ])
              obtain ⟨q0, q1, q2, q3, fq, -⟩ := jud_cells HK.out.h0
              obtain ⟨s0, s1, s2, s3, fs, -⟩ := jud_cells HK.out.tl.h0
              have HPU := Lib.hid (Kp.puts (v6 := y1) (s6 := y2) (v7 := z1) (s7 := z2) HK.out.b HK.out.h0 HK.out.tl.h0 HK.out.tl.tl.h0 HK.out.tl.tl.tl.h0 HK.out.tl.tl.tl.tl.h0 HNE.out L8.out L9.out)
              have HN := Lib.hid (Ne.symm HNE.out)
              have hne := HNE.out
              have hne2 := HN.out
              clear HK HB HNE HN L8 L9
              (refine NJ.over rfl (by kernel_rfl) (fun hSat K hK => ?_); go_simp; refine hK.out _ _ ?_; clear hK hSat K; (try simp only [Act.put, List.getElem_toArray, List.getElem_cons_zero, List.getElem_cons_succ, List.setIfInBounds_toArray, List.set_cons_zero, List.set_cons_succ]))
              (refine wpAnyN_tail (i := 11) rfl rfl (by kernel_rfl) (fun K hK => ?_); go_simp; refine hK.out _ _ ?_; clear hK K; (try simp only [Act.put, List.getElem_toArray, List.getElem_cons_zero, List.getElem_cons_succ, List.setIfInBounds_toArray, List.set_cons_zero, List.set_cons_succ]))
              refine wpAnyN_fin (by kernel_rfl) ?_
              go_wp2_with fail
              go_meet
              exact ⟨b8, b9, rfl, rfl, HPU.out⟩
            · go_simp
              have hb := below_box u4 (.cells #[.int .i64 0, .string ⟨#[]⟩, .int .i64 0, .bool false] 30)
              replace HK := Lib.hid (HK.out.box (.cells #[.int .i64 0, .string ⟨#[]⟩, .int .i64 0, .bool false] 30))
              have hle := HB.out.size
              replace HB := Lib.hid (HB.out.trans (hb.mono HB.out.size))
              replace HX2 := Lib.hid (HX2.out.on hb)
              have HNE := Lib.hid (show u4.heap.size ≠ b9 from by have := LT9.out; omega)
              clear LT9
              have L8 := Lib.hid (Nat.le_trans HWV.out hle)
              clear hb hle
              generalize u4.alloc (.cells #[.int .i64 0, .string ⟨#[]⟩, .int .i64 0, .bool false] 30) = u5 at *
              generalize u4.heap.size = b8 at *
              refine hK.out _ _ ?_ ?_
              · exact HK.out.tl.tl.tl.six
              clear hK hSat K
              (try simp only [Act.put, List.getElem_toArray, List.getElem_cons_zero, List.getElem_cons_succ, List.setIfInBounds_toArray, List.set_cons_zero, List.set_cons_succ])
              refine NJ.step (i := 7) rfl rfl (by kernel_rfl) (fun hSat K hK => ?_)
              go_simp
              refine Calls.mono (HOF.out _ _ _ HK.out.b HX2.out) ?_
              rintro e u6 ⟨rfl, hb⟩
              replace HK := Lib.hid (HK.out.on hb)
              replace HB := Lib.hid (HB.out.trans (hb.mono HB.out.size))
              clear HX2
              clear hb
              go_wp2_with fail
              refine hK.out _ _ ?_ ?_
              · exact HK.out.tl.tl.tl.six
              clear hK hSat K
              (try simp only [Act.put, List.getElem_toArray, List.getElem_cons_zero, List.getElem_cons_succ, List.setIfInBounds_toArray, List.set_cons_zero, List.set_cons_succ])
              obtain ⟨q0, q1, q2, q3, fq, -⟩ := jud_cells HK.out.h0
              obtain ⟨s0, s1, s2, s3, fs, -⟩ := jud_cells HK.out.tl.h0
              have HPU := Lib.hid (Kp.puts (v6 := y1) (s6 := y2) (v7 := z1) (s7 := z2) HK.out.b HK.out.h0 HK.out.tl.h0 HK.out.tl.tl.h0 HK.out.tl.tl.tl.h0 HK.out.tl.tl.tl.tl.h0 HNE.out L8.out L9.out)
              have HN := Lib.hid (Ne.symm HNE.out)
              have hne := HNE.out
              have hne2 := HN.out
              clear HK HB HNE HN L8 L9
              (refine NJ.over rfl (by kernel_rfl) (fun hSat K hK => ?_); go_simp; refine hK.out _ _ ?_; clear hK hSat K; (try simp only [Act.put, List.getElem_toArray, List.getElem_cons_zero, List.getElem_cons_succ, List.setIfInBounds_toArray, List.set_cons_zero, List.set_cons_succ]))
              (refine wpAnyN_tail (i := 11) rfl rfl (by kernel_rfl) (fun K hK => ?_); go_simp; refine hK.out _ _ ?_; clear hK K; (try simp only [Act.put, List.getElem_toArray, List.getElem_cons_zero, List.getElem_cons_succ, List.setIfInBounds_toArray, List.set_cons_zero, List.set_cons_succ]))
              refine wpAnyN_fin (by kernel_rfl) ?_
              go_wp2_with fail
              go_meet
              exact ⟨b8, b9, rfl, rfl, HPU.out⟩
        · go_simp
          have hb := below_box u2 (.cells #[.int .i64 0, .string ⟨#[]⟩, .int .i64 0, .bool false] 30)
          replace HK := Lib.hid (HK.out.box (.cells #[.int .i64 0, .string ⟨#[]⟩, .int .i64 0, .bool false] 30))
          have hle := HB.out.size
          replace HB := Lib.hid (HB.out.trans (hb.mono HB.out.size))
          have L8 := Lib.hid (Nat.le_trans HWV.out hle)
          have LT8 := Lib.hid (show u2.heap.size < (u2.alloc (.cells #[.int .i64 0, .string ⟨#[]⟩, .int .i64 0, .bool false] 30)).heap.size by simp)
          clear hb hle
          generalize u2.alloc (.cells #[.int .i64 0, .string ⟨#[]⟩, .int .i64 0, .bool false] 30) = u3 at *
          generalize u2.heap.size = b8 at *
          refine hK.out _ _ ?_ ?_
          · exact HK.out.tl.tl.six
          clear hK hSat K
          (try simp only [Act.put, List.getElem_toArray, List.getElem_cons_zero, List.getElem_cons_succ, List.setIfInBounds_toArray, List.set_cons_zero, List.set_cons_succ])
          refine NJ.two (i := 6) (j := 9) (by kernel_rfl) ⟨_, rfl, rfl, fun hSat K hK => ?_⟩ ⟨_, rfl, rfl, fun hSat K hK => ?_⟩
          · go_simp
            refine Calls.mono (HF2.out _ HB.out) ?_
            rintro e u4 ⟨X2, x2, rfl, hx, hb, -⟩
            replace HK := Lib.hid (HK.out.on hb)
            replace HB := Lib.hid (HB.out.trans (hb.mono HB.out.size))
            have HX2 := Lib.hid hx
            clear hx
            replace LT8 := Lib.hid (Nat.lt_of_lt_of_le LT8.out hb.size)
            clear hb
            go_wp2_with fail
            refine hK.out _ _ ?_ ?_
            · exact HK.out.tl.tl.six
            clear hK hSat K
            (try simp only [Act.put, List.getElem_toArray, List.getElem_cons_zero, List.getElem_cons_succ, List.setIfInBounds_toArray, List.set_cons_zero, List.set_cons_succ])
            refine NJ.two (i := 7) (j := 9) (by kernel_rfl) ⟨_, rfl, rfl, fun hSat K hK => ?_⟩ ⟨_, rfl, rfl, fun hSat K hK => ?_⟩
            · go_simp
              refine Calls.mono (HOF.out _ _ _ HK.out.b HX2.out) ?_
              rintro e u5 ⟨rfl, hb⟩
              replace HK := Lib.hid (HK.out.on hb)
              replace HB := Lib.hid (HB.out.trans (hb.mono HB.out.size))
              clear HX2
              replace LT8 := Lib.hid (Nat.lt_of_lt_of_le LT8.out hb.size)
              clear hb
              go_wp2_with fail
              refine hK.out _ _ ?_ ?_
              · exact HK.out.tl.tl.six
              clear hK hSat K
              (try simp only [Act.put, List.getElem_toArray, List.getElem_cons_zero, List.getElem_cons_succ, List.setIfInBounds_toArray, List.set_cons_zero, List.set_cons_succ])
              refine NJ.step (i := 9) rfl rfl (by kernel_rfl) (fun hSat K hK => ?_)
              go_simp
              have hb := below_box u5 (.cells #[.int .i64 0, .string ⟨#[]⟩, .int .i64 0, .bool false] 30)
              replace HK := Lib.hid (HK.out.box (.cells #[.int .i64 0, .string ⟨#[]⟩, .int .i64 0, .bool false] 30))
              have hle := HB.out.size
              replace HB := Lib.hid (HB.out.trans (hb.mono HB.out.size))
              have HNE := Lib.hid (show b8 ≠ u5.heap.size from by have := LT8.out; omega)
              clear LT8
              have L9 := Lib.hid (Nat.le_trans HWV.out hle)
              clear hb hle
              generalize u5.alloc (.cells #[.int .i64 0, .string ⟨#[]⟩, .int .i64 0, .bool false] 30) = u6 at *
              generalize u5.heap.size = b9 at *
              refine hK.out _ _ ?_ ?_
              · exact HK.out.tl.tl.tl.six
              clear hK hSat K
              (try simp only [Act.put, List.getElem_toArray, List.getElem_cons_zero, List.getElem_cons_succ, List.setIfInBounds_toArray, List.set_cons_zero, List.set_cons_succ])
              obtain ⟨q0, q1, q2, q3, fq, -⟩ := jud_cells HK.out.tl.h0
              obtain ⟨s0, s1, s2, s3, fs, -⟩ := jud_cells HK.out.h0
              have HPU := Lib.hid (Kp.puts (v6 := y1) (s6 := y2) (v7 := z1) (s7 := z2) HK.out.b HK.out.tl.h0 HK.out.h0 HK.out.tl.tl.h0 HK.out.tl.tl.tl.h0 HK.out.tl.tl.tl.tl.h0 HNE.out L8.out L9.out)
              have HN := Lib.hid (Ne.symm HNE.out)
              have hne := HNE.out
              have hne2 := HN.out
              clear HK HB HNE HN L8 L9
              (refine NJ.over rfl (by kernel_rfl) (fun hSat K hK => ?_); go_simp; refine hK.out _ _ ?_; clear hK hSat K; (try simp only [Act.put, List.getElem_toArray, List.getElem_cons_zero, List.getElem_cons_succ, List.setIfInBounds_toArray, List.set_cons_zero, List.set_cons_succ]))
              (refine wpAnyN_tail (i := 11) rfl rfl (by kernel_rfl) (fun K hK => ?_); go_simp; refine hK.out _ _ ?_; clear hK K; (try simp only [Act.put, List.getElem_toArray, List.getElem_cons_zero, List.getElem_cons_succ, List.setIfInBounds_toArray, List.set_cons_zero, List.set_cons_succ]))
              refine wpAnyN_fin (by kernel_rfl) ?_
              go_wp2_with fail
              go_meet
              exact ⟨b8, b9, rfl, rfl, HPU.out⟩
            · go_simp
              have hb := below_box u4 (.cells #[.int .i64 0, .string ⟨#[]⟩, .int .i64 0, .bool false] 30)
              replace HK := Lib.hid (HK.out.box (.cells #[.int .i64 0, .string ⟨#[]⟩, .int .i64 0, .bool false] 30))
              have hle := HB.out.size
              replace HB := Lib.hid (HB.out.trans (hb.mono HB.out.size))
              replace HX2 := Lib.hid (HX2.out.on hb)
              have HNE := Lib.hid (show b8 ≠ u4.heap.size from by have := LT8.out; omega)
              clear LT8
              have L9 := Lib.hid (Nat.le_trans HWV.out hle)
              clear hb hle
              generalize u4.alloc (.cells #[.int .i64 0, .string ⟨#[]⟩, .int .i64 0, .bool false] 30) = u5 at *
              generalize u4.heap.size = b9 at *
              refine hK.out _ _ ?_ ?_
              · exact HK.out.tl.tl.tl.six
              clear hK hSat K
              (try simp only [Act.put, List.getElem_toArray, List.getElem_cons_zero, List.getElem_cons_succ, List.setIfInBounds_toArray, List.set_cons_zero, List.set_cons_succ])
              refine NJ.step (i := 7) rfl rfl (by kernel_rfl) (fun hSat K hK => ?_)
              go_simp
              refine Calls.mono (HOF.out _ _ _ HK.out.b HX2.out) ?_
              rintro e u6 ⟨rfl, hb⟩
              replace HK := Lib.hid (HK.out.on hb)
              replace HB := Lib.hid (HB.out.trans (hb.mono HB.out.size))
              clear HX2
              clear hb
              go_wp2_with fail
              refine hK.out _ _ ?_ ?_
              · exact HK.out.tl.tl.tl.six
              clear hK hSat K
              (try simp only [Act.put, List.getElem_toArray, List.getElem_cons_zero, List.getElem_cons_succ, List.setIfInBounds_toArray, List.set_cons_zero, List.set_cons_succ])
              obtain ⟨q0, q1, q2, q3, fq, -⟩ := jud_cells HK.out.tl.h0
              obtain ⟨s0, s1, s2, s3, fs, -⟩ := jud_cells HK.out.h0
              have HPU := Lib.hid (Kp.puts (v6 := y1) (s6 := y2) (v7 := z1) (s7 := z2) HK.out.b HK.out.tl.h0 HK.out.h0 HK.out.tl.tl.h0 HK.out.tl.tl.tl.h0 HK.out.tl.tl.tl.tl.h0 HNE.out L8.out L9.out)
              have HN := Lib.hid (Ne.symm HNE.out)
              have hne := HNE.out
              have hne2 := HN.out
              clear HK HB HNE HN L8 L9
              (refine NJ.over rfl (by kernel_rfl) (fun hSat K hK => ?_); go_simp; refine hK.out _ _ ?_; clear hK hSat K; (try simp only [Act.put, List.getElem_toArray, List.getElem_cons_zero, List.getElem_cons_succ, List.setIfInBounds_toArray, List.set_cons_zero, List.set_cons_succ]))
              (refine wpAnyN_tail (i := 11) rfl rfl (by kernel_rfl) (fun K hK => ?_); go_simp; refine hK.out _ _ ?_; clear hK K; (try simp only [Act.put, List.getElem_toArray, List.getElem_cons_zero, List.getElem_cons_succ, List.setIfInBounds_toArray, List.set_cons_zero, List.set_cons_succ]))
              refine wpAnyN_fin (by kernel_rfl) ?_
              go_wp2_with fail
              go_meet
              exact ⟨b8, b9, rfl, rfl, HPU.out⟩
          · go_simp
            have hb := below_box u3 (.cells #[.int .i64 0, .string ⟨#[]⟩, .int .i64 0, .bool false] 30)
            replace HK := Lib.hid (HK.out.box (.cells #[.int .i64 0, .string ⟨#[]⟩, .int .i64 0, .bool false] 30))
            have hle := HB.out.size
            replace HB := Lib.hid (HB.out.trans (hb.mono HB.out.size))
            have HNE := Lib.hid (show b8 ≠ u3.heap.size from by have := LT8.out; omega)
            clear LT8
            have L9 := Lib.hid (Nat.le_trans HWV.out hle)
            clear hb hle
            generalize u3.alloc (.cells #[.int .i64 0, .string ⟨#[]⟩, .int .i64 0, .bool false] 30) = u4 at *
            generalize u3.heap.size = b9 at *
            refine hK.out _ _ ?_ ?_
            · exact HK.out.tl.tl.tl.six
            clear hK hSat K
            (try simp only [Act.put, List.getElem_toArray, List.getElem_cons_zero, List.getElem_cons_succ, List.setIfInBounds_toArray, List.set_cons_zero, List.set_cons_succ])
            refine NJ.step (i := 6) rfl rfl (by kernel_rfl) (fun hSat K hK => ?_)
            go_simp
            refine Calls.mono (HF2.out _ HB.out) ?_
            rintro e u5 ⟨X2, x2, rfl, hx, hb, -⟩
            replace HK := Lib.hid (HK.out.on hb)
            replace HB := Lib.hid (HB.out.trans (hb.mono HB.out.size))
            have HX2 := Lib.hid hx
            clear hx
            clear hb
            go_wp2_with fail
            refine hK.out _ _ ?_ ?_
            · exact HK.out.tl.tl.tl.six
            clear hK hSat K
            (try simp only [Act.put, List.getElem_toArray, List.getElem_cons_zero, List.getElem_cons_succ, List.setIfInBounds_toArray, List.set_cons_zero, List.set_cons_succ])
            refine NJ.step (i := 7) rfl rfl (by kernel_rfl) (fun hSat K hK => ?_)
            go_simp
            refine Calls.mono (HOF.out _ _ _ HK.out.b HX2.out) ?_
            rintro e u6 ⟨rfl, hb⟩
            replace HK := Lib.hid (HK.out.on hb)
            replace HB := Lib.hid (HB.out.trans (hb.mono HB.out.size))
            clear HX2
            clear hb
            go_wp2_with fail
            refine hK.out _ _ ?_ ?_
            · exact HK.out.tl.tl.tl.six
            clear hK hSat K
            (try simp only [Act.put, List.getElem_toArray, List.getElem_cons_zero, List.getElem_cons_succ, List.setIfInBounds_toArray, List.set_cons_zero, List.set_cons_succ])
            obtain ⟨q0, q1, q2, q3, fq, -⟩ := jud_cells HK.out.tl.h0
            obtain ⟨s0, s1, s2, s3, fs, -⟩ := jud_cells HK.out.h0
            have HPU := Lib.hid (Kp.puts (v6 := y1) (s6 := y2) (v7 := z1) (s7 := z2) HK.out.b HK.out.tl.h0 HK.out.h0 HK.out.tl.tl.h0 HK.out.tl.tl.tl.h0 HK.out.tl.tl.tl.tl.h0 HNE.out L8.out L9.out)
            have HN := Lib.hid (Ne.symm HNE.out)
            have hne := HNE.out
            have hne2 := HN.out
            clear HK HB HNE HN L8 L9
            (refine NJ.over rfl (by kernel_rfl) (fun hSat K hK => ?_); go_simp; refine hK.out _ _ ?_; clear hK hSat K; (try simp only [Act.put, List.getElem_toArray, List.getElem_cons_zero, List.getElem_cons_succ, List.setIfInBounds_toArray, List.set_cons_zero, List.set_cons_succ]))
            (refine wpAnyN_tail (i := 11) rfl rfl (by kernel_rfl) (fun K hK => ?_); go_simp; refine hK.out _ _ ?_; clear hK K; (try simp only [Act.put, List.getElem_toArray, List.getElem_cons_zero, List.getElem_cons_succ, List.setIfInBounds_toArray, List.set_cons_zero, List.set_cons_succ]))
            refine wpAnyN_fin (by kernel_rfl) ?_
            go_wp2_with fail
            go_meet
            exact ⟨b8, b9, rfl, rfl, HPU.out⟩
        · go_simp
          have hb := below_box u2 (.cells #[.int .i64 0, .string ⟨#[]⟩, .int .i64 0, .bool false] 30)
          replace HK := Lib.hid (HK.out.box (.cells #[.int .i64 0, .string ⟨#[]⟩, .int .i64 0, .bool false] 30))
          have hle := HB.out.size
          replace HB := Lib.hid (HB.out.trans (hb.mono HB.out.size))
          have L9 := Lib.hid (Nat.le_trans HWV.out hle)
          have LT9 := Lib.hid (show u2.heap.size < (u2.alloc (.cells #[.int .i64 0, .string ⟨#[]⟩, .int .i64 0, .bool false] 30)).heap.size by simp)
          clear hb hle
          generalize u2.alloc (.cells #[.int .i64 0, .string ⟨#[]⟩, .int .i64 0, .bool false] 30) = u3 at *
          generalize u2.heap.size = b9 at *
          refine hK.out _ _ ?_ ?_
          · exact HK.out.tl.tl.six
          clear hK hSat K
          (try simp only [Act.put, List.getElem_toArray, List.getElem_cons_zero, List.getElem_cons_succ, List.setIfInBounds_toArray, List.set_cons_zero, List.set_cons_succ])
          refine NJ.two (i := 6) (j := 8) (by kernel_rfl) ⟨_, rfl, rfl, fun hSat K hK => ?_⟩ ⟨_, rfl, rfl, fun hSat K hK => ?_⟩
          · go_simp
            refine Calls.mono (HF2.out _ HB.out) ?_
            rintro e u4 ⟨X2, x2, rfl, hx, hb, -⟩
            replace HK := Lib.hid (HK.out.on hb)
            replace HB := Lib.hid (HB.out.trans (hb.mono HB.out.size))
            have HX2 := Lib.hid hx
            clear hx
            replace LT9 := Lib.hid (Nat.lt_of_lt_of_le LT9.out hb.size)
            clear hb
            go_wp2_with fail
            refine hK.out _ _ ?_ ?_
            · exact HK.out.tl.tl.six
            clear hK hSat K
            (try simp only [Act.put, List.getElem_toArray, List.getElem_cons_zero, List.getElem_cons_succ, List.setIfInBounds_toArray, List.set_cons_zero, List.set_cons_succ])
            refine NJ.two (i := 7) (j := 8) (by kernel_rfl) ⟨_, rfl, rfl, fun hSat K hK => ?_⟩ ⟨_, rfl, rfl, fun hSat K hK => ?_⟩
            · go_simp
              refine Calls.mono (HOF.out _ _ _ HK.out.b HX2.out) ?_
              rintro e u5 ⟨rfl, hb⟩
              replace HK := Lib.hid (HK.out.on hb)
              replace HB := Lib.hid (HB.out.trans (hb.mono HB.out.size))
              clear HX2
              replace LT9 := Lib.hid (Nat.lt_of_lt_of_le LT9.out hb.size)
              clear hb
              go_wp2_with fail
              refine hK.out _ _ ?_ ?_
              · exact HK.out.tl.tl.six
              clear hK hSat K
              (try simp only [Act.put, List.getElem_toArray, List.getElem_cons_zero, List.getElem_cons_succ, List.setIfInBounds_toArray, List.set_cons_zero, List.set_cons_succ])
              refine NJ.step (i := 8) rfl rfl (by kernel_rfl) (fun hSat K hK => ?_)
              go_simp
              have hb := below_box u5 (.cells #[.int .i64 0, .string ⟨#[]⟩, .int .i64 0, .bool false] 30)
              replace HK := Lib.hid (HK.out.box (.cells #[.int .i64 0, .string ⟨#[]⟩, .int .i64 0, .bool false] 30))
              have hle := HB.out.size
              replace HB := Lib.hid (HB.out.trans (hb.mono HB.out.size))
              have HNE := Lib.hid (show u5.heap.size ≠ b9 from by have := LT9.out; omega)
              clear LT9
              have L8 := Lib.hid (Nat.le_trans HWV.out hle)
              clear hb hle
              generalize u5.alloc (.cells #[.int .i64 0, .string ⟨#[]⟩, .int .i64 0, .bool false] 30) = u6 at *
              generalize u5.heap.size = b8 at *
              refine hK.out _ _ ?_ ?_
              · exact HK.out.tl.tl.tl.six
              clear hK hSat K
              (try simp only [Act.put, List.getElem_toArray, List.getElem_cons_zero, List.getElem_cons_succ, List.setIfInBounds_toArray, List.set_cons_zero, List.set_cons_succ])
              obtain ⟨q0, q1, q2, q3, fq, -⟩ := jud_cells HK.out.h0
              obtain ⟨s0, s1, s2, s3, fs, -⟩ := jud_cells HK.out.tl.h0
              have HPU := Lib.hid (Kp.puts (v6 := y1) (s6 := y2) (v7 := z1) (s7 := z2) HK.out.b HK.out.h0 HK.out.tl.h0 HK.out.tl.tl.h0 HK.out.tl.tl.tl.h0 HK.out.tl.tl.tl.tl.h0 HNE.out L8.out L9.out)
              have HN := Lib.hid (Ne.symm HNE.out)
              have hne := HNE.out
              have hne2 := HN.out
              clear HK HB HNE HN L8 L9
              (refine NJ.over rfl (by kernel_rfl) (fun hSat K hK => ?_); go_simp; refine hK.out _ _ ?_; clear hK hSat K; (try simp only [Act.put, List.getElem_toArray, List.getElem_cons_zero, List.getElem_cons_succ, List.setIfInBounds_toArray, List.set_cons_zero, List.set_cons_succ]))
              (refine wpAnyN_tail (i := 11) rfl rfl (by kernel_rfl) (fun K hK => ?_); go_simp; refine hK.out _ _ ?_; clear hK K; (try simp only [Act.put, List.getElem_toArray, List.getElem_cons_zero, List.getElem_cons_succ, List.setIfInBounds_toArray, List.set_cons_zero, List.set_cons_succ]))
              refine wpAnyN_fin (by kernel_rfl) ?_
              go_wp2_with fail
              go_meet
              exact ⟨b8, b9, rfl, rfl, HPU.out⟩
            · go_simp
              have hb := below_box u4 (.cells #[.int .i64 0, .string ⟨#[]⟩, .int .i64 0, .bool false] 30)
              replace HK := Lib.hid (HK.out.box (.cells #[.int .i64 0, .string ⟨#[]⟩, .int .i64 0, .bool false] 30))
              have hle := HB.out.size
              replace HB := Lib.hid (HB.out.trans (hb.mono HB.out.size))
              replace HX2 := Lib.hid (HX2.out.on hb)
              have HNE := Lib.hid (show u4.heap.size ≠ b9 from by have := LT9.out; omega)
              clear LT9
              have L8 := Lib.hid (Nat.le_trans HWV.out hle)
              clear hb hle
              generalize u4.alloc (.cells #[.int .i64 0, .string ⟨#[]⟩, .int .i64 0, .bool false] 30) = u5 at *
              generalize u4.heap.size = b8 at *
              refine hK.out _ _ ?_ ?_
              · exact HK.out.tl.tl.tl.six
              clear hK hSat K
              (try simp only [Act.put, List.getElem_toArray, List.getElem_cons_zero, List.getElem_cons_succ, List.setIfInBounds_toArray, List.set_cons_zero, List.set_cons_succ])
              refine NJ.step (i := 7) rfl rfl (by kernel_rfl) (fun hSat K hK => ?_)
              go_simp
              refine Calls.mono (HOF.out _ _ _ HK.out.b HX2.out) ?_
              rintro e u6 ⟨rfl, hb⟩
              replace HK := Lib.hid (HK.out.on hb)
              replace HB := Lib.hid (HB.out.trans (hb.mono HB.out.size))
              clear HX2
              clear hb
              go_wp2_with fail
              refine hK.out _ _ ?_ ?_
              · exact HK.out.tl.tl.tl.six
              clear hK hSat K
              (try simp only [Act.put, List.getElem_toArray, List.getElem_cons_zero, List.getElem_cons_succ, List.setIfInBounds_toArray, List.set_cons_zero, List.set_cons_succ])
              obtain ⟨q0, q1, q2, q3, fq, -⟩ := jud_cells HK.out.h0
              obtain ⟨s0, s1, s2, s3, fs, -⟩ := jud_cells HK.out.tl.h0
              have HPU := Lib.hid (Kp.puts (v6 := y1) (s6 := y2) (v7 := z1) (s7 := z2) HK.out.b HK.out.h0 HK.out.tl.h0 HK.out.tl.tl.h0 HK.out.tl.tl.tl.h0 HK.out.tl.tl.tl.tl.h0 HNE.out L8.out L9.out)
              have HN := Lib.hid (Ne.symm HNE.out)
              have hne := HNE.out
              have hne2 := HN.out
              clear HK HB HNE HN L8 L9
              (refine NJ.over rfl (by kernel_rfl) (fun hSat K hK => ?_); go_simp; refine hK.out _ _ ?_; clear hK hSat K; (try simp only [Act.put, List.getElem_toArray, List.getElem_cons_zero, List.getElem_cons_succ, List.setIfInBounds_toArray, List.set_cons_zero, List.set_cons_succ]))
              (refine wpAnyN_tail (i := 11) rfl rfl (by kernel_rfl) (fun K hK => ?_); go_simp; refine hK.out _ _ ?_; clear hK K; (try simp only [Act.put, List.getElem_toArray, List.getElem_cons_zero, List.getElem_cons_succ, List.setIfInBounds_toArray, List.set_cons_zero, List.set_cons_succ]))
              refine wpAnyN_fin (by kernel_rfl) ?_
              go_wp2_with fail
              go_meet
              exact ⟨b8, b9, rfl, rfl, HPU.out⟩
          · go_simp
            have hb := below_box u3 (.cells #[.int .i64 0, .string ⟨#[]⟩, .int .i64 0, .bool false] 30)
            replace HK := Lib.hid (HK.out.box (.cells #[.int .i64 0, .string ⟨#[]⟩, .int .i64 0, .bool false] 30))
            have hle := HB.out.size
            replace HB := Lib.hid (HB.out.trans (hb.mono HB.out.size))
            have HNE := Lib.hid (show u3.heap.size ≠ b9 from by have := LT9.out; omega)
            clear LT9
            have L8 := Lib.hid (Nat.le_trans HWV.out hle)
            clear hb hle
            generalize u3.alloc (.cells #[.int .i64 0, .string ⟨#[]⟩, .int .i64 0, .bool false] 30) = u4 at *
            generalize u3.heap.size = b8 at *
            refine hK.out _ _ ?_ ?_
            · exact HK.out.tl.tl.tl.six
            clear hK hSat K
            (try simp only [Act.put, List.getElem_toArray, List.getElem_cons_zero, List.getElem_cons_succ, List.setIfInBounds_toArray, List.set_cons_zero, List.set_cons_succ])
            refine NJ.step (i := 6) rfl rfl (by kernel_rfl) (fun hSat K hK => ?_)
            go_simp
            refine Calls.mono (HF2.out _ HB.out) ?_
            rintro e u5 ⟨X2, x2, rfl, hx, hb, -⟩
            replace HK := Lib.hid (HK.out.on hb)
            replace HB := Lib.hid (HB.out.trans (hb.mono HB.out.size))
            have HX2 := Lib.hid hx
            clear hx
            clear hb
            go_wp2_with fail
            refine hK.out _ _ ?_ ?_
            · exact HK.out.tl.tl.tl.six
            clear hK hSat K
            (try simp only [Act.put, List.getElem_toArray, List.getElem_cons_zero, List.getElem_cons_succ, List.setIfInBounds_toArray, List.set_cons_zero, List.set_cons_succ])
            refine NJ.step (i := 7) rfl rfl (by kernel_rfl) (fun hSat K hK => ?_)
            go_simp
            refine Calls.mono (HOF.out _ _ _ HK.out.b HX2.out) ?_
            rintro e u6 ⟨rfl, hb⟩
            replace HK := Lib.hid (HK.out.on hb)
            replace HB := Lib.hid (HB.out.trans (hb.mono HB.out.size))
            clear HX2
            clear hb
            go_wp2_with fail
            refine hK.out _ _ ?_ ?_
            · exact HK.out.tl.tl.tl.six
            clear hK hSat K
            (try simp only [Act.put, List.getElem_toArray, List.getElem_cons_zero, List.getElem_cons_succ, List.setIfInBounds_toArray, List.set_cons_zero, List.set_cons_succ])
            obtain ⟨q0, q1, q2, q3, fq, -⟩ := jud_cells HK.out.h0
            obtain ⟨s0, s1, s2, s3, fs, -⟩ := jud_cells HK.out.tl.h0
            have HPU := Lib.hid (Kp.puts (v6 := y1) (s6 := y2) (v7 := z1) (s7 := z2) HK.out.b HK.out.h0 HK.out.tl.h0 HK.out.tl.tl.h0 HK.out.tl.tl.tl.h0 HK.out.tl.tl.tl.tl.h0 HNE.out L8.out L9.out)
            have HN := Lib.hid (Ne.symm HNE.out)
            have hne := HNE.out
            have hne2 := HN.out
            clear HK HB HNE HN L8 L9
            (refine NJ.over rfl (by kernel_rfl) (fun hSat K hK => ?_); go_simp; refine hK.out _ _ ?_; clear hK hSat K; (try simp only [Act.put, List.getElem_toArray, List.getElem_cons_zero, List.getElem_cons_succ, List.setIfInBounds_toArray, List.set_cons_zero, List.set_cons_succ]))
            (refine wpAnyN_tail (i := 11) rfl rfl (by kernel_rfl) (fun K hK => ?_); go_simp; refine hK.out _ _ ?_; clear hK K; (try simp only [Act.put, List.getElem_toArray, List.getElem_cons_zero, List.getElem_cons_succ, List.setIfInBounds_toArray, List.set_cons_zero, List.set_cons_succ]))
            refine wpAnyN_fin (by kernel_rfl) ?_
            go_wp2_with fail
            go_meet
            exact ⟨b8, b9, rfl, rfl, HPU.out⟩
      · go_simp
        have hb := below_box u1 (.cells #[.int .i64 0, .string ⟨#[]⟩, .int .i64 0, .bool false] 30)
        replace HK := Lib.hid (HK.out.box (.cells #[.int .i64 0, .string ⟨#[]⟩, .int .i64 0, .bool false] 30))
        have hle := HB.out.size
        replace HB := Lib.hid (HB.out.trans (hb.mono HB.out.size))
        replace HX1 := Lib.hid (HX1.out.on hb)
        have L8 := Lib.hid (Nat.le_trans HWV.out hle)
        have LT8 := Lib.hid (show u1.heap.size < (u1.alloc (.cells #[.int .i64 0, .string ⟨#[]⟩, .int .i64 0, .bool false] 30)).heap.size by simp)
        clear hb hle
        generalize u1.alloc (.cells #[.int .i64 0, .string ⟨#[]⟩, .int .i64 0, .bool false] 30) = u2 at *
        generalize u1.heap.size = b8 at *
        refine hK.out _ _ ?_ ?_
        · exact HK.out.tl.tl.six
        clear hK hSat K
        (try simp only [Act.put, List.getElem_toArray, List.getElem_cons_zero, List.getElem_cons_succ, List.setIfInBounds_toArray, List.set_cons_zero, List.set_cons_succ])
        refine NJ.two (i := 3) (j := 9) (by kernel_rfl) ⟨_, rfl, rfl, fun hSat K hK => ?_⟩ ⟨_, rfl, rfl, fun hSat K hK => ?_⟩
        · go_simp
          refine Calls.mono (HOT.out _ _ _ HK.out.b HX1.out) ?_
          rintro e u3 ⟨rfl, hb⟩
          replace HK := Lib.hid (HK.out.on hb)
          replace HB := Lib.hid (HB.out.trans (hb.mono HB.out.size))
          clear HX1
          replace LT8 := Lib.hid (Nat.lt_of_lt_of_le LT8.out hb.size)
          clear hb
          go_wp2_with fail
          refine hK.out _ _ ?_ ?_
          · exact HK.out.tl.tl.six
          clear hK hSat K
          (try simp only [Act.put, List.getElem_toArray, List.getElem_cons_zero, List.getElem_cons_succ, List.setIfInBounds_toArray, List.set_cons_zero, List.set_cons_succ])
          refine NJ.two (i := 6) (j := 9) (by kernel_rfl) ⟨_, rfl, rfl, fun hSat K hK => ?_⟩ ⟨_, rfl, rfl, fun hSat K hK => ?_⟩
          · go_simp
            refine Calls.mono (HF2.out _ HB.out) ?_
            rintro e u4 ⟨X2, x2, rfl, hx, hb, -⟩
            replace HK := Lib.hid (HK.out.on hb)
            replace HB := Lib.hid (HB.out.trans (hb.mono HB.out.size))
            have HX2 := Lib.hid hx
            clear hx
            replace LT8 := Lib.hid (Nat.lt_of_lt_of_le LT8.out hb.size)
            clear hb
            go_wp2_with fail
            refine hK.out _ _ ?_ ?_
            · exact HK.out.tl.tl.six
            clear hK hSat K
            (try simp only [Act.put, List.getElem_toArray, List.getElem_cons_zero, List.getElem_cons_succ, List.setIfInBounds_toArray, List.set_cons_zero, List.set_cons_succ])
            refine NJ.two (i := 7) (j := 9) (by kernel_rfl) ⟨_, rfl, rfl, fun hSat K hK => ?_⟩ ⟨_, rfl, rfl, fun hSat K hK => ?_⟩
            · go_simp
              refine Calls.mono (HOF.out _ _ _ HK.out.b HX2.out) ?_
              rintro e u5 ⟨rfl, hb⟩
              replace HK := Lib.hid (HK.out.on hb)
              replace HB := Lib.hid (HB.out.trans (hb.mono HB.out.size))
              clear HX2
              replace LT8 := Lib.hid (Nat.lt_of_lt_of_le LT8.out hb.size)
              clear hb
              go_wp2_with fail
              refine hK.out _ _ ?_ ?_
              · exact HK.out.tl.tl.six
              clear hK hSat K
              (try simp only [Act.put, List.getElem_toArray, List.getElem_cons_zero, List.getElem_cons_succ, List.setIfInBounds_toArray, List.set_cons_zero, List.set_cons_succ])
              refine NJ.step (i := 9) rfl rfl (by kernel_rfl) (fun hSat K hK => ?_)
              go_simp
              have hb := below_box u5 (.cells #[.int .i64 0, .string ⟨#[]⟩, .int .i64 0, .bool false] 30)
              replace HK := Lib.hid (HK.out.box (.cells #[.int .i64 0, .string ⟨#[]⟩, .int .i64 0, .bool false] 30))
              have hle := HB.out.size
              replace HB := Lib.hid (HB.out.trans (hb.mono HB.out.size))
              have HNE := Lib.hid (show b8 ≠ u5.heap.size from by have := LT8.out; omega)
              clear LT8
              have L9 := Lib.hid (Nat.le_trans HWV.out hle)
              clear hb hle
              generalize u5.alloc (.cells #[.int .i64 0, .string ⟨#[]⟩, .int .i64 0, .bool false] 30) = u6 at *
              generalize u5.heap.size = b9 at *
              refine hK.out _ _ ?_ ?_
              · exact HK.out.tl.tl.tl.six
              clear hK hSat K
              (try simp only [Act.put, List.getElem_toArray, List.getElem_cons_zero, List.getElem_cons_succ, List.setIfInBounds_toArray, List.set_cons_zero, List.set_cons_succ])
              obtain ⟨q0, q1, q2, q3, fq, -⟩ := jud_cells HK.out.tl.h0
              obtain ⟨s0, s1, s2, s3, fs, -⟩ := jud_cells HK.out.h0
              have HPU := Lib.hid (Kp.puts (v6 := y1) (s6 := y2) (v7 := z1) (s7 := z2) HK.out.b HK.out.tl.h0 HK.out.h0 HK.out.tl.tl.h0 HK.out.tl.tl.tl.h0 HK.out.tl.tl.tl.tl.h0 HNE.out L8.out L9.out)
              have HN := Lib.hid (Ne.symm HNE.out)
              have hne := HNE.out
              have hne2 := HN.out
              clear HK HB HNE HN L8 L9
              (refine NJ.over rfl (by kernel_rfl) (fun hSat K hK => ?_); go_simp; refine hK.out _ _ ?_; clear hK hSat K; (try simp only [Act.put, List.getElem_toArray, List.getElem_cons_zero, List.getElem_cons_succ, List.setIfInBounds_toArray, List.set_cons_zero, List.set_cons_succ]))
              (refine wpAnyN_tail (i := 11) rfl rfl (by kernel_rfl) (fun K hK => ?_); go_simp; refine hK.out _ _ ?_; clear hK K; (try simp only [Act.put, List.getElem_toArray, List.getElem_cons_zero, List.getElem_cons_succ, List.setIfInBounds_toArray, List.set_cons_zero, List.set_cons_succ]))
              refine wpAnyN_fin (by kernel_rfl) ?_
              go_wp2_with fail
              go_meet
              exact ⟨b8, b9, rfl, rfl, HPU.out⟩
            · go_simp
              have hb := below_box u4 (.cells #[.int .i64 0, .string ⟨#[]⟩, .int .i64 0, .bool false] 30)
              replace HK := Lib.hid (HK.out.box (.cells #[.int .i64 0, .string ⟨#[]⟩, .int .i64 0, .bool false] 30))
              have hle := HB.out.size
              replace HB := Lib.hid (HB.out.trans (hb.mono HB.out.size))
              replace HX2 := Lib.hid (HX2.out.on hb)
              have HNE := Lib.hid (show b8 ≠ u4.heap.size from by have := LT8.out; omega)
              clear LT8
              have L9 := Lib.hid (Nat.le_trans HWV.out hle)
              clear hb hle
              generalize u4.alloc (.cells #[.int .i64 0, .string ⟨#[]⟩, .int .i64 0, .bool false] 30) = u5 at *
              generalize u4.heap.size = b9 at *
              refine hK.out _ _ ?_ ?_
              · exact HK.out.tl.tl.tl.six
              clear hK hSat K
              (try simp only [Act.put, List.getElem_toArray, List.getElem_cons_zero, List.getElem_cons_succ, List.setIfInBounds_toArray, List.set_cons_zero, List.set_cons_succ])
              refine NJ.step (i := 7) rfl rfl (by kernel_rfl) (fun hSat K hK => ?_)
              go_simp
              refine Calls.mono (HOF.out _ _ _ HK.out.b HX2.out) ?_
              rintro e u6 ⟨rfl, hb⟩
              replace HK := Lib.hid (HK.out.on hb)
              replace HB := Lib.hid (HB.out.trans (hb.mono HB.out.size))
              clear HX2
              clear hb
              go_wp2_with fail
              refine hK.out _ _ ?_ ?_
              · exact HK.out.tl.tl.tl.six
              clear hK hSat K
              (try simp only [Act.put, List.getElem_toArray, List.getElem_cons_zero, List.getElem_cons_succ, List.setIfInBounds_toArray, List.set_cons_zero, List.set_cons_succ])
              obtain ⟨q0, q1, q2, q3, fq, -⟩ := jud_cells HK.out.tl.h0
              obtain ⟨s0, s1, s2, s3, fs, -⟩ := jud_cells HK.out.h0
              have HPU := Lib.hid (Kp.puts (v6 := y1) (s6 := y2) (v7 := z1) (s7 := z2) HK.out.b HK.out.tl.h0 HK.out.h0 HK.out.tl.tl.h0 HK.out.tl.tl.tl.h0 HK.out.tl.tl.tl.tl.h0 HNE.out L8.out L9.out)
              have HN := Lib.hid (Ne.symm HNE.out)
              have hne := HNE.out
              have hne2 := HN.out
              clear HK HB HNE HN L8 L9
              (refine NJ.over rfl (by kernel_rfl) (fun hSat K hK => ?_); go_simp; refine hK.out _ _ ?_; clear hK hSat K; (try simp only [Act.put, List.getElem_toArray, List.getElem_cons_zero, List.getElem_cons_succ, List.setIfInBounds_toArray, List.set_cons_zero, List.set_cons_succ]))
              (refine wpAnyN_tail (i := 11) rfl rfl (by kernel_rfl) (fun K hK => ?_); go_simp; refine hK.out _ _ ?_; clear hK K; (try simp only [Act.put, List.getElem_toArray, List.getElem_cons_zero, List.getElem_cons_succ, List.setIfInBounds_toArray, List.set_cons_zero, List.set_cons_succ]))
              refine wpAnyN_fin (by kernel_rfl) ?_
              go_wp2_with fail
              go_meet
              exact ⟨b8, b9, rfl, rfl, HPU.out⟩
          · go_simp
            have hb := below_box u3 (.cells #[.int .i64 0, .string ⟨#[]⟩, .int .i64 0, .bool false] 30)
            replace HK := Lib.hid (HK.out.box (.cells #[.int .i64 0, .string ⟨#[]⟩, .int .i64 0, .bool false] 30))
            have hle := HB.out.size
            replace HB := Lib.hid (HB.out.trans (hb.mono HB.out.size))
            have HNE := Lib.hid (show b8 ≠ u3.heap.size from by have := LT8.out; omega)
            clear LT8
            have L9 := Lib.hid (Nat.le_trans HWV.out hle)
            clear hb hle
            generalize u3.alloc (.cells #[.int .i64 0, .string ⟨#[]⟩, .int .i64 0, .bool false] 30) = u4 at *
            generalize u3.heap.size = b9 at *
            refine hK.out _ _ ?_ ?_
            · exact HK.out.tl.tl.tl.six
            clear hK hSat K
            (try simp only [Act.put, List.getElem_toArray, List.getElem_cons_zero, List.getElem_cons_succ, List.setIfInBounds_toArray, List.set_cons_zero, List.set_cons_succ])
            refine NJ.step (i := 6) rfl rfl (by kernel_rfl) (fun hSat K hK => ?_)
            go_simp
            refine Calls.mono (HF2.out _ HB.out) ?_
            rintro e u5 ⟨X2, x2, rfl, hx, hb, -⟩
            replace HK := Lib.hid (HK.out.on hb)
            replace HB := Lib.hid (HB.out.trans (hb.mono HB.out.size))
            have HX2 := Lib.hid hx
            clear hx
            clear hb
            go_wp2_with fail
            refine hK.out _ _ ?_ ?_
            · exact HK.out.tl.tl.tl.six
            clear hK hSat K
            (try simp only [Act.put, List.getElem_toArray, List.getElem_cons_zero, List.getElem_cons_succ, List.setIfInBounds_toArray, List.set_cons_zero, List.set_cons_succ])
            refine NJ.step (i := 7) rfl rfl (by kernel_rfl) (fun hSat K hK => ?_)
            go_simp
            refine Calls.mono (HOF.out _ _ _ HK.out.b HX2.out) ?_
            rintro e u6 ⟨rfl, hb⟩
            replace HK := Lib.hid (HK.out.on hb)
            replace HB := Lib.hid (HB.out.trans (hb.mono HB.out.size))
            clear HX2
            clear hb
            go_wp2_with fail
            refine hK.out _ _ ?_ ?_
            · exact HK.out.tl.tl.tl.six
            clear hK hSat K
            (try simp only [Act.put, List.getElem_toArray, List.getElem_cons_zero, List.getElem_cons_succ, List.setIfInBounds_toArray, List.set_cons_zero, List.set_cons_succ])
            obtain ⟨q0, q1, q2, q3, fq, -⟩ := jud_cells HK.out.tl.h0
            obtain ⟨s0, s1, s2, s3, fs, -⟩ := jud_cells HK.out.h0
            have HPU := Lib.hid (Kp.puts (v6 := y1) (s6 := y2) (v7 := z1) (s7 := z2) HK.out.b HK.out.tl.h0 HK.out.h0 HK.out.tl.tl.h0 HK.out.tl.tl.tl.h0 HK.out.tl.tl.tl.tl.h0 HNE.out L8.out L9.out)
            have HN := Lib.hid (Ne.symm HNE.out)
            have hne := HNE.out
            have hne2 := HN.out
            clear HK HB HNE HN L8 L9
            (refine NJ.over rfl (by kernel_rfl) (fun hSat K hK => ?_); go_simp; refine hK.out _ _ ?_; clear hK hSat K; (try simp only [Act.put, List.getElem_toArray, List.getElem_cons_zero, List.getElem_cons_succ, List.setIfInBounds_toArray, List.set_cons_zero, List.set_cons_succ]))
            (refine wpAnyN_tail (i := 11) rfl rfl (by kernel_rfl) (fun K hK => ?_); go_simp; refine hK.out _ _ ?_; clear hK K; (try simp only [Act.put, List.getElem_toArray, List.getElem_cons_zero, List.getElem_cons_succ, List.setIfInBounds_toArray, List.set_cons_zero, List.set_cons_succ]))
            refine wpAnyN_fin (by kernel_rfl) ?_
            go_wp2_with fail
            go_meet
            exact ⟨b8, b9, rfl, rfl, HPU.out⟩
        · go_simp
          have hb := below_box u2 (.cells #[.int .i64 0, .string ⟨#[]⟩, .int .i64 0, .bool false] 30)
          replace HK := Lib.hid (HK.out.box (.cells #[.int .i64 0, .string ⟨#[]⟩, .int .i64 0, .bool false] 30))
          have hle := HB.out.size
          replace HB := Lib.hid (HB.out.trans (hb.mono HB.out.size))
          replace HX1 := Lib.hid (HX1.out.on hb)
          have HNE := Lib.hid (show b8 ≠ u2.heap.size from by have := LT8.out; omega)
          clear LT8
          have L9 := Lib.hid (Nat.le_trans HWV.out hle)
          clear hb hle
          generalize u2.alloc (.cells #[.int .i64 0, .string ⟨#[]⟩, .int .i64 0, .bool false] 30) = u3 at *
          generalize u2.heap.size = b9 at *
          refine hK.out _ _ ?_ ?_
          · exact HK.out.tl.tl.tl.six
          clear hK hSat K
          (try simp only [Act.put, List.getElem_toArray, List.getElem_cons_zero, List.getElem_cons_succ, List.setIfInBounds_toArray, List.set_cons_zero, List.set_cons_succ])
          refine NJ.step (i := 3) rfl rfl (by kernel_rfl) (fun hSat K hK => ?_)
          go_simp
          refine Calls.mono (HOT.out _ _ _ HK.out.b HX1.out) ?_
          rintro e u4 ⟨rfl, hb⟩
          replace HK := Lib.hid (HK.out.on hb)
          replace HB := Lib.hid (HB.out.trans (hb.mono HB.out.size))
          clear HX1
          clear hb
          go_wp2_with fail
          refine hK.out _ _ ?_ ?_
          · exact HK.out.tl.tl.tl.six
          clear hK hSat K
          (try simp only [Act.put, List.getElem_toArray, List.getElem_cons_zero, List.getElem_cons_succ, List.setIfInBounds_toArray, List.set_cons_zero, List.set_cons_succ])
          refine NJ.step (i := 6) rfl rfl (by kernel_rfl) (fun hSat K hK => ?_)
          go_simp
          refine Calls.mono (HF2.out _ HB.out) ?_
          rintro e u5 ⟨X2, x2, rfl, hx, hb, -⟩
          replace HK := Lib.hid (HK.out.on hb)
          replace HB := Lib.hid (HB.out.trans (hb.mono HB.out.size))
          have HX2 := Lib.hid hx
          clear hx
          clear hb
          go_wp2_with fail
          refine hK.out _ _ ?_ ?_
          · exact HK.out.tl.tl.tl.six
          clear hK hSat K
          (try simp only [Act.put, List.getElem_toArray, List.getElem_cons_zero, List.getElem_cons_succ, List.setIfInBounds_toArray, List.set_cons_zero, List.set_cons_succ])
          refine NJ.step (i := 7) rfl rfl (by kernel_rfl) (fun hSat K hK => ?_)
          go_simp
          refine Calls.mono (HOF.out _ _ _ HK.out.b HX2.out) ?_
          rintro e u6 ⟨rfl, hb⟩
          replace HK := Lib.hid (HK.out.on hb)
          replace HB := Lib.hid (HB.out.trans (hb.mono HB.out.size))
          clear HX2
          clear hb
          go_wp2_with fail
          refine hK.out _ _ ?_ ?_
          · exact HK.out.tl.tl.tl.six
          clear hK hSat K
          (try simp only [Act.put, List.getElem_toArray, List.getElem_cons_zero, List.getElem_cons_succ, List.setIfInBounds_toArray, List.set_cons_zero, List.set_cons_succ])
          obtain ⟨q0, q1, q2, q3, fq, -⟩ := jud_cells HK.out.tl.h0
          obtain ⟨s0, s1, s2, s3, fs, -⟩ := jud_cells HK.out.h0
          have HPU := Lib.hid (Kp.puts (v6 := y1) (s6 := y2) (v7 := z1) (s7 := z2) HK.out.b HK.out.tl.h0 HK.out.h0 HK.out.tl.tl.h0 HK.out.tl.tl.tl.h0 HK.out.tl.tl.tl.tl.h0 HNE.out L8.out L9.out)
          have HN := Lib.hid (Ne.symm HNE.out)
          have hne := HNE.out
          have hne2 := HN.out
          clear HK HB HNE HN L8 L9
          (refine NJ.over rfl (by kernel_rfl) (fun hSat K hK => ?_); go_simp; refine hK.out _ _ ?_; clear hK hSat K; (try simp only [Act.put, List.getElem_toArray, List.getElem_cons_zero, List.getElem_cons_succ, List.setIfInBounds_toArray, List.set_cons_zero, List.set_cons_succ]))
          (refine wpAnyN_tail (i := 11) rfl rfl (by kernel_rfl) (fun K hK => ?_); go_simp; refine hK.out _ _ ?_; clear hK K; (try simp only [Act.put, List.getElem_toArray, List.getElem_cons_zero, List.getElem_cons_succ, List.setIfInBounds_toArray, List.set_cons_zero, List.set_cons_succ]))
          refine wpAnyN_fin (by kernel_rfl) ?_
          go_wp2_with fail
          go_meet
          exact ⟨b8, b9, rfl, rfl, HPU.out⟩
      · go_simp
        have hb := below_box u1 (.cells #[.int .i64 0, .string ⟨#[]⟩, .int .i64 0, .bool false] 30)
        replace HK := Lib.hid (HK.out.box (.cells #[.int .i64 0, .string ⟨#[]⟩, .int .i64 0, .bool false] 30))
        have hle := HB.out.size
        replace HB := Lib.hid (HB.out.trans (hb.mono HB.out.size))
        replace HX1 := Lib.hid (HX1.out.on hb)
        have L9 := Lib.hid (Nat.le_trans HWV.out hle)
        have LT9 := Lib.hid (show u1.heap.size < (u1.alloc (.cells #[.int .i64 0, .string ⟨#[]⟩, .int .i64 0, .bool false] 30)).heap.size by simp)
        clear hb hle
        generalize u1.alloc (.cells #[.int .i64 0, .string ⟨#[]⟩, .int .i64 0, .bool false] 30) = u2 at *
        generalize u1.heap.size = b9 at *
        refine hK.out _ _ ?_ ?_
        · exact HK.out.tl.tl.six
        clear hK hSat K
        (try simp only [Act.put, List.getElem_toArray, List.getElem_cons_zero, List.getElem_cons_succ, List.setIfInBounds_toArray, List.set_cons_zero, List.set_cons_succ])
        refine NJ.two (i := 3) (j := 8) (by kernel_rfl) ⟨_, rfl, rfl, fun hSat K hK => ?_⟩ ⟨_, rfl, rfl, fun hSat K hK => ?_⟩
        · go_simp
          refine Calls.mono (HOT.out _ _ _ HK.out.b HX1.out) ?_
          rintro e u3 ⟨rfl, hb⟩
          replace HK := Lib.hid (HK.out.on hb)
          replace HB := Lib.hid (HB.out.trans (hb.mono HB.out.size))
          clear HX1
          replace LT9 := Lib.hid (Nat.lt_of_lt_of_le LT9.out hb.size)
          clear hb
          go_wp2_with fail
          refine hK.out _ _ ?_ ?_
          · exact HK.out.tl.tl.six
          clear hK hSat K
          (try simp only [Act.put, List.getElem_toArray, List.getElem_cons_zero, List.getElem_cons_succ, List.setIfInBounds_toArray, List.set_cons_zero, List.set_cons_succ])
          refine NJ.two (i := 6) (j := 8) (by kernel_rfl) ⟨_, rfl, rfl, fun hSat K hK => ?_⟩ ⟨_, rfl, rfl, fun hSat K hK => ?_⟩
          · go_simp
            refine Calls.mono (HF2.out _ HB.out) ?_
            rintro e u4 ⟨X2, x2, rfl, hx, hb, -⟩
            replace HK := Lib.hid (HK.out.on hb)
            replace HB := Lib.hid (HB.out.trans (hb.mono HB.out.size))
            have HX2 := Lib.hid hx
            clear hx
            replace LT9 := Lib.hid (Nat.lt_of_lt_of_le LT9.out hb.size)
            clear hb
            go_wp2_with fail
            refine hK.out _ _ ?_ ?_
            · exact HK.out.tl.tl.six
            clear hK hSat K
            (try simp only [Act.put, List.getElem_toArray, List.getElem_cons_zero, List.getElem_cons_succ, List.setIfInBounds_toArray, List.set_cons_zero, List.set_cons_succ])
            refine NJ.two (i := 7) (j := 8) (by kernel_rfl) ⟨_, rfl, rfl, fun hSat K hK => ?_⟩ ⟨_, rfl, rfl, fun hSat K hK => ?_⟩
            · go_simp
              refine Calls.mono (HOF.out _ _ _ HK.out.b HX2.out) ?_
              rintro e u5 ⟨rfl, hb⟩
              replace HK := Lib.hid (HK.out.on hb)
              replace HB := Lib.hid (HB.out.trans (hb.mono HB.out.size))
              clear HX2
              replace LT9 := Lib.hid (Nat.lt_of_lt_of_le LT9.out hb.size)
              clear hb
              go_wp2_with fail
              refine hK.out _ _ ?_ ?_
              · exact HK.out.tl.tl.six
              clear hK hSat K
              (try simp only [Act.put, List.getElem_toArray, List.getElem_cons_zero, List.getElem_cons_succ, List.setIfInBounds_toArray, List.set_cons_zero, List.set_cons_succ])
              refine NJ.step (i := 8) rfl rfl (by kernel_rfl) (fun hSat K hK => ?_)
              go_simp
              have hb := below_box u5 (.cells #[.int .i64 0, .string ⟨#[]⟩, .int .i64 0, .bool false] 30)
              replace HK := Lib.hid (HK.out.box (.cells #[.int .i64 0, .string ⟨#[]⟩, .int .i64 0, .bool false] 30))
              have hle := HB.out.size
              replace HB := Lib.hid (HB.out.trans (hb.mono HB.out.size))
              have HNE := Lib.hid (show u5.heap.size ≠ b9 from by have := LT9.out; omega)
              clear LT9
              have L8 := Lib.hid (Nat.le_trans HWV.out hle)
              clear hb hle
              generalize u5.alloc (.cells #[.int .i64 0, .string ⟨#[]⟩, .int .i64 0, .bool false] 30) = u6 at *
              generalize u5.heap.size = b8 at *
              refine hK.out _ _ ?_ ?_
              · exact HK.out.tl.tl.tl.six
              clear hK hSat K
              (try simp only [Act.put, List.getElem_toArray, List.getElem_cons_zero, List.getElem_cons_succ, List.setIfInBounds_toArray, List.set_cons_zero, List.set_cons_succ])
              obtain ⟨q0, q1, q2, q3, fq, -⟩ := jud_cells HK.out.h0
              obtain ⟨s0, s1, s2, s3, fs, -⟩ := jud_cells HK.out.tl.h0
              have HPU := Lib.hid (Kp.puts (v6 := y1) (s6 := y2) (v7 := z1) (s7 := z2) HK.out.b HK.out.h0 HK.out.tl.h0 HK.out.tl.tl.h0 HK.out.tl.tl.tl.h0 HK.out.tl.tl.tl.tl.h0 HNE.out L8.out L9.out)
              have HN := Lib.hid (Ne.symm HNE.out)
              have hne := HNE.out
              have hne2 := HN.out
              clear HK HB HNE HN L8 L9
              (refine NJ.over rfl (by kernel_rfl) (fun hSat K hK => ?_); go_simp; refine hK.out _ _ ?_; clear hK hSat K; (try simp only [Act.put, List.getElem_toArray, List.getElem_cons_zero, List.getElem_cons_succ, List.setIfInBounds_toArray, List.set_cons_zero, List.set_cons_succ]))
              (refine wpAnyN_tail (i := 11) rfl rfl (by kernel_rfl) (fun K hK => ?_); go_simp; refine hK.out _ _ ?_; clear hK K; (try simp only [Act.put, List.getElem_toArray, List.getElem_cons_zero, List.getElem_cons_succ, List.setIfInBounds_toArray, List.set_cons_zero, List.set_cons_succ]))
              refine wpAnyN_fin (by kernel_rfl) ?_
              go_wp2_with fail
              go_meet
              exact ⟨b8, b9, rfl, rfl, HPU.out⟩
            · go_simp
              have hb := below_box u4 (.cells #[.int .i64 0, .string ⟨#[]⟩, .int .i64 0, .bool false] 30)
              replace HK := Lib.hid (HK.out.box (.cells #[.int .i64 0, .string ⟨#[]⟩, .int .i64 0, .bool false] 30))
              have hle := HB.out.size
              replace HB := Lib.hid (HB.out.trans (hb.mono HB.out.size))
              replace HX2 := Lib.hid (HX2.out.on hb)
              have HNE := Lib.hid (show u4.heap.size ≠ b9 from by have := LT9.out; omega)
              clear LT9
              have L8 := Lib.hid (Nat.le_trans HWV.out hle)
              clear hb hle
              generalize u4.alloc (.cells #[.int .i64 0, .string ⟨#[]⟩, .int .i64 0, .bool false] 30) = u5 at *
              generalize u4.heap.size = b8 at *
              refine hK.out _ _ ?_ ?_
              · exact HK.out.tl.tl.tl.six
              clear hK hSat K
              (try simp only [Act.put, List.getElem_toArray, List.getElem_cons_zero, List.getElem_cons_succ, List.setIfInBounds_toArray, List.set_cons_zero, List.set_cons_succ])
              refine NJ.step (i := 7) rfl rfl (by kernel_rfl) (fun hSat K hK => ?_)
              go_simp
              refine Calls.mono (HOF.out _ _ _ HK.out.b HX2.out) ?_
              rintro e u6 ⟨rfl, hb⟩
              replace HK := Lib.hid (HK.out.on hb)
              replace HB := Lib.hid (HB.out.trans (hb.mono HB.out.size))
              clear HX2
              clear hb
              go_wp2_with fail
              refine hK.out _ _ ?_ ?_
              · exact HK.out.tl.tl.tl.six
              clear hK hSat K
              (try simp only [Act.put, List.getElem_toArray, List.getElem_cons_zero, List.getElem_cons_succ, List.setIfInBounds_toArray, List.set_cons_zero, List.set_cons_succ])
              obtain ⟨q0, q1, q2, q3, fq, -⟩ := jud_cells HK.out.h0
              obtain ⟨s0, s1, s2, s3, fs, -⟩ := jud_cells HK.out.tl.h0
              have HPU := Lib.hid (Kp.puts (v6 := y1) (s6 := y2) (v7 := z1) (s7 := z2) HK.out.b HK.out.h0 HK.out.tl.h0 HK.out.tl.tl.h0 HK.out.tl.tl.tl.h0 HK.out.tl.tl.tl.tl.h0 HNE.out L8.out L9.out)
              have HN := Lib.hid (Ne.symm HNE.out)
              have hne := HNE.out
              have hne2 := HN.out
              clear HK HB HNE HN L8 L9
              (refine NJ.over rfl (by kernel_rfl) (fun hSat K hK => ?_); go_simp; refine hK.out _ _ ?_; clear hK hSat K; (try simp only [Act.put, List.getElem_toArray, List.getElem_cons_zero, List.getElem_cons_succ, List.setIfInBounds_toArray, List.set_cons_zero, List.set_cons_succ]))
              (refine wpAnyN_tail (i := 11) rfl rfl (by kernel_rfl) (fun K hK => ?_); go_simp; refine hK.out _ _ ?_; clear hK K; (try simp only [Act.put, List.getElem_toArray, List.getElem_cons_zero, List.getElem_cons_succ, List.setIfInBounds_toArray, List.set_cons_zero, List.set_cons_succ]))
              refine wpAnyN_fin (by kernel_rfl) ?_
              go_wp2_with fail
              go_meet
              exact ⟨b8, b9, rfl, rfl, HPU.out⟩
          · go_simp
            have hb := below_box u3 (.cells #[.int .i64 0, .string ⟨#[]⟩, .int .i64 0, .bool false] 30)
            replace HK := Lib.hid (HK.out.box (.cells #[.int .i64 0, .string ⟨#[]⟩, .int .i64 0, .bool false] 30))
            have hle := HB.out.size
            replace HB := Lib.hid (HB.out.trans (hb.mono HB.out.size))
            have HNE := Lib.hid (show u3.heap.size ≠ b9 from by have := LT9.out; omega)
            clear LT9
            have L8 := Lib.hid (Nat.le_trans HWV.out hle)
            clear hb hle
            generalize u3.alloc (.cells #[.int .i64 0, .string ⟨#[]⟩, .int .i64 0, .bool false] 30) = u4 at *
            generalize u3.heap.size = b8 at *
            refine hK.out _ _ ?_ ?_
            · exact HK.out.tl.tl.tl.six
            clear hK hSat K
            (try simp only [Act.put, List.getElem_toArray, List.getElem_cons_zero, List.getElem_cons_succ, List.setIfInBounds_toArray, List.set_cons_zero, List.set_cons_succ])
            refine NJ.step (i := 6) rfl rfl (by kernel_rfl) (fun hSat K hK => ?_)
            go_simp
            refine Calls.mono (HF2.out _ HB.out) ?_
            rintro e u5 ⟨X2, x2, rfl, hx, hb, -⟩
            replace HK := Lib.hid (HK.out.on hb)
            replace HB := Lib.hid (HB.out.trans (hb.mono HB.out.size))
            have HX2 := Lib.hid hx
            clear hx
            clear hb
            go_wp2_with fail
            refine hK.out _ _ ?_ ?_
            · exact HK.out.tl.tl.tl.six
            clear hK hSat K
            (try simp only [Act.put, List.getElem_toArray, List.getElem_cons_zero, List.getElem_cons_succ, List.setIfInBounds_toArray, List.set_cons_zero, List.set_cons_succ])
            refine NJ.step (i := 7) rfl rfl (by kernel_rfl) (fun hSat K hK => ?_)
            go_simp
            refine Calls.mono (HOF.out _ _ _ HK.out.b HX2.out) ?_
            rintro e u6 ⟨rfl, hb⟩
            replace HK := Lib.hid (HK.out.on hb)
            replace HB := Lib.hid (HB.out.trans (hb.mono HB.out.size))
            clear HX2
            clear hb
            go_wp2_with fail
            refine hK.out _ _ ?_ ?_
            · exact HK.out.tl.tl.tl.six
            clear hK hSat K
            (try simp only [Act.put, List.getElem_toArray, List.getElem_cons_zero, List.getElem_cons_succ, List.setIfInBounds_toArray, List.set_cons_zero, List.set_cons_succ])
            obtain ⟨q0, q1, q2, q3, fq, -⟩ := jud_cells HK.out.h0
            obtain ⟨s0, s1, s2, s3, fs, -⟩ := jud_cells HK.out.tl.h0
            have HPU := Lib.hid (Kp.puts (v6 := y1) (s6 := y2) (v7 := z1) (s7 := z2) HK.out.b HK.out.h0 HK.out.tl.h0 HK.out.tl.tl.h0 HK.out.tl.tl.tl.h0 HK.out.tl.tl.tl.tl.h0 HNE.out L8.out L9.out)
            have HN := Lib.hid (Ne.symm HNE.out)
            have hne := HNE.out
            have hne2 := HN.out
            clear HK HB HNE HN L8 L9
            (refine NJ.over rfl (by kernel_rfl) (fun hSat K hK => ?_); go_simp; refine hK.out _ _ ?_; clear hK hSat K; (try simp only [Act.put, List.getElem_toArray, List.getElem_cons_zero, List.getElem_cons_succ, List.setIfInBounds_toArray, List.set_cons_zero, List.set_cons_succ]))
            (refine wpAnyN_tail (i := 11) rfl rfl (by kernel_rfl) (fun K hK => ?_); go_simp; refine hK.out _ _ ?_; clear hK K; (try simp only [Act.put, List.getElem_toArray, List.getElem_cons_zero, List.getElem_cons_succ, List.setIfInBounds_toArray, List.set_cons_zero, List.set_cons_succ]))
            refine wpAnyN_fin (by kernel_rfl) ?_
            go_wp2_with fail
            go_meet
            exact ⟨b8, b9, rfl, rfl, HPU.out⟩
        · go_simp
          have hb := below_box u2 (.cells #[.int .i64 0, .string ⟨#[]⟩, .int .i64 0, .bool false] 30)
          replace HK := Lib.hid (HK.out.box (.cells #[.int .i64 0, .string ⟨#[]⟩, .int .i64 0, .bool false] 30))
          have hle := HB.out.size
          replace HB := Lib.hid (HB.out.trans (hb.mono HB.out.size))
          replace HX1 := Lib.hid (HX1.out.on hb)
          have HNE := Lib.hid (show u2.heap.size ≠ b9 from by have := LT9.out; omega)
          clear LT9
          have L8 := Lib.hid (Nat.le_trans HWV.out hle)
          clear hb hle
          generalize u2.alloc (.cells #[.int .i64 0, .string ⟨#[]⟩, .int .i64 0, .bool false] 30) = u3 at *
          generalize u2.heap.size = b8 at *
          refine hK.out _ _ ?_ ?_
          · exact HK.out.tl.tl.tl.six
          clear hK hSat K
          (try simp only [Act.put, List.getElem_toArray, List.getElem_cons_zero, List.getElem_cons_succ, List.setIfInBounds_toArray, List.set_cons_zero, List.set_cons_succ])
          refine NJ.step (i := 3) rfl rfl (by kernel_rfl) (fun hSat K hK => ?_)
          go_simp
          refine Calls.mono (HOT.out _ _ _ HK.out.b HX1.out) ?_
          rintro e u4 ⟨rfl, hb⟩
          replace HK := Lib.hid (HK.out.on hb)
          replace HB := Lib.hid (HB.out.trans (hb.mono HB.out.size))
          clear HX1
          clear hb
          go_wp2_with fail
          refine hK.out _ _ ?_ ?_
          · exact HK.out.tl.tl.tl.six
          clear hK hSat K
          (try simp only [Act.put, List.getElem_toArray, List.getElem_cons_zero, List.getElem_cons_succ, List.setIfInBounds_toArray, List.set_cons_zero, List.set_cons_succ])
          refine NJ.step (i := 6) rfl rfl (by kernel_rfl) (fun hSat K hK => ?_)
          go_simp
          refine Calls.mono (HF2.out _ HB.out) ?_
          rintro e u5 ⟨X2, x2, rfl, hx, hb, -⟩
          replace HK := Lib.hid (HK.out.on hb)
          replace HB := Lib.hid (HB.out.trans (hb.mono HB.out.size))
          have HX2 := Lib.hid hx
          clear hx
          clear hb
          go_wp2_with fail
          refine hK.out _ _ ?_ ?_
          · exact HK.out.tl.tl.tl.six
          clear hK hSat K
          (try simp only [Act.put, List.getElem_toArray, List.getElem_cons_zero, List.getElem_cons_succ, List.setIfInBounds_toArray, List.set_cons_zero, List.set_cons_succ])
          refine NJ.step (i := 7) rfl rfl (by kernel_rfl) (fun hSat K hK => ?_)
          go_simp
          refine Calls.mono (HOF.out _ _ _ HK.out.b HX2.out) ?_
          rintro e u6 ⟨rfl, hb⟩
          replace HK := Lib.hid (HK.out.on hb)
          replace HB := Lib.hid (HB.out.trans (hb.mono HB.out.size))
          clear HX2
          clear hb
          go_wp2_with fail
          refine hK.out _ _ ?_ ?_
          · exact HK.out.tl.tl.tl.six
          clear hK hSat K
          (try simp only [Act.put, List.getElem_toArray, List.getElem_cons_zero, List.getElem_cons_succ, List.setIfInBounds_toArray, List.set_cons_zero, List.set_cons_succ])
          obtain ⟨q0, q1, q2, q3, fq, -⟩ := jud_cells HK.out.h0
          obtain ⟨s0, s1, s2, s3, fs, -⟩ := jud_cells HK.out.tl.h0
          have HPU := Lib.hid (Kp.puts (v6 := y1) (s6 := y2) (v7 := z1) (s7 := z2) HK.out.b HK.out.h0 HK.out.tl.h0 HK.out.tl.tl.h0 HK.out.tl.tl.tl.h0 HK.out.tl.tl.tl.tl.h0 HNE.out L8.out L9.out)
          have HN := Lib.hid (Ne.symm HNE.out)
          have hne := HNE.out
          have hne2 := HN.out
          clear HK HB HNE HN L8 L9
          (refine NJ.over rfl (by kernel_rfl) (fun hSat K hK => ?_); go_simp; refine hK.out _ _ ?_; clear hK hSat K; (try simp only [Act.put, List.getElem_toArray, List.getElem_cons_zero, List.getElem_cons_succ, List.setIfInBounds_toArray, List.set_cons_zero, List.set_cons_succ]))
          (refine wpAnyN_tail (i := 11) rfl rfl (by kernel_rfl) (fun K hK => ?_); go_simp; refine hK.out _ _ ?_; clear hK K; (try simp only [Act.put, List.getElem_toArray, List.getElem_cons_zero, List.getElem_cons_succ, List.setIfInBounds_toArray, List.set_cons_zero, List.set_cons_succ]))
          refine wpAnyN_fin (by kernel_rfl) ?_
          go_wp2_with fail
          go_meet
          exact ⟨b8, b9, rfl, rfl, HPU.out⟩
    · go_simp
      have hb := below_box u0 (.cells #[.int .i64 0, .string ⟨#[]⟩, .int .i64 0, .bool false] 30)
      replace HK := Lib.hid (HK.out.box (.cells #[.int .i64 0, .string ⟨#[]⟩, .int .i64 0, .bool false] 30))
      have hle := HB.out.size
      replace HB := Lib.hid (HB.out.trans (hb.mono HB.out.size))
      have L8 := Lib.hid (Nat.le_trans HWV.out hle)
      have LT8 := Lib.hid (show u0.heap.size < (u0.alloc (.cells #[.int .i64 0, .string ⟨#[]⟩, .int .i64 0, .bool false] 30)).heap.size by simp)
      clear hb hle
      generalize u0.alloc (.cells #[.int .i64 0, .string ⟨#[]⟩, .int .i64 0, .bool false] 30) = u1 at *
      generalize u0.heap.size = b8 at *
      refine hK.out _ _ ?_ ?_
      · exact HK.out.tl.tl.six
      clear hK hSat K
      (try simp only [Act.put, List.getElem_toArray, List.getElem_cons_zero, List.getElem_cons_succ, List.setIfInBounds_toArray, List.set_cons_zero, List.set_cons_succ])
      refine NJ.two (i := 2) (j := 9) (by kernel_rfl) ⟨_, rfl, rfl, fun hSat K hK => ?_⟩ ⟨_, rfl, rfl, fun hSat K hK => ?_⟩
      · go_simp
        refine Calls.mono (HF2.out _ HB.out) ?_
        rintro e u2 ⟨X1, x1, rfl, hx, hb, -⟩
        replace HK := Lib.hid (HK.out.on hb)
        replace HB := Lib.hid (HB.out.trans (hb.mono HB.out.size))
        have HX1 := Lib.hid hx
        clear hx
        replace LT8 := Lib.hid (Nat.lt_of_lt_of_le LT8.out hb.size)
        clear hb
        go_wp2_with fail
        refine hK.out _ _ ?_ ?_
        · exact HK.out.tl.tl.six
        clear hK hSat K
        (try simp only [Act.put, List.getElem_toArray, List.getElem_cons_zero, List.getElem_cons_succ, List.setIfInBounds_toArray, List.set_cons_zero, List.set_cons_succ])
        refine NJ.two (i := 3) (j := 9) (by kernel_rfl) ⟨_, rfl, rfl, fun hSat K hK => ?_⟩ ⟨_, rfl, rfl, fun hSat K hK => ?_⟩
        · go_simp
          refine Calls.mono (HOT.out _ _ _ HK.out.b HX1.out) ?_
          rintro e u3 ⟨rfl, hb⟩
          replace HK := Lib.hid (HK.out.on hb)
          replace HB := Lib.hid (HB.out.trans (hb.mono HB.out.size))
          clear HX1
          replace LT8 := Lib.hid (Nat.lt_of_lt_of_le LT8.out hb.size)
          clear hb
          go_wp2_with fail
          refine hK.out _ _ ?_ ?_
          · exact HK.out.tl.tl.six
          clear hK hSat K
          (try simp only [Act.put, List.getElem_toArray, List.getElem_cons_zero, List.getElem_cons_succ, List.setIfInBounds_toArray, List.set_cons_zero, List.set_cons_succ])
          refine NJ.two (i := 6) (j := 9) (by kernel_rfl) ⟨_, rfl, rfl, fun hSat K hK => ?_⟩ ⟨_, rfl, rfl, fun hSat K hK => ?_⟩
          · go_simp
            refine Calls.mono (HF2.out _ HB.out) ?_
            rintro e u4 ⟨X2, x2, rfl, hx, hb, -⟩
            replace HK := Lib.hid (HK.out.on hb)
            replace HB := Lib.hid (HB.out.trans (hb.mono HB.out.size))
            have HX2 := Lib.hid hx
            clear hx
            replace LT8 := Lib.hid (Nat.lt_of_lt_of_le LT8.out hb.size)
            clear hb
            go_wp2_with fail
            refine hK.out _ _ ?_ ?_
            · exact HK.out.tl.tl.six
            clear hK hSat K
            (try simp only [Act.put, List.getElem_toArray, List.getElem_cons_zero, List.getElem_cons_succ, List.setIfInBounds_toArray, List.set_cons_zero, List.set_cons_succ])
            refine NJ.two (i := 7) (j := 9) (by kernel_rfl) ⟨_, rfl, rfl, fun hSat K hK => ?_⟩ ⟨_, rfl, rfl, fun hSat K hK => ?_⟩
            · go_simp
              refine Calls.mono (HOF.out _ _ _ HK.out.b HX2.out) ?_
              rintro e u5 ⟨rfl, hb⟩
              replace HK := Lib.hid (HK.out.on hb)
              replace HB := Lib.hid (HB.out.trans (hb.mono HB.out.size))
              clear HX2
              replace LT8 := Lib.hid (Nat.lt_of_lt_of_le LT8.out hb.size)
              clear hb
              go_wp2_with fail
              refine hK.out _ _ ?_ ?_
              · exact HK.out.tl.tl.six
              clear hK hSat K
              (try simp only [Act.put, List.getElem_toArray, List.getElem_cons_zero, List.getElem_cons_succ, List.setIfInBounds_toArray, List.set_cons_zero, List.set_cons_succ])
              refine NJ.step (i := 9) rfl rfl (by kernel_rfl) (fun hSat K hK => ?_)
              go_simp
              have hb := below_box u5 (.cells #[.int .i64 0, .string ⟨#[]⟩, .int .i64 0, .bool false] 30)
              replace HK := Lib.hid (HK.out.box (.cells #[.int .i64 0, .string ⟨#[]⟩, .int .i64 0, .bool false] 30))
              have hle := HB.out.size
              replace HB := Lib.hid (HB.out.trans (hb.mono HB.out.size))
              have HNE := Lib.hid (show b8 ≠ u5.heap.size from by have := LT8.out; omega)
              clear LT8
              have L9 := Lib.hid (Nat.le_trans HWV.out hle)
              clear hb hle
              generalize u5.alloc (.cells #[.int .i64 0, .string ⟨#[]⟩, .int .i64 0, .bool false] 30) = u6 at *
              generalize u5.heap.size = b9 at *
              refine hK.out _ _ ?_ ?_
              · exact HK.out.tl.tl.tl.six
              clear hK hSat K
              (try simp only [Act.put, List.getElem_toArray, List.getElem_cons_zero, List.getElem_cons_succ, List.setIfInBounds_toArray, List.set_cons_zero, List.set_cons_succ])
              obtain ⟨q0, q1, q2, q3, fq, -⟩ := jud_cells HK.out.tl.h0
              obtain ⟨s0, s1, s2, s3, fs, -⟩ := jud_cells HK.out.h0
              have HPU := Lib.hid (Kp.puts (v6 := y1) (s6 := y2) (v7 := z1) (s7 := z2) HK.out.b HK.out.tl.h0 HK.out.h0 HK.out.tl.tl.h0 HK.out.tl.tl.tl.h0 HK.out.tl.tl.tl.tl.h0 HNE.out L8.out L9.out)
              have HN := Lib.hid (Ne.symm HNE.out)
              have hne := HNE.out
              have hne2 := HN.out
              clear HK HB HNE HN L8 L9
              (refine NJ.over rfl (by kernel_rfl) (fun hSat K hK => ?_); go_simp; refine hK.out _ _ ?_; clear hK hSat K; (try simp only [Act.put, List.getElem_toArray, List.getElem_cons_zero, List.getElem_cons_succ, List.setIfInBounds_toArray, List.set_cons_zero, List.set_cons_succ]))
              (refine wpAnyN_tail (i := 11) rfl rfl (by kernel_rfl) (fun K hK => ?_); go_simp; refine hK.out _ _ ?_; clear hK K; (try simp only [Act.put, List.getElem_toArray, List.getElem_cons_zero, List.getElem_cons_succ, List.setIfInBounds_toArray, List.set_cons_zero, List.set_cons_succ]))
              refine wpAnyN_fin (by kernel_rfl) ?_
              go_wp2_with fail
              go_meet
              exact ⟨b8, b9, rfl, rfl, HPU.out⟩
            · go_simp
              have hb := below_box u4 (.cells #[.int .i64 0, .string ⟨#[]⟩, .int .i64 0, .bool false] 30)
              replace HK := Lib.hid (HK.out.box (.cells #[.int .i64 0, .string ⟨#[]⟩, .int .i64 0, .bool false] 30))
              have hle := HB.out.size
              replace HB := Lib.hid (HB.out.trans (hb.mono HB.out.size))
              replace HX2 := Lib.hid (HX2.out.on hb)
              have HNE := Lib.hid (show b8 ≠ u4.heap.size from by have := LT8.out; omega)
              clear LT8
              have L9 := Lib.hid (Nat.le_trans HWV.out hle)
              clear hb hle
              generalize u4.alloc (.cells #[.int .i64 0, .string ⟨#[]⟩, .int .i64 0, .bool false] 30) = u5 at *
              generalize u4.heap.size = b9 at *
              refine hK.out _ _ ?_ ?_
              · exact HK.out.tl.tl.tl.six
              clear hK hSat K
              (try simp only [Act.put, List.getElem_toArray, List.getElem_cons_zero, List.getElem_cons_succ, List.setIfInBounds_toArray, List.set_cons_zero, List.set_cons_succ])
              refine NJ.step (i := 7) rfl rfl (by kernel_rfl) (fun hSat K hK => ?_)
              go_simp
              refine Calls.mono (HOF.out _ _ _ HK.out.b HX2.out) ?_
              rintro e u6 ⟨rfl, hb⟩
              replace HK := Lib.hid (HK.out.on hb)
              replace HB := Lib.hid (HB.out.trans (hb.mono HB.out.size))
              clear HX2
              clear hb
              go_wp2_with fail
              refine hK.out _ _ ?_ ?_
              · exact HK.out.tl.tl.tl.six
              clear hK hSat K
              (try simp only [Act.put, List.getElem_toArray, List.getElem_cons_zero, List.getElem_cons_succ, List.setIfInBounds_toArray, List.set_cons_zero, List.set_cons_succ])
              obtain ⟨q0, q1, q2, q3, fq, -⟩ := jud_cells HK.out.tl.h0
              obtain ⟨s0, s1, s2, s3, fs, -⟩ := jud_cells HK.out.h0
              have HPU := Lib.hid (Kp.puts (v6 := y1) (s6 := y2) (v7 := z1) (s7 := z2) HK.out.b HK.out.tl.h0 HK.out.h0 HK.out.tl.tl.h0 HK.out.tl.tl.tl.h0 HK.out.tl.tl.tl.tl.h0 HNE.out L8.out L9.out)
              have HN := Lib.hid (Ne.symm HNE.out)
              have hne := HNE.out
              have hne2 := HN.out
              clear HK HB HNE HN L8 L9
              (refine NJ.over rfl (by kernel_rfl) (fun hSat K hK => ?_); go_simp; refine hK.out _ _ ?_; clear hK hSat K; (try simp only [Act.put, List.getElem_toArray, List.getElem_cons_zero, List.getElem_cons_succ, List.setIfInBounds_toArray, List.set_cons_zero, List.set_cons_succ]))
              (refine wpAnyN_tail (i := 11) rfl rfl (by kernel_rfl) (fun K hK => ?_); go_simp; refine hK.out _ _ ?_; clear hK K; (try simp only [Act.put, List.getElem_toArray, List.getElem_cons_zero, List.getElem_cons_succ, List.setIfInBounds_toArray, List.set_cons_zero, List.set_cons_succ]))
              refine wpAnyN_fin (by kernel_rfl) ?_
              go_wp2_with fail
              go_meet
              exact ⟨b8, b9, rfl, rfl, HPU.out⟩
          · go_simp
            have hb := below_box u3 (.cells #[.int .i64 0, .string ⟨#[]⟩, .int .i64 0, .bool false] 30)
            replace HK := Lib.hid (HK.out.box (.cells #[.int .i64 0, .string ⟨#[]⟩, .int .i64 0, .bool false] 30))
            have hle := HB.out.size
            replace HB := Lib.hid (HB.out.trans (hb.mono HB.out.size))
            have HNE := Lib.hid (show b8 ≠ u3.heap.size from by have := LT8.out; omega)
            clear LT8
            have L9 := Lib.hid (Nat.le_trans HWV.out hle)
            clear hb hle
            generalize u3.alloc (.cells #[.int .i64 0, .string ⟨#[]⟩, .int .i64 0, .bool false] 30) = u4 at *
            generalize u3.heap.size = b9 at *
            refine hK.out _ _ ?_ ?_
            · exact HK.out.tl.tl.tl.six
            clear hK hSat K
            (try simp only [Act.put, List.getElem_toArray, List.getElem_cons_zero, List.getElem_cons_succ, List.setIfInBounds_toArray, List.set_cons_zero, List.set_cons_succ])
            refine NJ.step (i := 6) rfl rfl (by kernel_rfl) (fun hSat K hK => ?_)
            go_simp
            refine Calls.mono (HF2.out _ HB.out) ?_
            rintro e u5 ⟨X2, x2, rfl, hx, hb, -⟩
            replace HK := Lib.hid (HK.out.on hb)
            replace HB := Lib.hid (HB.out.trans (hb.mono HB.out.size))
            have HX2 := Lib.hid hx
            clear hx
            clear hb
            go_wp2_with fail
            refine hK.out _ _ ?_ ?_
            · exact HK.out.tl.tl.tl.six
            clear hK hSat K
            (try simp only [Act.put, List.getElem_toArray, List.getElem_cons_zero, List.getElem_cons_succ, List.setIfInBounds_toArray, List.set_cons_zero, List.set_cons_succ])
            refine NJ.step (i := 7) rfl rfl (by kernel_rfl) (fun hSat K hK => ?_)
            go_simp
            refine Calls.mono (HOF.out _ _ _ HK.out.b HX2.out) ?_
            rintro e u6 ⟨rfl, hb⟩
            replace HK := Lib.hid (HK.out.on hb)
            replace HB := Lib.hid (HB.out.trans (hb.mono HB.out.size))
            clear HX2
            clear hb
            go_wp2_with fail
            refine hK.out _ _ ?_ ?_
            · exact HK.out.tl.tl.tl.six
            clear hK hSat K
            (try simp only [Act.put, List.getElem_toArray, List.getElem_cons_zero, List.getElem_cons_succ, List.setIfInBounds_toArray, List.set_cons_zero, List.set_cons_succ])
            obtain ⟨q0, q1, q2, q3, fq, -⟩ := jud_cells HK.out.tl.h0
            obtain ⟨s0, s1, s2, s3, fs, -⟩ := jud_cells HK.out.h0
            have HPU := Lib.hid (Kp.puts (v6 := y1) (s6 := y2) (v7 := z1) (s7 := z2) HK.out.b HK.out.tl.h0 HK.out.h0 HK.out.tl.tl.h0 HK.out.tl.tl.tl.h0 HK.out.tl.tl.tl.tl.h0 HNE.out L8.out L9.out)
            have HN := Lib.hid (Ne.symm HNE.out)
            have hne := HNE.out
            have hne2 := HN.out
            clear HK HB HNE HN L8 L9
            (refine NJ.over rfl (by kernel_rfl) (fun hSat K hK => ?_); go_simp; refine hK.out _ _ ?_; clear hK hSat K; (try simp only [Act.put, List.getElem_toArray, List.getElem_cons_zero, List.getElem_cons_succ, List.setIfInBounds_toArray, List.set_cons_zero, List.set_cons_succ]))
            (refine wpAnyN_tail (i := 11) rfl rfl (by kernel_rfl) (fun K hK => ?_); go_simp; refine hK.out _ _ ?_; clear hK K; (try simp only [Act.put, List.getElem_toArray, List.getElem_cons_zero, List.getElem_cons_succ, List.setIfInBounds_toArray, List.set_cons_zero, List.set_cons_succ]))
            refine wpAnyN_fin (by kernel_rfl) ?_
            go_wp2_with fail
            go_meet
            exact ⟨b8, b9, rfl, rfl, HPU.out⟩
        · go_simp
          have hb := below_box u2 (.cells #[.int .i64 0, .string ⟨#[]⟩, .int .i64 0, .bool false] 30)
          replace HK := Lib.hid (HK.out.box (.cells #[.int .i64 0, .string ⟨#[]⟩, .int .i64 0, .bool false] 30))
          have hle := HB.out.size
          replace HB := Lib.hid (HB.out.trans (hb.mono HB.out.size))
          replace HX1 := Lib.hid (HX1.out.on hb)
          have HNE := Lib.hid (show b8 ≠ u2.heap.size from by have := LT8.out; omega)
          clear LT8
          have L9 := Lib.hid (Nat.le_trans HWV.out hle)
          clear hb hle
          generalize u2.alloc (.cells #[.int .i64 0, .string ⟨#[]⟩, .int .i64 0, .bool false] 30) = u3 at *
          generalize u2.heap.size = b9 at *
          refine hK.out _ _ ?_ ?_
          · exact HK.out.tl.tl.tl.six
          clear hK hSat K
          (try simp only [Act.put, List.getElem_toArray, List.getElem_cons_zero, List.getElem_cons_succ, List.setIfInBounds_toArray, List.set_cons_zero, List.set_cons_succ])
          refine NJ.step (i := 3) rfl rfl (by kernel_rfl) (fun hSat K hK => ?_)
          go_simp
          refine Calls.mono (HOT.out _ _ _ HK.out.b HX1.out) ?_
          rintro e u4 ⟨rfl, hb⟩
          replace HK := Lib.hid (HK.out.on hb)
          replace HB := Lib.hid (HB.out.trans (hb.mono HB.out.size))
          clear HX1
          clear hb
          go_wp2_with fail
          refine hK.out _ _ ?_ ?_
          · exact HK.out.tl.tl.tl.six
          clear hK hSat K
          (try simp only [Act.put, List.getElem_toArray, List.getElem_cons_zero, List.getElem_cons_succ, List.setIfInBounds_toArray, List.set_cons_zero, List.set_cons_succ])
          refine NJ.step (i := 6) rfl rfl (by kernel_rfl) (fun hSat K hK => ?_)
          go_simp
          refine Calls.mono (HF2.out _ HB.out) ?_
          rintro e u5 ⟨X2, x2, rfl, hx, hb, -⟩
          replace HK := Lib.hid (HK.out.on hb)
          replace HB := Lib.hid (HB.out.trans (hb.mono HB.out.size))
          have HX2 := Lib.hid hx
          clear hx
          clear hb
          go_wp2_with fail
          refine hK.out _ _ ?_ ?_
          · exact HK.out.tl.tl.tl.six
          clear hK hSat K
          (try simp only [Act.put, List.getElem_toArray, List.getElem_cons_zero, List.getElem_cons_succ, List.setIfInBounds_toArray, List.set_cons_zero, List.set_cons_succ])
          refine NJ.step (i := 7) rfl rfl (by kernel_rfl) (fun hSat K hK => ?_)
          go_simp
          refine Calls.mono (HOF.out _ _ _ HK.out.b HX2.out) ?_
          rintro e u6 ⟨rfl, hb⟩
          replace HK := Lib.hid (HK.out.on hb)
          replace HB := Lib.hid (HB.out.trans (hb.mono HB.out.size))
          clear HX2
          clear hb
          go_wp2_with fail
          refine hK.out _ _ ?_ ?_
          · exact HK.out.tl.tl.tl.six
          clear hK hSat K
          (try simp only [Act.put, List.getElem_toArray, List.getElem_cons_zero, List.getElem_cons_succ, List.setIfInBounds_toArray, List.set_cons_zero, List.set_cons_succ])
          obtain ⟨q0, q1, q2, q3, fq, -⟩ := jud_cells HK.out.tl.h0
          obtain ⟨s0, s1, s2, s3, fs, -⟩ := jud_cells HK.out.h0
          have HPU := Lib.hid (Kp.puts (v6 := y1) (s6 := y2) (v7 := z1) (s7 := z2) HK.out.b HK.out.tl.h0 HK.out.h0 HK.out.tl.tl.h0 HK.out.tl.tl.tl.h0 HK.out.tl.tl.tl.tl.h0 HNE.out L8.out L9.out)
          have HN := Lib.hid (Ne.symm HNE.out)
          have hne := HNE.out
          have hne2 := HN.out
          clear HK HB HNE HN L8 L9
          (refine NJ.over rfl (by kernel_rfl) (fun hSat K hK => ?_); go_simp; refine hK.out _ _ ?_; clear hK hSat K; (try simp only [Act.put, List.getElem_toArray, List.getElem_cons_zero, List.getElem_cons_succ, List.setIfInBounds_toArray, List.set_cons_zero, List.set_cons_succ]))
          (refine wpAnyN_tail (i := 11) rfl rfl (by kernel_rfl) (fun K hK => ?_); go_simp; refine hK.out _ _ ?_; clear hK K; (try simp only [Act.put, List.getElem_toArray, List.getElem_cons_zero, List.getElem_cons_succ, List.setIfInBounds_toArray, List.set_cons_zero, List.set_cons_succ]))
          refine wpAnyN_fin (by kernel_rfl) ?_
          go_wp2_with fail
          go_meet
          exact ⟨b8, b9, rfl, rfl, HPU.out⟩
      · go_simp
        have hb := below_box u1 (.cells #[.int .i64 0, .string ⟨#[]⟩, .int .i64 0, .bool false] 30)
        replace HK := Lib.hid (HK.out.box (.cells #[.int .i64 0, .string ⟨#[]⟩, .int .i64 0, .bool false] 30))
        have hle := HB.out.size
        replace HB := Lib.hid (HB.out.trans (hb.mono HB.out.size))
        have HNE := Lib.hid (show b8 ≠ u1.heap.size from by have := LT8.out; omega)
        clear LT8
        have L9 := Lib.hid (Nat.le_trans HWV.out hle)
        clear hb hle
        generalize u1.alloc (.cells #[.int .i64 0, .string ⟨#[]⟩, .int .i64 0, .bool false] 30) = u2 at *
        generalize u1.heap.size = b9 at *
        refine hK.out _ _ ?_ ?_
        · exact HK.out.tl.tl.tl.six
        clear hK hSat K
        (try simp only [Act.put, List.getElem_toArray, List.getElem_cons_zero, List.getElem_cons_succ, List.setIfInBounds_toArray, List.set_cons_zero, List.set_cons_succ])
        refine NJ.step (i := 2) rfl rfl (by kernel_rfl) (fun hSat K hK => ?_)
        go_simp
        refine Calls.mono (HF2.out _ HB.out) ?_
        rintro e u3 ⟨X1, x1, rfl, hx, hb, -⟩
        replace HK := Lib.hid (HK.out.on hb)
        replace HB := Lib.hid (HB.out.trans (hb.mono HB.out.size))
        have HX1 := Lib.hid hx
        clear hx
        clear hb
        go_wp2_with fail
        refine hK.out _ _ ?_ ?_
        · exact HK.out.tl.tl.tl.six
        clear hK hSat K
        (try simp only [Act.put, List.getElem_toArray, List.getElem_cons_zero, List.getElem_cons_succ, List.setIfInBounds_toArray, List.set_cons_zero, List.set_cons_succ])
        refine NJ.step (i := 3) rfl rfl (by kernel_rfl) (fun hSat K hK => ?_)
        go_simp
        refine Calls.mono (HOT.out _ _ _ HK.out.b HX1.out) ?_
        rintro e u4 ⟨rfl, hb⟩
        replace HK := Lib.hid (HK.out.on hb)
        replace HB := Lib.hid (HB.out.trans (hb.mono HB.out.size))
        clear HX1
        clear hb
        go_wp2_with fail
        refine hK.out _ _ ?_ ?_
        · exact HK.out.tl.tl.tl.six
        clear hK hSat K
        (try simp only [Act.put, List.getElem_toArray, List.getElem_cons_zero, List.getElem_cons_succ, List.setIfInBounds_toArray, List.set_cons_zero, List.set_cons_succ])
        refine NJ.step (i := 6) rfl rfl (by kernel_rfl) (fun hSat K hK => ?_)
        go_simp
        refine Calls.mono (HF2.out _ HB.out) ?_
        rintro e u5 ⟨X2, x2, rfl, hx, hb, -⟩
        replace HK := Lib.hid (HK.out.on hb)
        replace HB := Lib.hid (HB.out.trans (hb.mono HB.out.size))
        have HX2 := Lib.hid hx
        clear hx
        clear hb
        go_wp2_with fail
        refine hK.out _ _ ?_ ?_
        · exact HK.out.tl.tl.tl.six
        clear hK hSat K
        (try simp only [Act.put, List.getElem_toArray, List.getElem_cons_zero, List.getElem_cons_succ, List.setIfInBounds_toArray, List.set_cons_zero, List.set_cons_succ])
        refine NJ.step (i := 7) rfl rfl (by kernel_rfl) (fun hSat K hK => ?_)
        go_simp
        refine Calls.mono (HOF.out _ _ _ HK.out.b HX2.out) ?_
        rintro e u6 ⟨rfl, hb⟩
        replace HK := Lib.hid (HK.out.on hb)
        replace HB := Lib.hid (HB.out.trans (hb.mono HB.out.size))
        clear HX2
        clear hb
        go_wp2_with fail
        refine hK.out _ _ ?_ ?_
        · exact HK.out.tl.tl.tl.six
        clear hK hSat K
        (try simp only [Act.put, List.getElem_toArray, List.getElem_cons_zero, List.getElem_cons_succ, List.setIfInBounds_toArray, List.set_cons_zero, List.set_cons_succ])
        obtain ⟨q0, q1, q2, q3, fq, -⟩ := jud_cells HK.out.tl.h0
        obtain ⟨s0, s1, s2, s3, fs, -⟩ := jud_cells HK.out.h0
        have HPU := Lib.hid (Kp.puts (v6 := y1) (s6 := y2) (v7 := z1) (s7 := z2) HK.out.b HK.out.tl.h0 HK.out.h0 HK.out.tl.tl.h0 HK.out.tl.tl.tl.h0 HK.out.tl.tl.tl.tl.h0 HNE.out L8.out L9.out)
        have HN := Lib.hid (Ne.symm HNE.out)
        have hne := HNE.out
        have hne2 := HN.out
        clear HK HB HNE HN L8 L9
        (refine NJ.over rfl (by kernel_rfl) (fun hSat K hK => ?_); go_simp; refine hK.out _ _ ?_; clear hK hSat K; (try simp only [Act.put, List.getElem_toArray, List.getElem_cons_zero, List.getElem_cons_succ, List.setIfInBounds_toArray, List.set_cons_zero, List.set_cons_succ]))
        (refine wpAnyN_tail (i := 11) rfl rfl (by kernel_rfl) (fun K hK => ?_); go_simp; refine hK.out _ _ ?_; clear hK K; (try simp only [Act.put, List.getElem_toArray, List.getElem_cons_zero, List.getElem_cons_succ, List.setIfInBounds_toArray, List.set_cons_zero, List.set_cons_succ]))
        refine wpAnyN_fin (by kernel_rfl) ?_
        go_wp2_with fail
        go_meet
        exact ⟨b8, b9, rfl, rfl, HPU.out⟩
    · go_simp
      have hb := below_box u0 (.cells #[.int .i64 0, .string ⟨#[]⟩, .int .i64 0, .bool false] 30)
      replace HK := Lib.hid (HK.out.box (.cells #[.int .i64 0, .string ⟨#[]⟩, .int .i64 0, .bool false] 30))
      have hle := HB.out.size
      replace HB := Lib.hid (HB.out.trans (hb.mono HB.out.size))
      have L9 := Lib.hid (Nat.le_trans HWV.out hle)
      have LT9 := Lib.hid (show u0.heap.size < (u0.alloc (.cells #[.int .i64 0, .string ⟨#[]⟩, .int .i64 0, .bool false] 30)).heap.size by simp)
      clear hb hle
      generalize u0.alloc (.cells #[.int .i64 0, .string ⟨#[]⟩, .int .i64 0, .bool false] 30) = u1 at *
      generalize u0.heap.size = b9 at *
      refine hK.out _ _ ?_ ?_
      · exact HK.out.tl.tl.six
      clear hK hSat K
      (try simp only [Act.put, List.getElem_toArray, List.getElem_cons_zero, List.getElem_cons_succ, List.setIfInBounds_toArray, List.set_cons_zero, List.set_cons_succ])
      refine NJ.two (i := 2) (j := 8) (by kernel_rfl) ⟨_, rfl, rfl, fun hSat K hK => ?_⟩ ⟨_, rfl, rfl, fun hSat K hK => ?_⟩
      · go_simp
        refine Calls.mono (HF2.out _ HB.out) ?_
        rintro e u2 ⟨X1, x1, rfl, hx, hb, -⟩
        replace HK := Lib.hid (HK.out.on hb)
        replace HB := Lib.hid (HB.out.trans (hb.mono HB.out.size))
        have HX1 := Lib.hid hx
        clear hx
        replace LT9 := Lib.hid (Nat.lt_of_lt_of_le LT9.out hb.size)
        clear hb
        go_wp2_with fail
        refine hK.out _ _ ?_ ?_
        · exact HK.out.tl.tl.six
        clear hK hSat K
        (try simp only [Act.put, List.getElem_toArray, List.getElem_cons_zero, List.getElem_cons_succ, List.setIfInBounds_toArray, List.set_cons_zero, List.set_cons_succ])
        refine NJ.two (i := 3) (j := 8) (by kernel_rfl) ⟨_, rfl, rfl, fun hSat K hK => ?_⟩ ⟨_, rfl, rfl, fun hSat K hK => ?_⟩
        · go_simp
          refine Calls.mono (HOT.out _ _ _ HK.out.b HX1.out) ?_
          rintro e u3 ⟨rfl, hb⟩
          replace HK := Lib.hid (HK.out.on hb)
          replace HB := Lib.hid (HB.out.trans (hb.mono HB.out.size))
          clear HX1
          replace LT9 := Lib.hid (Nat.lt_of_lt_of_le LT9.out hb.size)
          clear hb
          go_wp2_with fail
          refine hK.out _ _ ?_ ?_
          · exact HK.out.tl.tl.six
          clear hK hSat K
          (try simp only [Act.put, List.getElem_toArray, List.getElem_cons_zero, List.getElem_cons_succ, List.setIfInBounds_toArray, List.set_cons_zero, List.set_cons_succ])
          refine NJ.two (i := 6) (j := 8) (by kernel_rfl) ⟨_, rfl, rfl, fun hSat K hK => ?_⟩ ⟨_, rfl, rfl, fun hSat K hK => ?_⟩
          · go_simp
            refine Calls.mono (HF2.out _ HB.out) ?_
            rintro e u4 ⟨X2, x2, rfl, hx, hb, -⟩
            replace HK := Lib.hid (HK.out.on hb)
            replace HB := Lib.hid (HB.out.trans (hb.mono HB.out.size))
            have HX2 := Lib.hid hx
            clear hx
            replace LT9 := Lib.hid (Nat.lt_of_lt_of_le LT9.out hb.size)
            clear hb
            go_wp2_with fail
            refine hK.out _ _ ?_ ?_
            · exact HK.out.tl.tl.six
            clear hK hSat K
            (try simp only [Act.put, List.getElem_toArray, List.getElem_cons_zero, List.getElem_cons_succ, List.setIfInBounds_toArray, List.set_cons_zero, List.set_cons_succ])
            refine NJ.two (i := 7) (j := 8) (by kernel_rfl) ⟨_, rfl, rfl, fun hSat K hK => ?_⟩ ⟨_, rfl, rfl, fun hSat K hK => ?_⟩
            · go_simp
              refine Calls.mono (HOF.out _ _ _ HK.out.b HX2.out) ?_
              rintro e u5 ⟨rfl, hb⟩
              replace HK := Lib.hid (HK.out.on hb)
              replace HB := Lib.hid (HB.out.trans (hb.mono HB.out.size))
              clear HX2
              replace LT9 := Lib.hid (Nat.lt_of_lt_of_le LT9.out hb.size)
              clear hb
              go_wp2_with fail
              refine hK.out _ _ ?_ ?_
              · exact HK.out.tl.tl.six
              clear hK hSat K
              (try simp only [Act.put, List.getElem_toArray, List.getElem_cons_zero, List.getElem_cons_succ, List.setIfInBounds_toArray, List.set_cons_zero, List.set_cons_succ])
              refine NJ.step (i := 8) rfl rfl (by kernel_rfl) (fun hSat K hK => ?_)
              go_simp
              have hb := below_box u5 (.cells #[.int .i64 0, .string ⟨#[]⟩, .int .i64 0, .bool false] 30)
              replace HK := Lib.hid (HK.out.box (.cells #[.int .i64 0, .string ⟨#[]⟩, .int .i64 0, .bool false] 30))
              have hle := HB.out.size
              replace HB := Lib.hid (HB.out.trans (hb.mono HB.out.size))
              have HNE := Lib.hid (show u5.heap.size ≠ b9 from by have := LT9.out; omega)
              clear LT9
              have L8 := Lib.hid (Nat.le_trans HWV.out hle)
              clear hb hle
              generalize u5.alloc (.cells #[.int .i64 0, .string ⟨#[]⟩, .int .i64 0, .bool false] 30) = u6 at *
              generalize u5.heap.size = b8 at *
              refine hK.out _ _ ?_ ?_
              · exact HK.out.tl.tl.tl.six
              clear hK hSat K
              (try simp only [Act.put, List.getElem_toArray, List.getElem_cons_zero, List.getElem_cons_succ, List.setIfInBounds_toArray, List.set_cons_zero, List.set_cons_succ])
              obtain ⟨q0, q1, q2, q3, fq, -⟩ := jud_cells HK.out.h0
              obtain ⟨s0, s1, s2, s3, fs, -⟩ := jud_cells HK.out.tl.h0
              have HPU := Lib.hid (Kp.puts (v6 := y1) (s6 := y2) (v7 := z1) (s7 := z2) HK.out.b HK.out.h0 HK.out.tl.h0 HK.out.tl.tl.h0 HK.out.tl.tl.tl.h0 HK.out.tl.tl.tl.tl.h0 HNE.out L8.out L9.out)
              have HN := Lib.hid (Ne.symm HNE.out)
              have hne := HNE.out
              have hne2 := HN.out
              clear HK HB HNE HN L8 L9
              (refine NJ.over rfl (by kernel_rfl) (fun hSat K hK => ?_); go_simp; refine hK.out _ _ ?_; clear hK hSat K; (try simp only [Act.put, List.getElem_toArray, List.getElem_cons_zero, List.getElem_cons_succ, List.setIfInBounds_toArray, List.set_cons_zero, List.set_cons_succ]))
              (refine wpAnyN_tail (i := 11) rfl rfl (by kernel_rfl) (fun K hK => ?_); go_simp; refine hK.out _ _ ?_; clear hK K; (try simp only [Act.put, List.getElem_toArray, List.getElem_cons_zero, List.getElem_cons_succ, List.setIfInBounds_toArray, List.set_cons_zero, List.set_cons_succ]))
              refine wpAnyN_fin (by kernel_rfl) ?_
              go_wp2_with fail
              go_meet
              exact ⟨b8, b9, rfl, rfl, HPU.out⟩
            · go_simp
              have hb := below_box u4 (.cells #[.int .i64 0, .string ⟨#[]⟩, .int .i64 0, .bool false] 30)
              replace HK := Lib.hid (HK.out.box (.cells #[.int .i64 0, .string ⟨#[]⟩, .int .i64 0, .bool false] 30))
              have hle := HB.out.size
              replace HB := Lib.hid (HB.out.trans (hb.mono HB.out.size))
              replace HX2 := Lib.hid (HX2.out.on hb)
              have HNE := Lib.hid (show u4.heap.size ≠ b9 from by have := LT9.out; omega)
              clear LT9
              have L8 := Lib.hid (Nat.le_trans HWV.out hle)
              clear hb hle
              generalize u4.alloc (.cells #[.int .i64 0, .string ⟨#[]⟩, .int .i64 0, .bool false] 30) = u5 at *
              generalize u4.heap.size = b8 at *
              refine hK.out _ _ ?_ ?_
              · exact HK.out.tl.tl.tl.six
              clear hK hSat K
              (try simp only [Act.put, List.getElem_toArray, List.getElem_cons_zero, List.getElem_cons_succ, List.setIfInBounds_toArray, List.set_cons_zero, List.set_cons_succ])
              refine NJ.step (i := 7) rfl rfl (by kernel_rfl) (fun hSat K hK => ?_)
              go_simp
              refine Calls.mono (HOF.out _ _ _ HK.out.b HX2.out) ?_
              rintro e u6 ⟨rfl, hb⟩
              replace HK := Lib.hid (HK.out.on hb)
              replace HB := Lib.hid (HB.out.trans (hb.mono HB.out.size))
              clear HX2
              clear hb
              go_wp2_with fail
              refine hK.out _ _ ?_ ?_
              · exact HK.out.tl.tl.tl.six
              clear hK hSat K
              (try simp only [Act.put, List.getElem_toArray, List.getElem_cons_zero, List.getElem_cons_succ, List.setIfInBounds_toArray, List.set_cons_zero, List.set_cons_succ])
              obtain ⟨q0, q1, q2, q3, fq, -⟩ := jud_cells HK.out.h0
              obtain ⟨s0, s1, s2, s3, fs, -⟩ := jud_cells HK.out.tl.h0
              have HPU := Lib.hid (Kp.puts (v6 := y1) (s6 := y2) (v7 := z1) (s7 := z2) HK.out.b HK.out.h0 HK.out.tl.h0 HK.out.tl.tl.h0 HK.out.tl.tl.tl.h0 HK.out.tl.tl.tl.tl.h0 HNE.out L8.out L9.out)
              have HN := Lib.hid (Ne.symm HNE.out)
              have hne := HNE.out
              have hne2 := HN.out
              clear HK HB HNE HN L8 L9
              (refine NJ.over rfl (by kernel_rfl) (fun hSat K hK => ?_); go_simp; refine hK.out _ _ ?_; clear hK hSat K; (try simp only [Act.put, List.getElem_toArray, List.getElem_cons_zero, List.getElem_cons_succ, List.setIfInBounds_toArray, List.set_cons_zero, List.set_cons_succ]))
              (refine wpAnyN_tail (i := 11) rfl rfl (by kernel_rfl) (fun K hK => ?_); go_simp; refine hK.out _ _ ?_; clear hK K; (try simp only [Act.put, List.getElem_toArray, List.getElem_cons_zero, List.getElem_cons_succ, List.setIfInBounds_toArray, List.set_cons_zero, List.set_cons_succ]))
              refine wpAnyN_fin (by kernel_rfl) ?_
              go_wp2_with fail
              go_meet
              exact ⟨b8, b9, rfl, rfl, HPU.out⟩
          · go_simp
            have hb := below_box u3 (.cells #[.int .i64 0, .string ⟨#[]⟩, .int .i64 0, .bool false] 30)
            replace HK := Lib.hid (HK.out.box (.cells #[.int .i64 0, .string ⟨#[]⟩, .int .i64 0, .bool false] 30))
            have hle := HB.out.size
            replace HB := Lib.hid (HB.out.trans (hb.mono HB.out.size))
            have HNE := Lib.hid (show u3.heap.size ≠ b9 from by have := LT9.out; omega)
            clear LT9
            have L8 := Lib.hid (Nat.le_trans HWV.out hle)
            clear hb hle
            generalize u3.alloc (.cells #[.int .i64 0, .string ⟨#[]⟩, .int .i64 0, .bool false] 30) = u4 at *
            generalize u3.heap.size = b8 at *
            refine hK.out _ _ ?_ ?_
            · exact HK.out.tl.tl.tl.six
            clear hK hSat K
            (try simp only [Act.put, List.getElem_toArray, List.getElem_cons_zero, List.getElem_cons_succ, List.setIfInBounds_toArray, List.set_cons_zero, List.set_cons_succ])
            refine NJ.step (i := 6) rfl rfl (by kernel_rfl) (fun hSat K hK => ?_)
            go_simp
            refine Calls.mono (HF2.out _ HB.out) ?_
            rintro e u5 ⟨X2, x2, rfl, hx, hb, -⟩
            replace HK := Lib.hid (HK.out.on hb)
            replace HB := Lib.hid (HB.out.trans (hb.mono HB.out.size))
            have HX2 := Lib.hid hx
            clear hx
            clear hb
            go_wp2_with fail
            refine hK.out _ _ ?_ ?_
            · exact HK.out.tl.tl.tl.six
            clear hK hSat K
            (try simp only [Act.put, List.getElem_toArray, List.getElem_cons_zero, List.getElem_cons_succ, List.setIfInBounds_toArray, List.set_cons_zero, List.set_cons_succ])
            refine NJ.step (i := 7) rfl rfl (by kernel_rfl) (fun hSat K hK => ?_)
            go_simp
            refine Calls.mono (HOF.out _ _ _ HK.out.b HX2.out) ?_
            rintro e u6 ⟨rfl, hb⟩
            replace HK := Lib.hid (HK.out.on hb)
            replace HB := Lib.hid (HB.out.trans (hb.mono HB.out.size))
            clear HX2
            clear hb
            go_wp2_with fail
            refine hK.out _ _ ?_ ?_
            · exact HK.out.tl.tl.tl.six
            clear hK hSat K
            (try simp only [Act.put, List.getElem_toArray, List.getElem_cons_zero, List.getElem_cons_succ, List.setIfInBounds_toArray, List.set_cons_zero, List.set_cons_succ])
            obtain ⟨q0, q1, q2, q3, fq, -⟩ := jud_cells HK.out.h0
            obtain ⟨s0, s1, s2, s3, fs, -⟩ := jud_cells HK.out.tl.h0
            have HPU := Lib.hid (Kp.puts (v6 := y1) (s6 := y2) (v7 := z1) (s7 := z2) HK.out.b HK.out.h0 HK.out.tl.h0 HK.out.tl.tl.h0 HK.out.tl.tl.tl.h0 HK.out.tl.tl.tl.tl.h0 HNE.out L8.out L9.out)
            have HN := Lib.hid (Ne.symm HNE.out)
            have hne := HNE.out
            have hne2 := HN.out
            clear HK HB HNE HN L8 L9
            (refine NJ.over rfl (by kernel_rfl) (fun hSat K hK => ?_); go_simp; refine hK.out _ _ ?_; clear hK hSat K; (try simp only [Act.put, List.getElem_toArray, List.getElem_cons_zero, List.getElem_cons_succ, List.setIfInBounds_toArray, List.set_cons_zero, List.set_cons_succ]))
            (refine wpAnyN_tail (i := 11) rfl rfl (by kernel_rfl) (fun K hK => ?_); go_simp; refine hK.out _ _ ?_; clear hK K; (try simp only [Act.put, List.getElem_toArray, List.getElem_cons_zero, List.getElem_cons_succ, List.setIfInBounds_toArray, List.set_cons_zero, List.set_cons_succ]))
            refine wpAnyN_fin (by kernel_rfl) ?_
            go_wp2_with fail
            go_meet
            exact ⟨b8, b9, rfl, rfl, HPU.out⟩
        · go_simp
          have hb := below_box u2 (.cells #[.int .i64 0, .string ⟨#[]⟩, .int .i64 0, .bool false] 30)
          replace HK := Lib.hid (HK.out.box (.cells #[.int .i64 0, .string ⟨#[]⟩, .int .i64 0, .bool false] 30))
          have hle := HB.out.size
          replace HB := Lib.hid (HB.out.trans (hb.mono HB.out.size))
          replace HX1 := Lib.hid (HX1.out.on hb)
          have HNE := Lib.hid (show u2.heap.size ≠ b9 from by have := LT9.out; omega)
          clear LT9
          have L8 := Lib.hid (Nat.le_trans HWV.out hle)
          clear hb hle
          generalize u2.alloc (.cells #[.int .i64 0, .string ⟨#[]⟩, .int .i64 0, .bool false] 30) = u3 at *
          generalize u2.heap.size = b8 at *
          refine hK.out _ _ ?_ ?_
          · exact HK.out.tl.tl.tl.six
          clear hK hSat K
          (try simp only [Act.put, List.getElem_toArray, List.getElem_cons_zero, List.getElem_cons_succ, List.setIfInBounds_toArray, List.set_cons_zero, List.set_cons_succ])
          refine NJ.step (i := 3) rfl rfl (by kernel_rfl) (fun hSat K hK => ?_)
          go_simp
          refine Calls.mono (HOT.out _ _ _ HK.out.b HX1.out) ?_
          rintro e u4 ⟨rfl, hb⟩
          replace HK := Lib.hid (HK.out.on hb)
          replace HB := Lib.hid (HB.out.trans (hb.mono HB.out.size))
          clear HX1
          clear hb
          go_wp2_with fail
          refine hK.out _ _ ?_ ?_
          · exact HK.out.tl.tl.tl.six
          clear hK hSat K
          (try simp only [Act.put, List.getElem_toArray, List.getElem_cons_zero, List.getElem_cons_succ, List.setIfInBounds_toArray, List.set_cons_zero, List.set_cons_succ])
          refine NJ.step (i := 6) rfl rfl (by kernel_rfl) (fun hSat K hK => ?_)
          go_simp
          refine Calls.mono (HF2.out _ HB.out) ?_
          rintro e u5 ⟨X2, x2, rfl, hx, hb, -⟩
          replace HK := Lib.hid (HK.out.on hb)
          replace HB := Lib.hid (HB.out.trans (hb.mono HB.out.size))
          have HX2 := Lib.hid hx
          clear hx
          clear hb
          go_wp2_with fail
          refine hK.out _ _ ?_ ?_
          · exact HK.out.tl.tl.tl.six
          clear hK hSat K
          (try simp only [Act.put, List.getElem_toArray, List.getElem_cons_zero, List.getElem_cons_succ, List.setIfInBounds_toArray, List.set_cons_zero, List.set_cons_succ])
          refine NJ.step (i := 7) rfl rfl (by kernel_rfl) (fun hSat K hK => ?_)
          go_simp
          refine Calls.mono (HOF.out _ _ _ HK.out.b HX2.out) ?_
          rintro e u6 ⟨rfl, hb⟩
          replace HK := Lib.hid (HK.out.on hb)
          replace HB := Lib.hid (HB.out.trans (hb.mono HB.out.size))
          clear HX2
          clear hb
          go_wp2_with fail
          refine hK.out _ _ ?_ ?_
          · exact HK.out.tl.tl.tl.six
          clear hK hSat K
          (try simp only [Act.put, List.getElem_toArray, List.getElem_cons_zero, List.getElem_cons_succ, List.setIfInBounds_toArray, List.set_cons_zero, List.set_cons_succ])
          obtain ⟨q0, q1, q2, q3, fq, -⟩ := jud_cells HK.out.h0
          obtain ⟨s0, s1, s2, s3, fs, -⟩ := jud_cells HK.out.tl.h0
          have HPU := Lib.hid (Kp.puts (v6 := y1) (s6 := y2) (v7 := z1) (s7 := z2) HK.out.b HK.out.h0 HK.out.tl.h0 HK.out.tl.tl.h0 HK.out.tl.tl.tl.h0 HK.out.tl.tl.tl.tl.h0 HNE.out L8.out L9.out)
          have HN := Lib.hid (Ne.symm HNE.out)
          have hne := HNE.out
          have hne2 := HN.out
          clear HK HB HNE HN L8 L9
          (refine NJ.over rfl (by kernel_rfl) (fun hSat K hK => ?_); go_simp; refine hK.out _ _ ?_; clear hK hSat K; (try simp only [Act.put, List.getElem_toArray, List.getElem_cons_zero, List.getElem_cons_succ, List.setIfInBounds_toArray, List.set_cons_zero, List.set_cons_succ]))
          (refine wpAnyN_tail (i := 11) rfl rfl (by kernel_rfl) (fun K hK => ?_); go_simp; refine hK.out _ _ ?_; clear hK K; (try simp only [Act.put, List.getElem_toArray, List.getElem_cons_zero, List.getElem_cons_succ, List.setIfInBounds_toArray, List.set_cons_zero, List.set_cons_succ]))
          refine wpAnyN_fin (by kernel_rfl) ?_
          go_wp2_with fail
          go_meet
          exact ⟨b8, b9, rfl, rfl, HPU.out⟩
      · go_simp
        have hb := below_box u1 (.cells #[.int .i64 0, .string ⟨#[]⟩, .int .i64 0, .bool false] 30)
        replace HK := Lib.hid (HK.out.box (.cells #[.int .i64 0, .string ⟨#[]⟩, .int .i64 0, .bool false] 30))
        have hle := HB.out.size
        replace HB := Lib.hid (HB.out.trans (hb.mono HB.out.size))
        have HNE := Lib.hid (show u1.heap.size ≠ b9 from by have := LT9.out; omega)
        clear LT9
        have L8 := Lib.hid (Nat.le_trans HWV.out hle)
        clear hb hle
        generalize u1.alloc (.cells #[.int .i64 0, .string ⟨#[]⟩, .int .i64 0, .bool false] 30) = u2 at *
        generalize u1.heap.size = b8 at *
        refine hK.out _ _ ?_ ?_
        · exact HK.out.tl.tl.tl.six
        clear hK hSat K
        (try simp only [Act.put, List.getElem_toArray, List.getElem_cons_zero, List.getElem_cons_succ, List.setIfInBounds_toArray, List.set_cons_zero, List.set_cons_succ])
        refine NJ.step (i := 2) rfl rfl (by kernel_rfl) (fun hSat K hK => ?_)
        go_simp
        refine Calls.mono (HF2.out _ HB.out) ?_
        rintro e u3 ⟨X1, x1, rfl, hx, hb, -⟩
        replace HK := Lib.hid (HK.out.on hb)
        replace HB := Lib.hid (HB.out.trans (hb.mono HB.out.size))
        have HX1 := Lib.hid hx
        clear hx
        clear hb
        go_wp2_with fail
        refine hK.out _ _ ?_ ?_
        · exact HK.out.tl.tl.tl.six
        clear hK hSat K
        (try simp only [Act.put, List.getElem_toArray, List.getElem_cons_zero, List.getElem_cons_succ, List.setIfInBounds_toArray, List.set_cons_zero, List.set_cons_succ])
        refine NJ.step (i := 3) rfl rfl (by kernel_rfl) (fun hSat K hK => ?_)
        go_simp
        refine Calls.mono (HOT.out _ _ _ HK.out.b HX1.out) ?_
        rintro e u4 ⟨rfl, hb⟩
        replace HK := Lib.hid (HK.out.on hb)
        replace HB := Lib.hid (HB.out.trans (hb.mono HB.out.size))
        clear HX1
        clear hb
        go_wp2_with fail
        refine hK.out _ _ ?_ ?_
        · exact HK.out.tl.tl.tl.six
        clear hK hSat K
        (try simp only [Act.put, List.getElem_toArray, List.getElem_cons_zero, List.getElem_cons_succ, List.setIfInBounds_toArray, List.set_cons_zero, List.set_cons_succ])
        refine NJ.step (i := 6) rfl rfl (by kernel_rfl) (fun hSat K hK => ?_)
        go_simp
        refine Calls.mono (HF2.out _ HB.out) ?_
        rintro e u5 ⟨X2, x2, rfl, hx, hb, -⟩
        replace HK := Lib.hid (HK.out.on hb)
        replace HB := Lib.hid (HB.out.trans (hb.mono HB.out.size))
        have HX2 := Lib.hid hx
        clear hx
        clear hb
        go_wp2_with fail
        refine hK.out _ _ ?_ ?_
        · exact HK.out.tl.tl.tl.six
        clear hK hSat K
        (try simp only [Act.put, List.getElem_toArray, List.getElem_cons_zero, List.getElem_cons_succ, List.setIfInBounds_toArray, List.set_cons_zero, List.set_cons_succ])
        refine NJ.step (i := 7) rfl rfl (by kernel_rfl) (fun hSat K hK => ?_)
        go_simp
        refine Calls.mono (HOF.out _ _ _ HK.out.b HX2.out) ?_
        rintro e u6 ⟨rfl, hb⟩
        replace HK := Lib.hid (HK.out.on hb)
        replace HB := Lib.hid (HB.out.trans (hb.mono HB.out.size))
        clear HX2
        clear hb
        go_wp2_with fail
        refine hK.out _ _ ?_ ?_
        · exact HK.out.tl.tl.tl.six
        clear hK hSat K
        (try simp only [Act.put, List.getElem_toArray, List.getElem_cons_zero, List.getElem_cons_succ, List.setIfInBounds_toArray, List.set_cons_zero, List.set_cons_succ])
        obtain ⟨q0, q1, q2, q3, fq, -⟩ := jud_cells HK.out.h0
        obtain ⟨s0, s1, s2, s3, fs, -⟩ := jud_cells HK.out.tl.h0
        have HPU := Lib.hid (Kp.puts (v6 := y1) (s6 := y2) (v7 := z1) (s7 := z2) HK.out.b HK.out.h0 HK.out.tl.h0 HK.out.tl.tl.h0 HK.out.tl.tl.tl.h0 HK.out.tl.tl.tl.tl.h0 HNE.out L8.out L9.out)
        have HN := Lib.hid (Ne.symm HNE.out)
        have hne := HNE.out
        have hne2 := HN.out
        clear HK HB HNE HN L8 L9
        (refine NJ.over rfl (by kernel_rfl) (fun hSat K hK => ?_); go_simp; refine hK.out _ _ ?_; clear hK hSat K; (try simp only [Act.put, List.getElem_toArray, List.getElem_cons_zero, List.getElem_cons_succ, List.setIfInBounds_toArray, List.set_cons_zero, List.set_cons_succ]))
        (refine wpAnyN_tail (i := 11) rfl rfl (by kernel_rfl) (fun K hK => ?_); go_simp; refine hK.out _ _ ?_; clear hK K; (try simp only [Act.put, List.getElem_toArray, List.getElem_cons_zero, List.getElem_cons_succ, List.setIfInBounds_toArray, List.set_cons_zero, List.set_cons_succ]))
        refine wpAnyN_fin (by kernel_rfl) ?_
        go_wp2_with fail
        go_meet
        exact ⟨b8, b9, rfl, rfl, HPU.out⟩
  obtain ⟨b6, b7, rfl, rfl, hk⟩ := hcut
  have HK := Lib.hid hk
  obtain ⟨V4, hV4⟩ : ∃ V4, V4 = wc := ⟨_, rfl⟩
  subst hV4
  clear hk HOT HOF HF2 HA3 HB1 HK1
  obtain ⟨y0, y1c, y2c, y3, -, -⟩ := jud_cells HK.out.h0; obtain ⟨z0, z1c, z2c, z3, -, -⟩ := jud_cells HK.out.tl.h0; obtain ⟨x0, x1, x2, x3, x4, x5, -, xz⟩ := said_cells HK.out.tl.tl.h0; obtain ⟨r0, r1, -, rz⟩ := rep_cells HK.out.tl.tl.tl.h0; obtain ⟨a0, a1, a2, a3, -, az⟩ := ask_cells HK.out.tl.tl.tl.tl.h0
  rcases HKN.out with h | ⟨rfl, h, h0⟩
  · injection h with e1 e2
    subst e1 e2
    clear HKN
    cases cr
    · obtain ⟨h1, -⟩ := HOP.out rfl
      (try dsimp only at h1)
      subst h1
      go_wp2_with fail
      refine Calls.mono (lives30_any _ (HT.out _ HK.out.b)) ?_
      rintro e w9 ⟨rfl, hb⟩
      replace HK := Lib.hid (HK.out.on hb)
      clear hb y0 y1c y2c y3 z0 z1c z2c z3 x0 x1 x2 x3 x4 x5 xz r0 r1 rz a0 a1 a2 a3 az
      go_wp2_with fail
      go_ret
      exact ⟨by simp, HK.out.b⟩
    cases nc
    · obtain ⟨h1, -⟩ := HOP.out rfl
      (try dsimp only at h1)
      subst h1
      go_wp2_with fail
      refine Calls.mono (lives30_any _ (HT.out _ HK.out.b)) ?_
      rintro e w9 ⟨rfl, hb⟩
      replace HK := Lib.hid (HK.out.on hb)
      clear hb y0 y1c y2c y3 z0 z1c z2c z3 x0 x1 x2 x3 x4 x5 xz r0 r1 rz a0 a1 a2 a3 az
      go_wp2_with fail
      go_ret
      exact ⟨by simp, HK.out.b⟩
    cases hs
    · clear HSF HSA
      go_wp2_with fail
      refine Calls.mono (lives30_any _ (HT.out _ HK.out.b)) ?_
      rintro e w9 ⟨rfl, hb⟩
      replace HK := Lib.hid (HK.out.on hb)
      clear hb y0 y1c y2c y3 z0 z1c z2c z3 x0 x1 x2 x3 x4 x5 xz r0 r1 rz a0 a1 a2 a3 az
      go_wp2_with fail
      go_ret
      exact ⟨by simp, HK.out.b⟩
    · go_wp2_with fail
      refine Calls.mono (HSA.out _ _ _ HK.out.b) ?_
      rintro e w8 ⟨rfl, hb⟩
      replace HK := Lib.hid (HK.out.on hb)
      clear hb y0 y1c y2c y3 z0 z1c z2c z3 x0 x1 x2 x3 x4 x5 xz r0 r1 rz a0 a1 a2 a3 az
      obtain ⟨y0, y1c, y2c, y3, -, -⟩ := jud_cells HK.out.h0; obtain ⟨z0, z1c, z2c, z3, -, -⟩ := jud_cells HK.out.tl.h0; obtain ⟨x0, x1, x2, x3, x4, x5, -, xz⟩ := said_cells HK.out.tl.tl.h0; obtain ⟨r0, r1, -, rz⟩ := rep_cells HK.out.tl.tl.tl.h0; obtain ⟨a0, a1, a2, a3, -, az⟩ := ask_cells HK.out.tl.tl.tl.tl.h0
      cases sb
      · go_wp2_with fail
        refine Calls.mono (lives30_any _ (HT.out _ HK.out.b)) ?_
        rintro e w9 ⟨rfl, hb⟩
        replace HK := Lib.hid (HK.out.on hb)
        clear hb y0 y1c y2c y3 z0 z1c z2c z3 x0 x1 x2 x3 x4 x5 xz r0 r1 rz a0 a1 a2 a3 az
        go_wp2_with fail
        go_ret
        exact ⟨by simp, HK.out.b⟩
      · obtain ⟨h1, -⟩ := HSF.out rfl
        (try dsimp only at h1)
        subst h1
        go_wp2_with fail
        refine Calls.mono (lives30_any _ (HT.out _ HK.out.b)) ?_
        rintro e w9 ⟨rfl, hb⟩
        replace HK := Lib.hid (HK.out.on hb)
        clear hb y0 y1c y2c y3 z0 z1c z2c z3 x0 x1 x2 x3 x4 x5 xz r0 r1 rz a0 a1 a2 a3 az
        go_wp2_with fail
        go_ret
        exact ⟨by simp, HK.out.b⟩
  · injection h with e1 e2
    subst e1 e2
    clear HKN
    rcases h0 with h | h
    · injection h with e1 e2
      subst e1 e2
      unfold wValidated wRange at *
      cases cr
      · exact absurd (HOP.out rfl).2 (by decide)
      cases nc
      · exact absurd (HOP.out rfl).2 (by decide)
      cases hs
      · clear HSF HSA
        go_wp2_with fail
        refine Calls.mono (lives30_any _ (HT.out _ HK.out.b)) ?_
        rintro e w9 ⟨rfl, hb⟩
        replace HK := Lib.hid (HK.out.on hb)
        clear hb y0 y1c y2c y3 z0 z1c z2c z3 x0 x1 x2 x3 x4 x5 xz r0 r1 rz a0 a1 a2 a3 az
        go_wp2_with fail
        go_ret
        exact ⟨by simp, HK.out.b⟩
      · go_wp2_with fail
        refine Calls.mono (HSA.out _ _ _ HK.out.b) ?_
        rintro e w8 ⟨rfl, hb⟩
        replace HK := Lib.hid (HK.out.on hb)
        clear hb y0 y1c y2c y3 z0 z1c z2c z3 x0 x1 x2 x3 x4 x5 xz r0 r1 rz a0 a1 a2 a3 az
        obtain ⟨y0, y1c, y2c, y3, -, -⟩ := jud_cells HK.out.h0; obtain ⟨z0, z1c, z2c, z3, -, -⟩ := jud_cells HK.out.tl.h0; obtain ⟨x0, x1, x2, x3, x4, x5, -, xz⟩ := said_cells HK.out.tl.tl.h0; obtain ⟨r0, r1, -, rz⟩ := rep_cells HK.out.tl.tl.tl.h0; obtain ⟨a0, a1, a2, a3, -, az⟩ := ask_cells HK.out.tl.tl.tl.tl.h0
        cases sb
        · go_wp2_with fail
          refine Calls.mono (lives30_any _ (HT.out _ HK.out.b)) ?_
          rintro e w9 ⟨rfl, hb⟩
          replace HK := Lib.hid (HK.out.on hb)
          clear hb y0 y1c y2c y3 z0 z1c z2c z3 x0 x1 x2 x3 x4 x5 xz r0 r1 rz a0 a1 a2 a3 az
          go_wp2_with fail
          go_ret
          exact ⟨by simp, HK.out.b⟩
        · exact absurd (HSF.out rfl).2 (by decide)
    · injection h with e1 e2
      subst e1 e2
      unfold wValidated wNone at *
      cases cr
      · exact absurd (HOP.out rfl).2 (by decide)
      cases nc
      · exact absurd (HOP.out rfl).2 (by decide)
      cases hs
      · clear HSF HSA
        go_wp2_with fail
        refine Calls.mono (lives30_any _ (HT.out _ HK.out.b)) ?_
        rintro e w9 ⟨rfl, hb⟩
        replace HK := Lib.hid (HK.out.on hb)
        clear hb y0 y1c y2c y3 z0 z1c z2c z3 x0 x1 x2 x3 x4 x5 xz r0 r1 rz a0 a1 a2 a3 az
        go_wp2_with fail
        go_ret
        exact ⟨by simp, HK.out.b⟩
      · go_wp2_with fail
        refine Calls.mono (HSA.out _ _ _ HK.out.b) ?_
        rintro e w8 ⟨rfl, hb⟩
        replace HK := Lib.hid (HK.out.on hb)
        clear hb y0 y1c y2c y3 z0 z1c z2c z3 x0 x1 x2 x3 x4 x5 xz r0 r1 rz a0 a1 a2 a3 az
        obtain ⟨y0, y1c, y2c, y3, -, -⟩ := jud_cells HK.out.h0; obtain ⟨z0, z1c, z2c, z3, -, -⟩ := jud_cells HK.out.tl.h0; obtain ⟨x0, x1, x2, x3, x4, x5, -, xz⟩ := said_cells HK.out.tl.tl.h0; obtain ⟨r0, r1, -, rz⟩ := rep_cells HK.out.tl.tl.tl.h0; obtain ⟨a0, a1, a2, a3, -, az⟩ := ask_cells HK.out.tl.tl.tl.tl.h0
        cases sb
        · go_wp2_with fail
          refine Calls.mono (lives30_any _ (HT.out _ HK.out.b)) ?_
          rintro e w9 ⟨rfl, hb⟩
          replace HK := Lib.hid (HK.out.on hb)
          clear hb y0 y1c y2c y3 z0 z1c z2c z3 x0 x1 x2 x3 x4 x5 xz r0 r1 rz a0 a1 a2 a3 az
          go_wp2_with fail
          go_ret
          exact ⟨by simp, HK.out.b⟩
        · exact absurd (HSF.out rfl).2 (by decide)

end Go.Proofs.YtcbhkcdphbffpaaGreatDoor
