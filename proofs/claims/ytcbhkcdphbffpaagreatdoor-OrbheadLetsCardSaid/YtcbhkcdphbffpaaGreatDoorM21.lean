/-
  Lemmas of this claim, part 21: the texts OrbC, OrbD, OrbF, one behind the other.
-/
import Derived.Test.YtcbhkcdphbffpaaGreatDoorM20

namespace Go.Proofs.YtcbhkcdphbffpaaGreatDoor
open Go.RowKit
set_option linter.unusedSimpArgs false
set_option linter.unusedVariables false

set_option maxHeartbeats 8000000 in
set_option maxRecDepth 20000 in
theorem Of30_any (url : ByteArray) (cr nc : Bool) (md st : Int) (l : Pars) (A : Option Addr) (c : Nat) (k : Bool) (w : World) (hT : Tab w) (hl : FewP l) (hA : ParsIn w w.heap.size A l) :
    Calls Tryz.prog 8 #[askV url cr nc md, repV st A l.length c, .bool k] w fun e w' => e = .returned (judV (ofL cr nc md st l k).1 (ofL cr nc md st l k).2) ∧ Below w.heap.size w w' := by
  have hsz := kindM_sizes hl
  have HS := Lib.hid (fun (w1 : World) (hb : Below w.heap.size w w1) => Said_any l A c w1 hl (hA.on hb))
  have HG := Lib.hid (fun (w1 : World) => guarded_any url cr nc md w1)
  have HI1 := Lib.hid (fun (A1 : Option Addr) (c1 : Nat) (w1 : World) (hb : Below w.heap.size w w1) => in_any (K := 27) (fun args w => MuLone.run_callFunc_enter Tryz.func27 (by kernel_rfl) rfl args w) Safe_says (kindM l).1 A1 c1 (kindM l).2 (noSniff l) (saidBug l) w1 (hT.on hb) (sizeT hsz) (sizeS hsz))
  have HI2 := Lib.hid (fun (A1 : Option Addr) (c1 : Nat) (w1 : World) (hb : Below w.heap.size w w1) => in_any (K := 28) (fun args w => MuLone.run_callFunc_enter Tryz.func28 (by kernel_rfl) rfl args w) Never_says (kindM l).1 A1 c1 (kindM l).2 (noSniff l) (saidBug l) w1 (hT.on hb) (sizeT hsz) (sizeS hsz))
  have HI3 := Lib.hid (fun (A1 : Option Addr) (c1 : Nat) (w1 : World) (hb : Below w.heap.size w w1) => in_any (K := 30) (fun args w => MuLone.run_callFunc_enter Tryz.func30 (by kernel_rfl) rfl args w) Listed_says (kindM l).1 A1 c1 (kindM l).2 (noSniff l) (saidBug l) w1 (hT.on hb) (sizeT hsz) (sizeS hsz))
  have HP := Lib.hid (fun (w1 : World) => partial30_any st A l.length c w1)
  have HQ := Lib.hid (fun (A1 : Option Addr) (c1 : Nat) (w1 : World) => isPlain_any (kindM l).1 A1 c1 (kindM l).2 (noSniff l) (saidBug l) w1 hsz)
  have HF := Lib.hid (fun (w1 : World) (hb : Below w.heap.size w w1) => first30_any st l A c w1 (fewP_fewR hl) (hA.on hb))
  unfold GivesSaid at HS
  unfold ofL
  generalize ((kindM l).2 && safeB (bt (kindM l).1.t) (bt (kindM l).1.s)) = sb at *
  generalize ((kindM l).2 && neverB (bt (kindM l).1.t) (bt (kindM l).1.s)) = nb at *
  generalize ((kindM l).2 && listedB (bt (kindM l).1.t) (bt (kindM l).1.s)) = lb at *
  generalize plainB (kindM l).1 (kindM l).2 = pb at *
  generalize noSniff l = ns at *
  generalize saidBug l = bu at *
  generalize firstL l = fb at *
  generalize (st == 206) = b at *
  generalize (cr && nc) = g at *
  obtain ⟨q, hq⟩ : ∃ q, (md == 2) = q := ⟨_, rfl⟩
  rw [hq]
  generalize kindM l = X at *
  obtain ⟨M, hs⟩ := X
  dsimp only at HS HI1 HI2 HI3 HQ
  generalize l.length = n at *
  have K0 := Kp.box3 w (askO url cr nc md) (repO st A n c) (judO 0 ⟨#[]⟩)
  unfold askO repO judO at K0
  clear hsz hl hA hT
  unfold askV at HG ⊢
  unfold repV at HP HF ⊢
  go_enter Tryz.func8, Tryz.ntmps8
  go_upto_region 1 with fail
  generalize ((w.alloc (.cells #[.string url, .bool cr, .bool nc, .int .i64 md] 23)).alloc (.cells #[.int .i64 st, .slice A n c] 26)).alloc (.cells #[.int .i64 0, .string ⟨#[]⟩, .int .i64 0, .bool false] 30) = W at *
  obtain ⟨r0, r1, -, rz⟩ := rep_cells K0.tl.h0
  go_wp2_with fail
  refine (HS.out W K0.b).mono ?_
  rintro e w1 ⟨A1, c1, rfl, -, hb⟩
  have K := K0.on hb
  clear hb r0 r1 rz K0 HS
  unfold saidV
  go_upto_region 2 with fail
  replace K := Lib.hid (K.box (saidO M A1 c1 hs ns bu))
  unfold saidO at K
  generalize w1.alloc _ = W1 at *
  generalize w1.heap.size = gx at *
  (obtain ⟨x0, x1, x2, x3, x4, x5, -, xz⟩ := said_cells K.out.h0; obtain ⟨j0, j1, j2, j3, jf, jz⟩ := jud_cells K.out.tl.h0; obtain ⟨r0, r1, -, rz⟩ := rep_cells K.out.tl.tl.h0; obtain ⟨a0, a1, a2, a3, -, az⟩ := ask_cells K.out.tl.tl.tl.h0)
  unfold saidV at HI1 HI2 HI3 HQ
  (go_wp2_with fail; (all_goals try contradiction); refine Calls.mono (HG.out _) ?_; rintro e w' ⟨rfl, hb⟩; (replace K := Lib.hid (K.out.on hb); clear hb x0 x1 x2 x3 x4 x5 xz j0 j1 j2 j3 jf jz r0 r1 rz a0 a1 a2 a3 az; obtain ⟨x0, x1, x2, x3, x4, x5, -, xz⟩ := said_cells K.out.h0; obtain ⟨j0, j1, j2, j3, jf, jz⟩ := jud_cells K.out.tl.h0; obtain ⟨r0, r1, -, rz⟩ := rep_cells K.out.tl.tl.h0; obtain ⟨a0, a1, a2, a3, -, az⟩ := ask_cells K.out.tl.tl.tl.h0))
  cases g
  · (go_wp2_with fail; refine Calls.mono (judged_any _ _ _) ?_; rintro e w' ⟨rfl, hb⟩; replace K := Lib.hid (K.out.on hb); clear hb x0 x1 x2 x3 x4 x5 xz j0 j1 j2 j3 jf jz r0 r1 rz a0 a1 a2 a3 az; obtain ⟨j0, j1, j2, j3, jf, jz⟩ := jud_cells K.out.tl.h0; unfold judV; go_wp2_with fail; refine bodyPost_ret (v := .agg #[.int .i64 1, .string wOpen, .int .i64 0, .bool false]) (by simp [results, Tryz.results8, go_sem, j0, j1, j2, j3, wOpen]) rfl ⟨rfl, ((((K.out.b).setCell (by first | omega | (dsimp only; omega)) _).setCell (by first | omega | (dsimp only; omega)) _).setCell (by first | omega | (dsimp only; omega)) _).setCell (by first | omega | (dsimp only; omega)) _⟩)
  · (go_wp2_with fail; (all_goals try contradiction); refine Calls.mono (HI1.out A1 c1 _ K.out.b) ?_; rintro e w' ⟨rfl, hb⟩; (replace K := Lib.hid (K.out.on hb); clear hb x0 x1 x2 x3 x4 x5 xz j0 j1 j2 j3 jf jz r0 r1 rz a0 a1 a2 a3 az; obtain ⟨x0, x1, x2, x3, x4, x5, -, xz⟩ := said_cells K.out.h0; obtain ⟨j0, j1, j2, j3, jf, jz⟩ := jud_cells K.out.tl.h0; obtain ⟨r0, r1, -, rz⟩ := rep_cells K.out.tl.tl.h0; obtain ⟨a0, a1, a2, a3, -, az⟩ := ask_cells K.out.tl.tl.tl.h0))
    cases sb
    · (go_wp2_with fail; (all_goals try contradiction); refine Calls.mono (HI2.out A1 c1 _ K.out.b) ?_; rintro e w' ⟨rfl, hb⟩; (replace K := Lib.hid (K.out.on hb); clear hb x0 x1 x2 x3 x4 x5 xz j0 j1 j2 j3 jf jz r0 r1 rz a0 a1 a2 a3 az; obtain ⟨x0, x1, x2, x3, x4, x5, -, xz⟩ := said_cells K.out.h0; obtain ⟨j0, j1, j2, j3, jf, jz⟩ := jud_cells K.out.tl.h0; obtain ⟨r0, r1, -, rz⟩ := rep_cells K.out.tl.tl.h0; obtain ⟨a0, a1, a2, a3, -, az⟩ := ask_cells K.out.tl.tl.tl.h0))
      cases nb
      · (go_wp2_with fail; (all_goals try contradiction); refine Calls.mono (HP.out _) ?_; rintro e w' ⟨rfl, hb⟩; (replace K := Lib.hid (K.out.on hb); clear hb x0 x1 x2 x3 x4 x5 xz j0 j1 j2 j3 jf jz r0 r1 rz a0 a1 a2 a3 az; obtain ⟨x0, x1, x2, x3, x4, x5, -, xz⟩ := said_cells K.out.h0; obtain ⟨j0, j1, j2, j3, jf, jz⟩ := jud_cells K.out.tl.h0; obtain ⟨r0, r1, -, rz⟩ := rep_cells K.out.tl.tl.h0; obtain ⟨a0, a1, a2, a3, -, az⟩ := ask_cells K.out.tl.tl.tl.h0))
        cases b
        · cases ns
          · (by_cases h2 : md = 2; (focus (obtain rfl : q = true := hq.symm.trans (by rw [h2]; rfl); subst h2; clear hq; cases k; (focus ((go_wp2_with fail; (all_goals try contradiction); refine Calls.mono (HP.out _) ?_; rintro e w' ⟨rfl, hb⟩; (replace K := Lib.hid (K.out.on hb); clear hb x0 x1 x2 x3 x4 x5 xz j0 j1 j2 j3 jf jz r0 r1 rz a0 a1 a2 a3 az; obtain ⟨x0, x1, x2, x3, x4, x5, -, xz⟩ := said_cells K.out.h0; obtain ⟨j0, j1, j2, j3, jf, jz⟩ := jud_cells K.out.tl.h0; obtain ⟨r0, r1, -, rz⟩ := rep_cells K.out.tl.tl.h0; obtain ⟨a0, a1, a2, a3, -, az⟩ := ask_cells K.out.tl.tl.tl.h0)); (go_wp2_with fail; refine Calls.mono (judged_any _ _ _) ?_; rintro e w' ⟨rfl, hb⟩; replace K := Lib.hid (K.out.on hb); clear hb x0 x1 x2 x3 x4 x5 xz j0 j1 j2 j3 jf jz r0 r1 rz a0 a1 a2 a3 az; obtain ⟨j0, j1, j2, j3, jf, jz⟩ := jud_cells K.out.tl.h0; unfold judV; go_wp2_with fail; refine bodyPost_ret (v := .agg #[.int .i64 0, .string wNone, .int .i64 0, .bool false]) (by simp [results, Tryz.results8, go_sem, j0, j1, j2, j3, wNone]) rfl ⟨rfl, ((((K.out.b).setCell (by first | omega | (dsimp only; omega)) _).setCell (by first | omega | (dsimp only; omega)) _).setCell (by first | omega | (dsimp only; omega)) _).setCell (by first | omega | (dsimp only; omega)) _⟩))); (focus ((go_wp2_with fail; refine Calls.mono (judged_any _ _ _) ?_; rintro e w' ⟨rfl, hb⟩; replace K := Lib.hid (K.out.on hb); clear hb x0 x1 x2 x3 x4 x5 xz j0 j1 j2 j3 jf jz r0 r1 rz a0 a1 a2 a3 az; obtain ⟨j0, j1, j2, j3, jf, jz⟩ := jud_cells K.out.tl.h0; unfold judV; go_wp2_with fail; refine bodyPost_ret (v := .agg #[.int .i64 1, .string wValidated, .int .i64 0, .bool false]) (by simp [results, Tryz.results8, go_sem, j0, j1, j2, j3, wValidated]) rfl ⟨rfl, ((((K.out.b).setCell (by first | omega | (dsimp only; omega)) _).setCell (by first | omega | (dsimp only; omega)) _).setCell (by first | omega | (dsimp only; omega)) _).setCell (by first | omega | (dsimp only; omega)) _⟩))))); (focus (obtain rfl : q = false := hq.symm.trans (beq_eq_false_iff_ne.2 h2); cases k; (focus ((go_wp2_with fail; (all_goals try contradiction); refine Calls.mono (HP.out _) ?_; rintro e w' ⟨rfl, hb⟩; (replace K := Lib.hid (K.out.on hb); clear hb x0 x1 x2 x3 x4 x5 xz j0 j1 j2 j3 jf jz r0 r1 rz a0 a1 a2 a3 az; obtain ⟨x0, x1, x2, x3, x4, x5, -, xz⟩ := said_cells K.out.h0; obtain ⟨j0, j1, j2, j3, jf, jz⟩ := jud_cells K.out.tl.h0; obtain ⟨r0, r1, -, rz⟩ := rep_cells K.out.tl.tl.h0; obtain ⟨a0, a1, a2, a3, -, az⟩ := ask_cells K.out.tl.tl.tl.h0)); (go_wp2_with fail; refine Calls.mono (judged_any _ _ _) ?_; rintro e w' ⟨rfl, hb⟩; replace K := Lib.hid (K.out.on hb); clear hb x0 x1 x2 x3 x4 x5 xz j0 j1 j2 j3 jf jz r0 r1 rz a0 a1 a2 a3 az; obtain ⟨j0, j1, j2, j3, jf, jz⟩ := jud_cells K.out.tl.h0; unfold judV; go_wp2_with fail; refine bodyPost_ret (v := .agg #[.int .i64 0, .string wNone, .int .i64 0, .bool false]) (by simp [results, Tryz.results8, go_sem, j0, j1, j2, j3, wNone]) rfl ⟨rfl, ((((K.out.b).setCell (by first | omega | (dsimp only; omega)) _).setCell (by first | omega | (dsimp only; omega)) _).setCell (by first | omega | (dsimp only; omega)) _).setCell (by first | omega | (dsimp only; omega)) _⟩))); (focus ((go_wp2_with fail; (all_goals try contradiction); refine Calls.mono (HP.out _) ?_; rintro e w' ⟨rfl, hb⟩; (replace K := Lib.hid (K.out.on hb); clear hb x0 x1 x2 x3 x4 x5 xz j0 j1 j2 j3 jf jz r0 r1 rz a0 a1 a2 a3 az; obtain ⟨x0, x1, x2, x3, x4, x5, -, xz⟩ := said_cells K.out.h0; obtain ⟨j0, j1, j2, j3, jf, jz⟩ := jud_cells K.out.tl.h0; obtain ⟨r0, r1, -, rz⟩ := rep_cells K.out.tl.tl.h0; obtain ⟨a0, a1, a2, a3, -, az⟩ := ask_cells K.out.tl.tl.tl.h0)); (go_wp2_with fail; refine Calls.mono (judged_any _ _ _) ?_; rintro e w' ⟨rfl, hb⟩; replace K := Lib.hid (K.out.on hb); clear hb x0 x1 x2 x3 x4 x5 xz j0 j1 j2 j3 jf jz r0 r1 rz a0 a1 a2 a3 az; obtain ⟨j0, j1, j2, j3, jf, jz⟩ := jud_cells K.out.tl.h0; unfold judV; go_wp2_with fail; refine bodyPost_ret (v := .agg #[.int .i64 0, .string wNone, .int .i64 0, .bool false]) (by simp [results, Tryz.results8, go_sem, j0, j1, j2, j3, wNone]) rfl ⟨rfl, ((((K.out.b).setCell (by first | omega | (dsimp only; omega)) _).setCell (by first | omega | (dsimp only; omega)) _).setCell (by first | omega | (dsimp only; omega)) _).setCell (by first | omega | (dsimp only; omega)) _⟩))))))
          · (go_wp2_with fail; (all_goals try contradiction); refine Calls.mono (HI3.out A1 c1 _ K.out.b) ?_; rintro e w' ⟨rfl, hb⟩; (replace K := Lib.hid (K.out.on hb); clear hb x0 x1 x2 x3 x4 x5 xz j0 j1 j2 j3 jf jz r0 r1 rz a0 a1 a2 a3 az; obtain ⟨x0, x1, x2, x3, x4, x5, -, xz⟩ := said_cells K.out.h0; obtain ⟨j0, j1, j2, j3, jf, jz⟩ := jud_cells K.out.tl.h0; obtain ⟨r0, r1, -, rz⟩ := rep_cells K.out.tl.tl.h0; obtain ⟨a0, a1, a2, a3, -, az⟩ := ask_cells K.out.tl.tl.tl.h0))
            cases lb
            · (go_wp2_with fail; (all_goals try contradiction); refine Calls.mono (HQ.out A1 c1 _) ?_; rintro e w' ⟨rfl, hb⟩; (replace K := Lib.hid (K.out.on hb); clear hb x0 x1 x2 x3 x4 x5 xz j0 j1 j2 j3 jf jz r0 r1 rz a0 a1 a2 a3 az; obtain ⟨x0, x1, x2, x3, x4, x5, -, xz⟩ := said_cells K.out.h0; obtain ⟨j0, j1, j2, j3, jf, jz⟩ := jud_cells K.out.tl.h0; obtain ⟨r0, r1, -, rz⟩ := rep_cells K.out.tl.tl.h0; obtain ⟨a0, a1, a2, a3, -, az⟩ := ask_cells K.out.tl.tl.tl.h0))
              cases pb
              · (by_cases h2 : md = 2; (focus (obtain rfl : q = true := hq.symm.trans (by rw [h2]; rfl); subst h2; clear hq; cases k; (focus ((go_wp2_with fail; (all_goals try contradiction); refine Calls.mono (HP.out _) ?_; rintro e w' ⟨rfl, hb⟩; (replace K := Lib.hid (K.out.on hb); clear hb x0 x1 x2 x3 x4 x5 xz j0 j1 j2 j3 jf jz r0 r1 rz a0 a1 a2 a3 az; obtain ⟨x0, x1, x2, x3, x4, x5, -, xz⟩ := said_cells K.out.h0; obtain ⟨j0, j1, j2, j3, jf, jz⟩ := jud_cells K.out.tl.h0; obtain ⟨r0, r1, -, rz⟩ := rep_cells K.out.tl.tl.h0; obtain ⟨a0, a1, a2, a3, -, az⟩ := ask_cells K.out.tl.tl.tl.h0)); (go_wp2_with fail; refine Calls.mono (judged_any _ _ _) ?_; rintro e w' ⟨rfl, hb⟩; replace K := Lib.hid (K.out.on hb); clear hb x0 x1 x2 x3 x4 x5 xz j0 j1 j2 j3 jf jz r0 r1 rz a0 a1 a2 a3 az; obtain ⟨j0, j1, j2, j3, jf, jz⟩ := jud_cells K.out.tl.h0; unfold judV; go_wp2_with fail; refine bodyPost_ret (v := .agg #[.int .i64 0, .string wNone, .int .i64 0, .bool false]) (by simp [results, Tryz.results8, go_sem, j0, j1, j2, j3, wNone]) rfl ⟨rfl, ((((K.out.b).setCell (by first | omega | (dsimp only; omega)) _).setCell (by first | omega | (dsimp only; omega)) _).setCell (by first | omega | (dsimp only; omega)) _).setCell (by first | omega | (dsimp only; omega)) _⟩))); (focus ((go_wp2_with fail; refine Calls.mono (judged_any _ _ _) ?_; rintro e w' ⟨rfl, hb⟩; replace K := Lib.hid (K.out.on hb); clear hb x0 x1 x2 x3 x4 x5 xz j0 j1 j2 j3 jf jz r0 r1 rz a0 a1 a2 a3 az; obtain ⟨j0, j1, j2, j3, jf, jz⟩ := jud_cells K.out.tl.h0; unfold judV; go_wp2_with fail; refine bodyPost_ret (v := .agg #[.int .i64 1, .string wValidated, .int .i64 0, .bool false]) (by simp [results, Tryz.results8, go_sem, j0, j1, j2, j3, wValidated]) rfl ⟨rfl, ((((K.out.b).setCell (by first | omega | (dsimp only; omega)) _).setCell (by first | omega | (dsimp only; omega)) _).setCell (by first | omega | (dsimp only; omega)) _).setCell (by first | omega | (dsimp only; omega)) _⟩))))); (focus (obtain rfl : q = false := hq.symm.trans (beq_eq_false_iff_ne.2 h2); cases k; (focus ((go_wp2_with fail; (all_goals try contradiction); refine Calls.mono (HP.out _) ?_; rintro e w' ⟨rfl, hb⟩; (replace K := Lib.hid (K.out.on hb); clear hb x0 x1 x2 x3 x4 x5 xz j0 j1 j2 j3 jf jz r0 r1 rz a0 a1 a2 a3 az; obtain ⟨x0, x1, x2, x3, x4, x5, -, xz⟩ := said_cells K.out.h0; obtain ⟨j0, j1, j2, j3, jf, jz⟩ := jud_cells K.out.tl.h0; obtain ⟨r0, r1, -, rz⟩ := rep_cells K.out.tl.tl.h0; obtain ⟨a0, a1, a2, a3, -, az⟩ := ask_cells K.out.tl.tl.tl.h0)); (go_wp2_with fail; refine Calls.mono (judged_any _ _ _) ?_; rintro e w' ⟨rfl, hb⟩; replace K := Lib.hid (K.out.on hb); clear hb x0 x1 x2 x3 x4 x5 xz j0 j1 j2 j3 jf jz r0 r1 rz a0 a1 a2 a3 az; obtain ⟨j0, j1, j2, j3, jf, jz⟩ := jud_cells K.out.tl.h0; unfold judV; go_wp2_with fail; refine bodyPost_ret (v := .agg #[.int .i64 0, .string wNone, .int .i64 0, .bool false]) (by simp [results, Tryz.results8, go_sem, j0, j1, j2, j3, wNone]) rfl ⟨rfl, ((((K.out.b).setCell (by first | omega | (dsimp only; omega)) _).setCell (by first | omega | (dsimp only; omega)) _).setCell (by first | omega | (dsimp only; omega)) _).setCell (by first | omega | (dsimp only; omega)) _⟩))); (focus ((go_wp2_with fail; (all_goals try contradiction); refine Calls.mono (HP.out _) ?_; rintro e w' ⟨rfl, hb⟩; (replace K := Lib.hid (K.out.on hb); clear hb x0 x1 x2 x3 x4 x5 xz j0 j1 j2 j3 jf jz r0 r1 rz a0 a1 a2 a3 az; obtain ⟨x0, x1, x2, x3, x4, x5, -, xz⟩ := said_cells K.out.h0; obtain ⟨j0, j1, j2, j3, jf, jz⟩ := jud_cells K.out.tl.h0; obtain ⟨r0, r1, -, rz⟩ := rep_cells K.out.tl.tl.h0; obtain ⟨a0, a1, a2, a3, -, az⟩ := ask_cells K.out.tl.tl.tl.h0)); (go_wp2_with fail; refine Calls.mono (judged_any _ _ _) ?_; rintro e w' ⟨rfl, hb⟩; replace K := Lib.hid (K.out.on hb); clear hb x0 x1 x2 x3 x4 x5 xz j0 j1 j2 j3 jf jz r0 r1 rz a0 a1 a2 a3 az; obtain ⟨j0, j1, j2, j3, jf, jz⟩ := jud_cells K.out.tl.h0; unfold judV; go_wp2_with fail; refine bodyPost_ret (v := .agg #[.int .i64 0, .string wNone, .int .i64 0, .bool false]) (by simp [results, Tryz.results8, go_sem, j0, j1, j2, j3, wNone]) rfl ⟨rfl, ((((K.out.b).setCell (by first | omega | (dsimp only; omega)) _).setCell (by first | omega | (dsimp only; omega)) _).setCell (by first | omega | (dsimp only; omega)) _).setCell (by first | omega | (dsimp only; omega)) _⟩))))))
              · (go_wp2_with fail; refine Calls.mono (judged_any _ _ _) ?_; rintro e w' ⟨rfl, hb⟩; replace K := Lib.hid (K.out.on hb); clear hb x0 x1 x2 x3 x4 x5 xz j0 j1 j2 j3 jf jz r0 r1 rz a0 a1 a2 a3 az; obtain ⟨j0, j1, j2, j3, jf, jz⟩ := jud_cells K.out.tl.h0; unfold judV; go_wp2_with fail; refine bodyPost_ret (v := .agg #[.int .i64 2, .string wNosniff, .int .i64 0, .bool false]) (by simp [results, Tryz.results8, go_sem, j0, j1, j2, j3, wNosniff]) rfl ⟨rfl, ((((K.out.b).setCell (by first | omega | (dsimp only; omega)) _).setCell (by first | omega | (dsimp only; omega)) _).setCell (by first | omega | (dsimp only; omega)) _).setCell (by first | omega | (dsimp only; omega)) _⟩)
            · (go_wp2_with fail; refine Calls.mono (judged_any _ _ _) ?_; rintro e w' ⟨rfl, hb⟩; replace K := Lib.hid (K.out.on hb); clear hb x0 x1 x2 x3 x4 x5 xz j0 j1 j2 j3 jf jz r0 r1 rz a0 a1 a2 a3 az; obtain ⟨j0, j1, j2, j3, jf, jz⟩ := jud_cells K.out.tl.h0; unfold judV; go_wp2_with fail; refine bodyPost_ret (v := .agg #[.int .i64 2, .string wNosniff, .int .i64 0, .bool false]) (by simp [results, Tryz.results8, go_sem, j0, j1, j2, j3, wNosniff]) rfl ⟨rfl, ((((K.out.b).setCell (by first | omega | (dsimp only; omega)) _).setCell (by first | omega | (dsimp only; omega)) _).setCell (by first | omega | (dsimp only; omega)) _).setCell (by first | omega | (dsimp only; omega)) _⟩)
        · (go_wp2_with fail; (all_goals try contradiction); refine Calls.mono (HI3.out A1 c1 _ K.out.b) ?_; rintro e w' ⟨rfl, hb⟩; (replace K := Lib.hid (K.out.on hb); clear hb x0 x1 x2 x3 x4 x5 xz j0 j1 j2 j3 jf jz r0 r1 rz a0 a1 a2 a3 az; obtain ⟨x0, x1, x2, x3, x4, x5, -, xz⟩ := said_cells K.out.h0; obtain ⟨j0, j1, j2, j3, jf, jz⟩ := jud_cells K.out.tl.h0; obtain ⟨r0, r1, -, rz⟩ := rep_cells K.out.tl.tl.h0; obtain ⟨a0, a1, a2, a3, -, az⟩ := ask_cells K.out.tl.tl.tl.h0))
          cases lb
          · cases ns
            · (by_cases h2 : md = 2; (focus (obtain rfl : q = true := hq.symm.trans (by rw [h2]; rfl); subst h2; clear hq; cases k; (focus ((go_wp2_with fail; (all_goals try contradiction); refine Calls.mono (HP.out _) ?_; rintro e w' ⟨rfl, hb⟩; (replace K := Lib.hid (K.out.on hb); clear hb x0 x1 x2 x3 x4 x5 xz j0 j1 j2 j3 jf jz r0 r1 rz a0 a1 a2 a3 az; obtain ⟨x0, x1, x2, x3, x4, x5, -, xz⟩ := said_cells K.out.h0; obtain ⟨j0, j1, j2, j3, jf, jz⟩ := jud_cells K.out.tl.h0; obtain ⟨r0, r1, -, rz⟩ := rep_cells K.out.tl.tl.h0; obtain ⟨a0, a1, a2, a3, -, az⟩ := ask_cells K.out.tl.tl.tl.h0)); (go_wp2_with fail; (all_goals try contradiction); refine Calls.mono (HF.out _ K.out.b) ?_; rintro e w' ⟨rfl, hb⟩; (replace K := Lib.hid (K.out.on hb); clear hb x0 x1 x2 x3 x4 x5 xz j0 j1 j2 j3 jf jz r0 r1 rz a0 a1 a2 a3 az; obtain ⟨x0, x1, x2, x3, x4, x5, -, xz⟩ := said_cells K.out.h0; obtain ⟨j0, j1, j2, j3, jf, jz⟩ := jud_cells K.out.tl.h0; obtain ⟨r0, r1, -, rz⟩ := rep_cells K.out.tl.tl.h0; obtain ⟨a0, a1, a2, a3, -, az⟩ := ask_cells K.out.tl.tl.tl.h0)); cases fb; (focus ((go_wp2_with fail; refine Calls.mono (judged_any _ _ _) ?_; rintro e w' ⟨rfl, hb⟩; replace K := Lib.hid (K.out.on hb); clear hb x0 x1 x2 x3 x4 x5 xz j0 j1 j2 j3 jf jz r0 r1 rz a0 a1 a2 a3 az; obtain ⟨j0, j1, j2, j3, jf, jz⟩ := jud_cells K.out.tl.h0; unfold judV; go_wp2_with fail; refine bodyPost_ret (v := .agg #[.int .i64 2, .string wRange, .int .i64 0, .bool false]) (by simp [results, Tryz.results8, go_sem, j0, j1, j2, j3, wRange]) rfl ⟨rfl, ((((K.out.b).setCell (by first | omega | (dsimp only; omega)) _).setCell (by first | omega | (dsimp only; omega)) _).setCell (by first | omega | (dsimp only; omega)) _).setCell (by first | omega | (dsimp only; omega)) _⟩))); (focus ((go_wp2_with fail; refine Calls.mono (judged_any _ _ _) ?_; rintro e w' ⟨rfl, hb⟩; replace K := Lib.hid (K.out.on hb); clear hb x0 x1 x2 x3 x4 x5 xz j0 j1 j2 j3 jf jz r0 r1 rz a0 a1 a2 a3 az; obtain ⟨j0, j1, j2, j3, jf, jz⟩ := jud_cells K.out.tl.h0; unfold judV; go_wp2_with fail; refine bodyPost_ret (v := .agg #[.int .i64 0, .string wNone, .int .i64 0, .bool false]) (by simp [results, Tryz.results8, go_sem, j0, j1, j2, j3, wNone]) rfl ⟨rfl, ((((K.out.b).setCell (by first | omega | (dsimp only; omega)) _).setCell (by first | omega | (dsimp only; omega)) _).setCell (by first | omega | (dsimp only; omega)) _).setCell (by first | omega | (dsimp only; omega)) _⟩))))); (focus ((go_wp2_with fail; refine Calls.mono (judged_any _ _ _) ?_; rintro e w' ⟨rfl, hb⟩; replace K := Lib.hid (K.out.on hb); clear hb x0 x1 x2 x3 x4 x5 xz j0 j1 j2 j3 jf jz r0 r1 rz a0 a1 a2 a3 az; obtain ⟨j0, j1, j2, j3, jf, jz⟩ := jud_cells K.out.tl.h0; unfold judV; go_wp2_with fail; refine bodyPost_ret (v := .agg #[.int .i64 1, .string wValidated, .int .i64 0, .bool false]) (by simp [results, Tryz.results8, go_sem, j0, j1, j2, j3, wValidated]) rfl ⟨rfl, ((((K.out.b).setCell (by first | omega | (dsimp only; omega)) _).setCell (by first | omega | (dsimp only; omega)) _).setCell (by first | omega | (dsimp only; omega)) _).setCell (by first | omega | (dsimp only; omega)) _⟩))))); (focus (obtain rfl : q = false := hq.symm.trans (beq_eq_false_iff_ne.2 h2); cases k; (focus ((go_wp2_with fail; (all_goals try contradiction); refine Calls.mono (HP.out _) ?_; rintro e w' ⟨rfl, hb⟩; (replace K := Lib.hid (K.out.on hb); clear hb x0 x1 x2 x3 x4 x5 xz j0 j1 j2 j3 jf jz r0 r1 rz a0 a1 a2 a3 az; obtain ⟨x0, x1, x2, x3, x4, x5, -, xz⟩ := said_cells K.out.h0; obtain ⟨j0, j1, j2, j3, jf, jz⟩ := jud_cells K.out.tl.h0; obtain ⟨r0, r1, -, rz⟩ := rep_cells K.out.tl.tl.h0; obtain ⟨a0, a1, a2, a3, -, az⟩ := ask_cells K.out.tl.tl.tl.h0)); (go_wp2_with fail; (all_goals try contradiction); refine Calls.mono (HF.out _ K.out.b) ?_; rintro e w' ⟨rfl, hb⟩; (replace K := Lib.hid (K.out.on hb); clear hb x0 x1 x2 x3 x4 x5 xz j0 j1 j2 j3 jf jz r0 r1 rz a0 a1 a2 a3 az; obtain ⟨x0, x1, x2, x3, x4, x5, -, xz⟩ := said_cells K.out.h0; obtain ⟨j0, j1, j2, j3, jf, jz⟩ := jud_cells K.out.tl.h0; obtain ⟨r0, r1, -, rz⟩ := rep_cells K.out.tl.tl.h0; obtain ⟨a0, a1, a2, a3, -, az⟩ := ask_cells K.out.tl.tl.tl.h0)); cases fb; (focus ((go_wp2_with fail; refine Calls.mono (judged_any _ _ _) ?_; rintro e w' ⟨rfl, hb⟩; replace K := Lib.hid (K.out.on hb); clear hb x0 x1 x2 x3 x4 x5 xz j0 j1 j2 j3 jf jz r0 r1 rz a0 a1 a2 a3 az; obtain ⟨j0, j1, j2, j3, jf, jz⟩ := jud_cells K.out.tl.h0; unfold judV; go_wp2_with fail; refine bodyPost_ret (v := .agg #[.int .i64 2, .string wRange, .int .i64 0, .bool false]) (by simp [results, Tryz.results8, go_sem, j0, j1, j2, j3, wRange]) rfl ⟨rfl, ((((K.out.b).setCell (by first | omega | (dsimp only; omega)) _).setCell (by first | omega | (dsimp only; omega)) _).setCell (by first | omega | (dsimp only; omega)) _).setCell (by first | omega | (dsimp only; omega)) _⟩))); (focus ((go_wp2_with fail; refine Calls.mono (judged_any _ _ _) ?_; rintro e w' ⟨rfl, hb⟩; replace K := Lib.hid (K.out.on hb); clear hb x0 x1 x2 x3 x4 x5 xz j0 j1 j2 j3 jf jz r0 r1 rz a0 a1 a2 a3 az; obtain ⟨j0, j1, j2, j3, jf, jz⟩ := jud_cells K.out.tl.h0; unfold judV; go_wp2_with fail; refine bodyPost_ret (v := .agg #[.int .i64 0, .string wNone, .int .i64 0, .bool false]) (by simp [results, Tryz.results8, go_sem, j0, j1, j2, j3, wNone]) rfl ⟨rfl, ((((K.out.b).setCell (by first | omega | (dsimp only; omega)) _).setCell (by first | omega | (dsimp only; omega)) _).setCell (by first | omega | (dsimp only; omega)) _).setCell (by first | omega | (dsimp only; omega)) _⟩))))); (focus ((go_wp2_with fail; (all_goals try contradiction); refine Calls.mono (HP.out _) ?_; rintro e w' ⟨rfl, hb⟩; (replace K := Lib.hid (K.out.on hb); clear hb x0 x1 x2 x3 x4 x5 xz j0 j1 j2 j3 jf jz r0 r1 rz a0 a1 a2 a3 az; obtain ⟨x0, x1, x2, x3, x4, x5, -, xz⟩ := said_cells K.out.h0; obtain ⟨j0, j1, j2, j3, jf, jz⟩ := jud_cells K.out.tl.h0; obtain ⟨r0, r1, -, rz⟩ := rep_cells K.out.tl.tl.h0; obtain ⟨a0, a1, a2, a3, -, az⟩ := ask_cells K.out.tl.tl.tl.h0)); (go_wp2_with fail; (all_goals try contradiction); refine Calls.mono (HF.out _ K.out.b) ?_; rintro e w' ⟨rfl, hb⟩; (replace K := Lib.hid (K.out.on hb); clear hb x0 x1 x2 x3 x4 x5 xz j0 j1 j2 j3 jf jz r0 r1 rz a0 a1 a2 a3 az; obtain ⟨x0, x1, x2, x3, x4, x5, -, xz⟩ := said_cells K.out.h0; obtain ⟨j0, j1, j2, j3, jf, jz⟩ := jud_cells K.out.tl.h0; obtain ⟨r0, r1, -, rz⟩ := rep_cells K.out.tl.tl.h0; obtain ⟨a0, a1, a2, a3, -, az⟩ := ask_cells K.out.tl.tl.tl.h0)); cases fb; (focus ((go_wp2_with fail; refine Calls.mono (judged_any _ _ _) ?_; rintro e w' ⟨rfl, hb⟩; replace K := Lib.hid (K.out.on hb); clear hb x0 x1 x2 x3 x4 x5 xz j0 j1 j2 j3 jf jz r0 r1 rz a0 a1 a2 a3 az; obtain ⟨j0, j1, j2, j3, jf, jz⟩ := jud_cells K.out.tl.h0; unfold judV; go_wp2_with fail; refine bodyPost_ret (v := .agg #[.int .i64 2, .string wRange, .int .i64 0, .bool false]) (by simp [results, Tryz.results8, go_sem, j0, j1, j2, j3, wRange]) rfl ⟨rfl, ((((K.out.b).setCell (by first | omega | (dsimp only; omega)) _).setCell (by first | omega | (dsimp only; omega)) _).setCell (by first | omega | (dsimp only; omega)) _).setCell (by first | omega | (dsimp only; omega)) _⟩))); (focus ((go_wp2_with fail; refine Calls.mono (judged_any _ _ _) ?_; rintro e w' ⟨rfl, hb⟩; replace K := Lib.hid (K.out.on hb); clear hb x0 x1 x2 x3 x4 x5 xz j0 j1 j2 j3 jf jz r0 r1 rz a0 a1 a2 a3 az; obtain ⟨j0, j1, j2, j3, jf, jz⟩ := jud_cells K.out.tl.h0; unfold judV; go_wp2_with fail; refine bodyPost_ret (v := .agg #[.int .i64 0, .string wNone, .int .i64 0, .bool false]) (by simp [results, Tryz.results8, go_sem, j0, j1, j2, j3, wNone]) rfl ⟨rfl, ((((K.out.b).setCell (by first | omega | (dsimp only; omega)) _).setCell (by first | omega | (dsimp only; omega)) _).setCell (by first | omega | (dsimp only; omega)) _).setCell (by first | omega | (dsimp only; omega)) _⟩))))))))
            · (go_wp2_with fail; (all_goals try contradiction); refine Calls.mono (HI3.out A1 c1 _ K.out.b) ?_; rintro e w' ⟨rfl, hb⟩; (replace K := Lib.hid (K.out.on hb); clear hb x0 x1 x2 x3 x4 x5 xz j0 j1 j2 j3 jf jz r0 r1 rz a0 a1 a2 a3 az; obtain ⟨x0, x1, x2, x3, x4, x5, -, xz⟩ := said_cells K.out.h0; obtain ⟨j0, j1, j2, j3, jf, jz⟩ := jud_cells K.out.tl.h0; obtain ⟨r0, r1, -, rz⟩ := rep_cells K.out.tl.tl.h0; obtain ⟨a0, a1, a2, a3, -, az⟩ := ask_cells K.out.tl.tl.tl.h0))
              (go_wp2_with fail; (all_goals try contradiction); refine Calls.mono (HQ.out A1 c1 _) ?_; rintro e w' ⟨rfl, hb⟩; (replace K := Lib.hid (K.out.on hb); clear hb x0 x1 x2 x3 x4 x5 xz j0 j1 j2 j3 jf jz r0 r1 rz a0 a1 a2 a3 az; obtain ⟨x0, x1, x2, x3, x4, x5, -, xz⟩ := said_cells K.out.h0; obtain ⟨j0, j1, j2, j3, jf, jz⟩ := jud_cells K.out.tl.h0; obtain ⟨r0, r1, -, rz⟩ := rep_cells K.out.tl.tl.h0; obtain ⟨a0, a1, a2, a3, -, az⟩ := ask_cells K.out.tl.tl.tl.h0))
              cases pb
              · (by_cases h2 : md = 2; (focus (obtain rfl : q = true := hq.symm.trans (by rw [h2]; rfl); subst h2; clear hq; cases k; (focus ((go_wp2_with fail; (all_goals try contradiction); refine Calls.mono (HP.out _) ?_; rintro e w' ⟨rfl, hb⟩; (replace K := Lib.hid (K.out.on hb); clear hb x0 x1 x2 x3 x4 x5 xz j0 j1 j2 j3 jf jz r0 r1 rz a0 a1 a2 a3 az; obtain ⟨x0, x1, x2, x3, x4, x5, -, xz⟩ := said_cells K.out.h0; obtain ⟨j0, j1, j2, j3, jf, jz⟩ := jud_cells K.out.tl.h0; obtain ⟨r0, r1, -, rz⟩ := rep_cells K.out.tl.tl.h0; obtain ⟨a0, a1, a2, a3, -, az⟩ := ask_cells K.out.tl.tl.tl.h0)); (go_wp2_with fail; (all_goals try contradiction); refine Calls.mono (HF.out _ K.out.b) ?_; rintro e w' ⟨rfl, hb⟩; (replace K := Lib.hid (K.out.on hb); clear hb x0 x1 x2 x3 x4 x5 xz j0 j1 j2 j3 jf jz r0 r1 rz a0 a1 a2 a3 az; obtain ⟨x0, x1, x2, x3, x4, x5, -, xz⟩ := said_cells K.out.h0; obtain ⟨j0, j1, j2, j3, jf, jz⟩ := jud_cells K.out.tl.h0; obtain ⟨r0, r1, -, rz⟩ := rep_cells K.out.tl.tl.h0; obtain ⟨a0, a1, a2, a3, -, az⟩ := ask_cells K.out.tl.tl.tl.h0)); cases fb; (focus ((go_wp2_with fail; refine Calls.mono (judged_any _ _ _) ?_; rintro e w' ⟨rfl, hb⟩; replace K := Lib.hid (K.out.on hb); clear hb x0 x1 x2 x3 x4 x5 xz j0 j1 j2 j3 jf jz r0 r1 rz a0 a1 a2 a3 az; obtain ⟨j0, j1, j2, j3, jf, jz⟩ := jud_cells K.out.tl.h0; unfold judV; go_wp2_with fail; refine bodyPost_ret (v := .agg #[.int .i64 2, .string wRange, .int .i64 0, .bool false]) (by simp [results, Tryz.results8, go_sem, j0, j1, j2, j3, wRange]) rfl ⟨rfl, ((((K.out.b).setCell (by first | omega | (dsimp only; omega)) _).setCell (by first | omega | (dsimp only; omega)) _).setCell (by first | omega | (dsimp only; omega)) _).setCell (by first | omega | (dsimp only; omega)) _⟩))); (focus ((go_wp2_with fail; refine Calls.mono (judged_any _ _ _) ?_; rintro e w' ⟨rfl, hb⟩; replace K := Lib.hid (K.out.on hb); clear hb x0 x1 x2 x3 x4 x5 xz j0 j1 j2 j3 jf jz r0 r1 rz a0 a1 a2 a3 az; obtain ⟨j0, j1, j2, j3, jf, jz⟩ := jud_cells K.out.tl.h0; unfold judV; go_wp2_with fail; refine bodyPost_ret (v := .agg #[.int .i64 0, .string wNone, .int .i64 0, .bool false]) (by simp [results, Tryz.results8, go_sem, j0, j1, j2, j3, wNone]) rfl ⟨rfl, ((((K.out.b).setCell (by first | omega | (dsimp only; omega)) _).setCell (by first | omega | (dsimp only; omega)) _).setCell (by first | omega | (dsimp only; omega)) _).setCell (by first | omega | (dsimp only; omega)) _⟩))))); (focus ((go_wp2_with fail; refine Calls.mono (judged_any _ _ _) ?_; rintro e w' ⟨rfl, hb⟩; replace K := Lib.hid (K.out.on hb); clear hb x0 x1 x2 x3 x4 x5 xz j0 j1 j2 j3 jf jz r0 r1 rz a0 a1 a2 a3 az; obtain ⟨j0, j1, j2, j3, jf, jz⟩ := jud_cells K.out.tl.h0; unfold judV; go_wp2_with fail; refine bodyPost_ret (v := .agg #[.int .i64 1, .string wValidated, .int .i64 0, .bool false]) (by simp [results, Tryz.results8, go_sem, j0, j1, j2, j3, wValidated]) rfl ⟨rfl, ((((K.out.b).setCell (by first | omega | (dsimp only; omega)) _).setCell (by first | omega | (dsimp only; omega)) _).setCell (by first | omega | (dsimp only; omega)) _).setCell (by first | omega | (dsimp only; omega)) _⟩))))); (focus (obtain rfl : q = false := hq.symm.trans (beq_eq_false_iff_ne.2 h2); cases k; (focus ((go_wp2_with fail; (all_goals try contradiction); refine Calls.mono (HP.out _) ?_; rintro e w' ⟨rfl, hb⟩; (replace K := Lib.hid (K.out.on hb); clear hb x0 x1 x2 x3 x4 x5 xz j0 j1 j2 j3 jf jz r0 r1 rz a0 a1 a2 a3 az; obtain ⟨x0, x1, x2, x3, x4, x5, -, xz⟩ := said_cells K.out.h0; obtain ⟨j0, j1, j2, j3, jf, jz⟩ := jud_cells K.out.tl.h0; obtain ⟨r0, r1, -, rz⟩ := rep_cells K.out.tl.tl.h0; obtain ⟨a0, a1, a2, a3, -, az⟩ := ask_cells K.out.tl.tl.tl.h0)); (go_wp2_with fail; (all_goals try contradiction); refine Calls.mono (HF.out _ K.out.b) ?_; rintro e w' ⟨rfl, hb⟩; (replace K := Lib.hid (K.out.on hb); clear hb x0 x1 x2 x3 x4 x5 xz j0 j1 j2 j3 jf jz r0 r1 rz a0 a1 a2 a3 az; obtain ⟨x0, x1, x2, x3, x4, x5, -, xz⟩ := said_cells K.out.h0; obtain ⟨j0, j1, j2, j3, jf, jz⟩ := jud_cells K.out.tl.h0; obtain ⟨r0, r1, -, rz⟩ := rep_cells K.out.tl.tl.h0; obtain ⟨a0, a1, a2, a3, -, az⟩ := ask_cells K.out.tl.tl.tl.h0)); cases fb; (focus ((go_wp2_with fail; refine Calls.mono (judged_any _ _ _) ?_; rintro e w' ⟨rfl, hb⟩; replace K := Lib.hid (K.out.on hb); clear hb x0 x1 x2 x3 x4 x5 xz j0 j1 j2 j3 jf jz r0 r1 rz a0 a1 a2 a3 az; obtain ⟨j0, j1, j2, j3, jf, jz⟩ := jud_cells K.out.tl.h0; unfold judV; go_wp2_with fail; refine bodyPost_ret (v := .agg #[.int .i64 2, .string wRange, .int .i64 0, .bool false]) (by simp [results, Tryz.results8, go_sem, j0, j1, j2, j3, wRange]) rfl ⟨rfl, ((((K.out.b).setCell (by first | omega | (dsimp only; omega)) _).setCell (by first | omega | (dsimp only; omega)) _).setCell (by first | omega | (dsimp only; omega)) _).setCell (by first | omega | (dsimp only; omega)) _⟩))); (focus ((go_wp2_with fail; refine Calls.mono (judged_any _ _ _) ?_; rintro e w' ⟨rfl, hb⟩; replace K := Lib.hid (K.out.on hb); clear hb x0 x1 x2 x3 x4 x5 xz j0 j1 j2 j3 jf jz r0 r1 rz a0 a1 a2 a3 az; obtain ⟨j0, j1, j2, j3, jf, jz⟩ := jud_cells K.out.tl.h0; unfold judV; go_wp2_with fail; refine bodyPost_ret (v := .agg #[.int .i64 0, .string wNone, .int .i64 0, .bool false]) (by simp [results, Tryz.results8, go_sem, j0, j1, j2, j3, wNone]) rfl ⟨rfl, ((((K.out.b).setCell (by first | omega | (dsimp only; omega)) _).setCell (by first | omega | (dsimp only; omega)) _).setCell (by first | omega | (dsimp only; omega)) _).setCell (by first | omega | (dsimp only; omega)) _⟩))))); (focus ((go_wp2_with fail; (all_goals try contradiction); refine Calls.mono (HP.out _) ?_; rintro e w' ⟨rfl, hb⟩; (replace K := Lib.hid (K.out.on hb); clear hb x0 x1 x2 x3 x4 x5 xz j0 j1 j2 j3 jf jz r0 r1 rz a0 a1 a2 a3 az; obtain ⟨x0, x1, x2, x3, x4, x5, -, xz⟩ := said_cells K.out.h0; obtain ⟨j0, j1, j2, j3, jf, jz⟩ := jud_cells K.out.tl.h0; obtain ⟨r0, r1, -, rz⟩ := rep_cells K.out.tl.tl.h0; obtain ⟨a0, a1, a2, a3, -, az⟩ := ask_cells K.out.tl.tl.tl.h0)); (go_wp2_with fail; (all_goals try contradiction); refine Calls.mono (HF.out _ K.out.b) ?_; rintro e w' ⟨rfl, hb⟩; (replace K := Lib.hid (K.out.on hb); clear hb x0 x1 x2 x3 x4 x5 xz j0 j1 j2 j3 jf jz r0 r1 rz a0 a1 a2 a3 az; obtain ⟨x0, x1, x2, x3, x4, x5, -, xz⟩ := said_cells K.out.h0; obtain ⟨j0, j1, j2, j3, jf, jz⟩ := jud_cells K.out.tl.h0; obtain ⟨r0, r1, -, rz⟩ := rep_cells K.out.tl.tl.h0; obtain ⟨a0, a1, a2, a3, -, az⟩ := ask_cells K.out.tl.tl.tl.h0)); cases fb; (focus ((go_wp2_with fail; refine Calls.mono (judged_any _ _ _) ?_; rintro e w' ⟨rfl, hb⟩; replace K := Lib.hid (K.out.on hb); clear hb x0 x1 x2 x3 x4 x5 xz j0 j1 j2 j3 jf jz r0 r1 rz a0 a1 a2 a3 az; obtain ⟨j0, j1, j2, j3, jf, jz⟩ := jud_cells K.out.tl.h0; unfold judV; go_wp2_with fail; refine bodyPost_ret (v := .agg #[.int .i64 2, .string wRange, .int .i64 0, .bool false]) (by simp [results, Tryz.results8, go_sem, j0, j1, j2, j3, wRange]) rfl ⟨rfl, ((((K.out.b).setCell (by first | omega | (dsimp only; omega)) _).setCell (by first | omega | (dsimp only; omega)) _).setCell (by first | omega | (dsimp only; omega)) _).setCell (by first | omega | (dsimp only; omega)) _⟩))); (focus ((go_wp2_with fail; refine Calls.mono (judged_any _ _ _) ?_; rintro e w' ⟨rfl, hb⟩; replace K := Lib.hid (K.out.on hb); clear hb x0 x1 x2 x3 x4 x5 xz j0 j1 j2 j3 jf jz r0 r1 rz a0 a1 a2 a3 az; obtain ⟨j0, j1, j2, j3, jf, jz⟩ := jud_cells K.out.tl.h0; unfold judV; go_wp2_with fail; refine bodyPost_ret (v := .agg #[.int .i64 0, .string wNone, .int .i64 0, .bool false]) (by simp [results, Tryz.results8, go_sem, j0, j1, j2, j3, wNone]) rfl ⟨rfl, ((((K.out.b).setCell (by first | omega | (dsimp only; omega)) _).setCell (by first | omega | (dsimp only; omega)) _).setCell (by first | omega | (dsimp only; omega)) _).setCell (by first | omega | (dsimp only; omega)) _⟩))))))))
              · (go_wp2_with fail; refine Calls.mono (judged_any _ _ _) ?_; rintro e w' ⟨rfl, hb⟩; replace K := Lib.hid (K.out.on hb); clear hb x0 x1 x2 x3 x4 x5 xz j0 j1 j2 j3 jf jz r0 r1 rz a0 a1 a2 a3 az; obtain ⟨j0, j1, j2, j3, jf, jz⟩ := jud_cells K.out.tl.h0; unfold judV; go_wp2_with fail; refine bodyPost_ret (v := .agg #[.int .i64 2, .string wNosniff, .int .i64 0, .bool false]) (by simp [results, Tryz.results8, go_sem, j0, j1, j2, j3, wNosniff]) rfl ⟨rfl, ((((K.out.b).setCell (by first | omega | (dsimp only; omega)) _).setCell (by first | omega | (dsimp only; omega)) _).setCell (by first | omega | (dsimp only; omega)) _).setCell (by first | omega | (dsimp only; omega)) _⟩)
          · (go_wp2_with fail; refine Calls.mono (judged_any _ _ _) ?_; rintro e w' ⟨rfl, hb⟩; replace K := Lib.hid (K.out.on hb); clear hb x0 x1 x2 x3 x4 x5 xz j0 j1 j2 j3 jf jz r0 r1 rz a0 a1 a2 a3 az; obtain ⟨j0, j1, j2, j3, jf, jz⟩ := jud_cells K.out.tl.h0; unfold judV; go_wp2_with fail; refine bodyPost_ret (v := .agg #[.int .i64 2, .string wPartial, .int .i64 0, .bool false]) (by simp [results, Tryz.results8, go_sem, j0, j1, j2, j3, wPartial]) rfl ⟨rfl, ((((K.out.b).setCell (by first | omega | (dsimp only; omega)) _).setCell (by first | omega | (dsimp only; omega)) _).setCell (by first | omega | (dsimp only; omega)) _).setCell (by first | omega | (dsimp only; omega)) _⟩)
      · (go_wp2_with fail; refine Calls.mono (judged_any _ _ _) ?_; rintro e w' ⟨rfl, hb⟩; replace K := Lib.hid (K.out.on hb); clear hb x0 x1 x2 x3 x4 x5 xz j0 j1 j2 j3 jf jz r0 r1 rz a0 a1 a2 a3 az; obtain ⟨j0, j1, j2, j3, jf, jz⟩ := jud_cells K.out.tl.h0; unfold judV; go_wp2_with fail; refine bodyPost_ret (v := .agg #[.int .i64 2, .string wNever, .int .i64 0, .bool false]) (by simp [results, Tryz.results8, go_sem, j0, j1, j2, j3, wNever]) rfl ⟨rfl, ((((K.out.b).setCell (by first | omega | (dsimp only; omega)) _).setCell (by first | omega | (dsimp only; omega)) _).setCell (by first | omega | (dsimp only; omega)) _).setCell (by first | omega | (dsimp only; omega)) _⟩)
    · (go_wp2_with fail; refine Calls.mono (judged_any _ _ _) ?_; rintro e w' ⟨rfl, hb⟩; replace K := Lib.hid (K.out.on hb); clear hb x0 x1 x2 x3 x4 x5 xz j0 j1 j2 j3 jf jz r0 r1 rz a0 a1 a2 a3 az; obtain ⟨j0, j1, j2, j3, jf, jz⟩ := jud_cells K.out.tl.h0; unfold judV; go_wp2_with fail; refine bodyPost_ret (v := .agg #[.int .i64 1, .string wSafe, .int .i64 0, .bool false]) (by simp [results, Tryz.results8, go_sem, j0, j1, j2, j3, wSafe]) rfl ⟨rfl, ((((K.out.b).setCell (by first | omega | (dsimp only; omega)) _).setCell (by first | omega | (dsimp only; omega)) _).setCell (by first | omega | (dsimp only; omega)) _).setCell (by first | omega | (dsimp only; omega)) _⟩)

end Go.Proofs.YtcbhkcdphbffpaaGreatDoor

namespace Go.Proofs.YtcbhkcdphbffpaaGreatDoor
open Go.RowKit
set_option linter.unusedSimpArgs false
set_option linter.unusedVariables false

set_option maxHeartbeats 1000000 in
theorem Guarded30_any (url : ByteArray) (cr nc : Bool) (md : Int) (w : World) :
    Calls Tryz.prog 13 #[askV url cr nc md] w fun e w' => e = .returned (.bool (cr && nc)) ∧ Below w.heap.size w w' := by
  have hb := below_box w (.cells #[.string url, .bool cr, .bool nc, .int .i64 md] 23)
  have HO := Lib.hid (guarded_any url cr nc md (w.alloc (.cells #[.string url, .bool cr, .bool nc, .int .i64 md] 23)))
  generalize (cr && nc) = g at *
  unfold askV at *
  go_enter Tryz.func13, Tryz.ntmps13
  go_wp2_with fail
  refine HO.out.mono ?_
  rintro e w1 ⟨rfl, hbn⟩
  have HB := Lib.hid (hb.trans (hbn.mono hb.size))
  clear hbn hb HO
  go_wp2_with fail
  go_ret
  exact ⟨rfl, HB.out⟩

/-- What is said to be plain text. -/
def plainL (l : Pars) : Bool := plainB (kindM l).1 (kindM l).2

set_option maxHeartbeats 1000000 in
theorem Plain30_any (st : Int) (l : Pars) (A : Option Addr) (c : Nat) (w : World) (hl : FewP l) (hA : ParsIn w w.heap.size A l) :
    Calls Tryz.prog 17 #[repV st A l.length c] w fun e w' => e = .returned (.bool (plainL l)) ∧ Below w.heap.size w w' := by
  have hsz := kindM_sizes hl
  have HS := Lib.hid (fun (w1 : World) (hb : Below w.heap.size w w1) => Said_any l A c w1 hl (hA.on hb))
  have HQ := Lib.hid (fun (A1 : Option Addr) (c1 : Nat) (w1 : World) => isPlain_any (kindM l).1 A1 c1 (kindM l).2 (noSniff l) (saidBug l) w1 hsz)
  unfold GivesSaid at HS
  unfold plainL
  generalize plainB (kindM l).1 (kindM l).2 = pb at *
  generalize noSniff l = ns at *
  generalize saidBug l = bu at *
  generalize kindM l = X at *
  obtain ⟨M, hs⟩ := X
  dsimp only at HS HQ
  generalize l.length = n at *
  have hb := below_box w (.cells #[.int .i64 st, .slice A n c] 26)
  have hP : (w.alloc (.cells #[.int .i64 st, .slice A n c] 26)).heap[w.heap.size]? = some (repO st A n c) := heap_alloc_new w _
  clear hsz hl hA
  unfold repV
  go_enter Tryz.func17, Tryz.ntmps17
  go_upto_region 1 with fail
  generalize w.alloc _ = W at *
  obtain ⟨p0, p1, pf, pz⟩ := rep_cells hP
  go_wp2_with fail
  refine (HS.out W hb).mono ?_
  rintro e w1 ⟨A1, c1, rfl, -, hbn⟩
  have HB := Lib.hid (hb.trans (hbn.mono hb.size))
  clear hbn hb hP p0 p1 pf pz HS
  unfold saidV at HQ ⊢
  go_wp2_with fail
  refine (HQ.out A1 c1 w1).mono ?_
  rintro e w2 ⟨rfl, hbn⟩
  have HBZ := Lib.hid (HB.out.trans (hbn.mono HB.out.size))
  clear hbn HB
  go_wp2_with fail
  go_ret
  exact ⟨rfl, HBZ.out⟩

set_option maxHeartbeats 1000000 in
theorem rPlain30_any (st : Int) (l : Pars) (A : Option Addr) (c : Nat) (w : World) (hl : FewP l) (hA : ParsIn w w.heap.size A l) :
    Calls Tryz.prog 18 #[repV st A l.length c] w fun e w' => e = .returned (.bool (plainL l)) ∧ Below w.heap.size w w' := by
  have hsz := kindM_sizes hl
  have HS := Lib.hid (fun (w1 : World) (hb : Below w.heap.size w w1) => rSaid_any l A c w1 hl (hA.on hb))
  have HE := Lib.hid (fun (A1 : Option Addr) (c1 : Nat) (w1 : World) => rEssence_any (bt (kindM l).1.t) (bt (kindM l).1.s) A1 (kindM l).1.ps.length c1 w1 (sizeT hsz) (sizeS hsz))
  rw [ess_eq] at HE
  unfold GivesSaid at HS
  unfold plainL plainB
  generalize noSniff l = ns at *
  generalize saidBug l = bu at *
  generalize kindM l = X at *
  obtain ⟨M, hs⟩ := X
  dsimp only at HS HE ⊢
  generalize bt (essL M) = S at *
  generalize hq : (S.toList == [116, 101, 120, 116, 47, 112, 108, 97, 105, 110]) = q
  generalize l.length = n at *
  have hb := below_box w (.cells #[.int .i64 st, .slice A n c] 26)
  have hP : (w.alloc (.cells #[.int .i64 st, .slice A n c] 26)).heap[w.heap.size]? = some (repO st A n c) := heap_alloc_new w _
  clear hsz hl hA
  unfold repV
  go_enter Tryz.func18, Tryz.ntmps18
  go_upto_region 1 with fail
  generalize w.alloc _ = W at *
  obtain ⟨p0, p1, pf, pz⟩ := rep_cells hP
  go_wp2_with fail
  refine (HS.out W hb).mono ?_
  rintro e w1 ⟨A1, c1, rfl, -, hbn⟩
  have hB1 := hb.trans (hbn.mono hb.size)
  clear hbn hb hP p0 p1 pf pz HS
  unfold saidV
  have HB := Lib.hid (hB1.alloc hB1.size (saidO M A1 c1 hs ns bu))
  have hX := heap_alloc_new w1 (saidO M A1 c1 hs ns bu)
  unfold saidO at HB
  unfold saidO at hX
  go_upto_region 2 with fail
  generalize w1.alloc _ = W1 at *
  generalize w1.heap.size = gx at *
  obtain ⟨x0, x1, x2, x3, x4, x5, -, xz⟩ := said_cells hX
  clear hX hB1
  cases hs
  · go_wp2_with fail
    go_ret
    exact ⟨rfl, HB.out⟩
  · go_wp2_with fail
    refine (HE.out A1 c1 W1).mono ?_
    rintro e w2 ⟨rfl, hbn⟩
    have HBZ := Lib.hid (HB.out.trans (hbn.mono HB.out.size))
    clear hbn HB x0 x1 x2 x3 x4 x5 xz
    go_wp2_with fail
    go_ret
    exact ⟨by simp, HBZ.out⟩

theorem fields_any (subs : ByteArray) (L : List ByteArray) (hL : (Lib.fields subs.data.toList).map (fun l => (⟨l.toArray⟩ : ByteArray)) = L) (w : World) (hT : Tab w) (hS : Asc subs) :
    Calls Tryz.prog 44 #[.string subs] w (GivesStrs L w) := by
  refine (Tryz.strings_Fields subs w (by have := hS.1; omega) hS.2 hT).mono ?_
  rintro e w' ⟨rfl, rfl⟩
  subst hL
  refine ⟨some ⟨w.heap.size, 0, none⟩, (Lib.fields subs.data.toList).length, ?_, .inr ⟨w.heap.size, 0, rfl, by simp, fun i hi => ?_⟩, below_box _ _⟩
  · simp
  · rw [cell_of_row _ _ _ _ _ (0, 0) (heap_alloc_new w _)]
    simp at hi
    simp [hi]

/-- All reasons. -/
def reasonsL : List ByteArray := [wOpen, wSafe, wNever, wPartial, wNosniff, wValidated, wRange]

theorem Reasons_any (w : World) (hT : Tab w) : Calls Tryz.prog 20 #[] w (GivesStrs reasonsL w) := by
  have HF := Lib.hid (fields_any ⟨#[111, 112, 101, 110, 32, 115, 97, 102, 101, 32, 110, 101, 118, 101, 114, 32, 112, 97, 114, 116, 105, 97, 108, 32, 110, 111, 115, 110, 105, 102, 102, 32, 118, 97, 108, 105, 100, 97, 116, 101, 100, 32, 114, 97, 110, 103, 101]⟩ reasonsL (by decide +kernel) w hT (asc_of _ (by decide +kernel)))
  unfold GivesStrs at HF ⊢
  generalize reasonsL = L at *
  clear hT
  go_enter Tryz.func20, Tryz.ntmps20
  go_wp2_with fail
  refine HF.out.mono ?_
  rintro e w1 ⟨A1, c1, rfl, hA, hb⟩
  have HA := Lib.hid hA
  have HB := Lib.hid hb
  clear hA hb
  go_wp2_with fail
  go_ret
  exact ⟨A1, c1, rfl, HA.out, HB.out⟩

set_option maxHeartbeats 1000000 in
theorem Ask30_any (url : ByteArray) (cr nc : Bool) (md : Int) (w : World) (hu : url.size ≤ maxLen) :
    Calls Tryz.prog 6 #[askV url cr nc md] w fun e w' => e = .returned (askV (cutB url 80) cr nc md) ∧ Below w.heap.size w w' := by
  have HC := Lib.hid (fun (w1 : World) => Cut_any url 80 w1 hu (by decide))
  generalize cutB url 80 = u2 at *
  clear hu
  have hP : ((w.alloc (.cells #[.string url, .bool cr, .bool nc, .int .i64 md] 23)).alloc (.cells #[.string ⟨#[]⟩, .bool false, .bool false, .int .i64 0] 23)).heap[w.heap.size]? = some (askO url cr nc md) := (Below.heap_alloc _ _ _ (by simp)).trans (heap_alloc_new w _)
  have hQ : ((w.alloc (.cells #[.string url, .bool cr, .bool nc, .int .i64 md] 23)).alloc (.cells #[.string ⟨#[]⟩, .bool false, .bool false, .int .i64 0] 23)).heap[w.heap.size + 1]? = some (askO ⟨#[]⟩ false false 0) := by
    rw [show w.heap.size + 1 = (w.alloc (.cells #[.string url, .bool cr, .bool nc, .int .i64 md] 23)).heap.size by simp]
    exact heap_alloc_new _ _
  have HB : Hid (Below w.heap.size w ((w.alloc (.cells #[.string url, .bool cr, .bool nc, .int .i64 md] 23)).alloc (.cells #[.string ⟨#[]⟩, .bool false, .bool false, .int .i64 0] 23))) := Lib.hid ((below_box _ _).alloc (by simp) _)
  unfold askV
  go_enter Tryz.func6, Tryz.ntmps6
  go_upto_region 1 with fail
  generalize (w.alloc (.cells #[.string url, .bool cr, .bool nc, .int .i64 md] 23)).alloc (.cells #[.string ⟨#[]⟩, .bool false, .bool false, .int .i64 0] 23) = W at *
  obtain ⟨p0, p1, p2, p3, pf, pz⟩ := ask_cells hP
  obtain ⟨q0, q1, q2, q3, qf, qz⟩ := ask_cells hQ
  clear hP hQ
  go_wp2_with fail
  refine (HC.out _).mono ?_
  rintro e w1 ⟨rfl, rfl⟩
  go_wp2_with fail
  refine bodyPost_ret (v := .agg #[.string u2, .bool cr, .bool nc, .int .i64 md]) (by simp [results, Tryz.results6, go_sem, p0, p1, p2, p3, q0, q1, q2, q3]) rfl ⟨rfl, ?_⟩
  exact ((((HB.out.setCell (by simp) _).setCell (by simp) _).setCell (by simp) _).setCell (by simp) _).setCell (by simp) _

end Go.Proofs.YtcbhkcdphbffpaaGreatDoor

namespace Go.Proofs.YtcbhkcdphbffpaaGreatDoor
open Go.RowKit
set_option linter.unusedSimpArgs false
set_option linter.unusedVariables false

def livO : Pars := [([67, 111, 110, 116, 101, 110, 116, 45, 84, 121, 112, 101], [116, 101, 120, 116, 47, 106, 97, 118, 97, 115, 99, 114, 105, 112, 116])]
def livT : MimeL := ⟨[116, 101, 120, 116], [106, 97, 118, 97, 115, 99, 114, 105, 112, 116], []⟩

theorem all_livO : allL [⟨#[116, 101, 120, 116, 47, 106, 97, 118, 97, 115, 99, 114, 105, 112, 116]⟩] = [livT] := by
  rw [allF_eq]
  kernel_rfl

theorem kind_livO : kindM livO = (livT, true) := by
  unfold kindM
  rw [show kindL livO = [⟨#[116, 101, 120, 116, 47, 106, 97, 118, 97, 115, 99, 114, 105, 112, 116]⟩] from by kernel_rfl]
  unfold extractL
  rw [all_livO, if_neg (by simp)]
  kernel_rfl

theorem safe_livO : safeB (bt livT.t) (bt livT.s) = true := by kernel_rfl

theorem of_livO : ofL true true 0 200 livO false = (1, wSafe) := by
  unfold ofL ofB
  rw [kind_livO]
  dsimp only
  rw [safe_livO]
  rfl

set_option maxHeartbeats 2000000 in
theorem lives30_any (w : World) (hT : Tab w) : Calls Tryz.prog 10 #[] w fun e w' => e = .returned (.bool true) ∧ Below w.heap.size w w' := by
  have hb0 := below_box w (.cells #[.string ByteArray.empty, .bool true, .bool true, .int .i64 0] 23)
  have hb1 := hb0.alloc (by simp) (.cells #[.string ⟨#[67, 111, 110, 116, 101, 110, 116, 45, 84, 121, 112, 101]⟩, .string ⟨#[116, 101, 120, 116, 47, 106, 97, 118, 97, 115, 99, 114, 105, 112, 116]⟩] 54)
  have hA : ParsIn ((w.alloc (.cells #[.string ByteArray.empty, .bool true, .bool true, .int .i64 0] 23)).alloc (.cells #[.string ⟨#[67, 111, 110, 116, 101, 110, 116, 45, 84, 121, 112, 101]⟩, .string ⟨#[116, 101, 120, 116, 47, 106, 97, 118, 97, 115, 99, 114, 105, 112, 116]⟩] 54)) ((w.alloc (.cells #[.string ByteArray.empty, .bool true, .bool true, .int .i64 0] 23)).alloc (.cells #[.string ⟨#[67, 111, 110, 116, 101, 110, 116, 45, 84, 121, 112, 101]⟩, .string ⟨#[116, 101, 120, 116, 47, 106, 97, 118, 97, 115, 99, 114, 105, 112, 116]⟩] 54)).heap.size (some ⟨w.heap.size + 1, 0, none⟩) livO := .inr ⟨w.heap.size + 1, 0, rfl, by simp, fun i hi => by
    have : i = 0 := by simp [livO] at hi; exact hi
    subst this
    constructor
    · simp [go_sem]; rfl
    · simp [go_sem]; rfl⟩
  have HO := Lib.hid (Of30_any ByteArray.empty true true 0 200 livO (some ⟨w.heap.size + 1, 0, none⟩) 1 false _ (hT.on hb1) ⟨by decide, by intro p hp; simp [livO] at hp; subst hp; exact ⟨by decide, by decide⟩⟩ hA)
  rw [of_livO] at HO
  have HR := Lib.hid (fun (w1 : World) (hb : Below w.heap.size w w1) => Reasons_any w1 (hT.on hb))
  have hlen : reasonsL.length = 7 := rfl
  unfold GivesStrs at HR
  rw [hlen] at HR
  generalize reasonsL = L at *
  unfold askV repV judV at HO
  dsimp only at HO
  clear hA hlen hT
  go_enter Tryz.func10, Tryz.ntmps10
  go_wp2_with fail
  refine HO.out.mono ?_
  rintro e w2 ⟨rfl, hb⟩
  have hB := hb1.trans (hb.mono hb1.size)
  have HB := Lib.hid (hB.alloc hB.size (judO 1 wSafe))
  have hJ := heap_alloc_new w2 (judO 1 wSafe)
  unfold judO wSafe at HB hJ
  clear hb hb0 hb1 hB HO
  unfold wSafe
  go_upto_region 3 with fail
  generalize w2.alloc _ = W2 at *
  generalize w2.heap.size = gj at *
  obtain ⟨j0, j1, j2, j3, -, jz⟩ := jud_cells hJ
  clear hJ
  go_wp2_with fail
  refine (HR.out _ HB.out).mono ?_
  rintro e w3 ⟨A3, c3, rfl, -, hb3⟩
  have HB3 := Lib.hid (HB.out.trans (hb3.mono HB.out.size))
  clear hb3
  go_wp2_with fail
  go_ret
  exact ⟨rfl, HB3.out⟩

end Go.Proofs.YtcbhkcdphbffpaaGreatDoor
