/-
  Lemmas of this claim, part 12: the texts CombG, one behind the other.
-/
import Derived.Test.YtcbhkcdphbffpaaGreatDoorM11
import Derived.Deep.Upon
import Derived.Deep.AppendSrc

namespace Go.Proofs.YtcbhkcdphbffpaaGreatDoor
open Go.RowKit
set_option linter.unusedSimpArgs false
set_option linter.unusedVariables false

/-- AN APPEND OF PARAMETERS, or of none: to a row of one's own. -/
theorem wpList_append_pars {P : Program} (w : World) {ops : Array Oper} {rest : List Oper} {o : Oper} {a : Act} {Q : Exit → Act → World → Prop} (hgd : o.guard = none) (s x : Operand) (t : TypeId)
    (ho : o.op = .call { callee := .builtin .append, args := #[s, x], argTypes := #[t, t] })
    (base : Nat) (e : TypeId) (i : TypeInfo) (ht : P.underlying t = some (.slice e)) (hi : P.info? e = some i) (hz : i.zero = some (.agg #[.string ByteArray.empty, .string ByteArray.empty]))
    (hsize : i.size = 2) (hby : i.bytes = 32) (v : Value) (n : Nat) (xs : List Value) (hs : a.eval s = v) (hown : w.ownsRow base e 2 v n xs)
    (A : Option Addr) (c : Nat) (l : Pars) (hx : a.eval x = .slice A l.length c) {B : Nat} (hA : ParsAt w B A l)
    (h63 : n + l.length ≤ maxLen) (hbytes : (n + l.length) * 32 ≤ 140737488355328) (hbase : base ≤ w.heap.size)
    (h : ∀ v' w', w'.ownsRow base e 2 v' (n + l.length) (xs ++ rowQ l) → w.grownBy w' v.ownBlock → (v'.ownBlock = v.ownBlock ∨ v'.ownBlock = some w.heap.size) → wpList P ops Q rest (a.put o.dst v') w') :
    wpList P ops Q (o :: rest) a w := by
  rcases A with _ | ad
  · have hl : l = [] := by
      rcases hA with h | ⟨_, h, _⟩
      · exact h
      · simp at h
    subst hl
    refine wpList_plain hgd fun K hK => ?_
    obtain ⟨bs, cap, hv, hle⟩ : ∃ bs cap, v = .slice bs n cap ∧ n ≤ cap := by
      rcases hown.2 with ⟨rfl, rfl⟩ | ⟨g, cap, cur, rfl, _, _, hc, _⟩
      · exact ⟨none, 0, rfl, Nat.le_refl _⟩
      · exact ⟨_, cap, rfl, hc⟩
    have hr := run_append_nothing (P := P) w t t o.type e i ht hi bs n cap hle (.slice none 0 c) (Src.ofNil w ht c)
    rw [← hv] at hr
    have hx0 : a.eval x = .slice none 0 c := hx
    unfold Oper.wp execOp
    simp only [ho, resolve, invoke, builtin, Sem.run_bind, Sem.run_pure, Result.andThen_ok, List.map_toArray, List.map_cons, List.map_nil, hs, hx0, hr]
    exact hK _ _ (h v w (by simpa [rowQ] using hown) ⟨rfl, rfl, rfl, Nat.le_refl _, fun _ _ _ => rfl⟩ (.inl rfl))
  · exact wpList_append_own_at w hgd s x t ho base e i _ 2 32 ht hi hz hsize hby rfl (by decide) v n xs hs hown ad l.length c (rowQ l) hx (rowQ_length l) (pars_cells hA) (rowQ_cells l) h63 hbytes hbase (fun v' w' h1 h2 _ h4 => h v' w' h1 h2 h4)

theorem ParsAt.set3 {w : World} {B : Nat} {A : Option Addr} {l : Pars} (h : ParsAt w B A l) {p : Addr} (hp : l = [] ∨ ∀ g, A = some ⟨g, 0, none⟩ → p.block ≠ g) (u : Value) : ParsAt (w.setCell p u) B A l := by
  rcases hp with hp | hp
  · exact .inl hp
  · exact h.set hp u

theorem mim_set2 {w : World} {g : Nat} {n : MimeL} {A2 : Option Addr} {c2 : Nat} (h : w.heap[g]? = some (mimO n A2 c2)) (g3 c3 : Nat) (k v : List UInt8) :
    (w.setCell ⟨g, 2, none⟩ (.slice (some ⟨g3, 0, none⟩) (n.ps.length + 1) c3)).heap[g]? = some (mimO (withM n k v) (some ⟨g3, 0, none⟩) c3) := by
  have hl : (withM n k v).ps.length = n.ps.length + 1 := by
    show (n.ps ++ [(k, v)]).length = _
    simp
  unfold mimO at *
  rw [hl]
  simp [World.setCell, Array.getElem?_modify, h, withM]

theorem with_stands {w : World} {B : Nat} {e : TypeId} {n : MimeL} {k v : List UInt8} {g3 c3 : Nat} (h : w.ownsRow B e 2 (.slice (some ⟨g3, 0, none⟩) (n.ps.length + 1) c3) (n.ps.length + 1) ([] ++ rowQ n.ps ++ parCells (k, v))) : ParsAt w w.heap.size (some ⟨g3, 0, none⟩) (withM n k v).ps := by
  have e : [] ++ rowQ n.ps ++ parCells (k, v) = rowQ (withM n k v).ps := by
    show _ = rowQ (n.ps ++ [(k, v)])
    rw [rowQ_snoc]
    rfl
  rw [e] at h
  exact pars_stands h (by show _ = (n.ps ++ [(k, v)]).length; simp)

/-- What a step of the reference gives. -/
def GivesStepR (r : MimeL × List UInt8) (n : MimeL) (A2 : Option Addr) (w : World) (e : Ending) (w' : World) : Prop :=
  ∃ A c, e = .returned (.tuple #[mimV r.1 A c, .string (bt r.2)]) ∧ ParsAt w' w'.heap.size A r.1.ps ∧ Below w.heap.size w w' ∧ ((A = A2 ∧ r.1 = n) ∨ ∀ g, A = some ⟨g, 0, none⟩ → w.heap.size ≤ g)

theorem setOf_none {m : MimeL} (h : ¬ 0 ≤ atL m.ps charL) : setOf m = [] := by unfold setOf; rw [dif_neg h]

set_option maxHeartbeats 8000000 in
set_option maxRecDepth 20000 in
theorem rStep_any (m n : MimeL) (A A2 : Option Addr) (c c2 : Nat) (set : List UInt8) (w : World) (hm : SizesM m) (hn : SizesM n) (hl : n.ps.length ≤ 1099) (hs : set.length ≤ 1100) (hA : ParsAt w w.heap.size A m.ps) (hA2 : ParsAt w w.heap.size A2 n.ps) :
    Calls Tryz.prog 63 #[mimV m A c, .string (bt set), mimV n A2 c2] w fun e w' => GivesStepR (stepL m set n) n A2 w e w' := by
  obtain ⟨i0, hi, hz0, hz1, hz2⟩ := info_parts infoPar
  have HI := Lib.hid hi; have HZ0 := Lib.hid hz0; have HZ1 := Lib.hid hz1; have HZ2 := Lib.hid hz2
  clear hi hz0 hz1 hz2
  have HAT : Hid (∀ (w1 : World) (hb : Below w.heap.size w w1), Calls Tryz.prog 81 #[mimV n A2 c2, .string ⟨#[99, 104, 97, 114, 115, 101, 116]⟩] w1 fun e w' => e = .returned (.int .i64 (atL n.ps charL)) ∧ Below w1.heap.size w1 w') := Lib.hid (fun (w1 : World) (hb : Below w.heap.size w w1) => rAt_par n A2 c2 ⟨#[99, 104, 97, 114, 115, 101, 116]⟩ w1 hn (hA2.on hb))
  have HSW := Lib.hid (withM_sizes (n := charL) (v := set) hn (by decide) hs hl)
  have hq := eq_textL (essL m) (essL n)
  rw [← essence_eq, ← essence_eq] at hq
  have HA2 := Lib.hid hA2
  have HNE : Hid (n.ps = [] ∨ ∀ g, A2 = some ⟨g, 0, none⟩ → w.heap.size + 1 + 1 ≠ g) := Lib.hid (by
    by_cases h : n.ps = []
    · exact .inl h
    · exact .inr fun g hg e => by have := hA2.lt_of h hg; omega)
  have hmt : (bt m.t).size ≤ 1100 := by rw [bt_size]; exact hm.t
  have hms : (bt m.s).size ≤ 1100 := by rw [bt_size]; exact hm.s
  have hnt : (bt n.t).size ≤ 1100 := by rw [bt_size]; exact hn.t
  have hns : (bt n.s).size ≤ 1100 := by rw [bt_size]; exact hn.s
  have HV : Hid (stepL m set n = if essL m ≠ essL n then (n, setOf n) else if atL n.ps charL < 0 ∧ set ≠ [] ∧ goodL (withM n charL set) = true then (withM n charL set, set) else (n, set)) := Lib.hid rfl
  have hge1 := atL_ge n.ps charL
  clear hm hn hs hA hA2
  obtain ⟨S, hS⟩ : ∃ S, bt set = S := ⟨_, rfl⟩
  rw [hS]
  generalize stepL m set n = R at *
  unfold mimV at HAT ⊢
  by_cases he : essL m = essL n
  · have hqe := hq.trans (beq_iff_eq.2 he)
    by_cases hat : 0 ≤ atL n.ps charL
    · have HV : Hid (R = (n, set)) := Lib.hid (by rw [HV.out, if_neg (by simpa using he), if_neg (by omega)])
      clear hq
      go_enter Tryz.func63, Tryz.ntmps63
      go_upto_region 1 with fail
      have hP : (((w.alloc (.cells #[.string (bt m.t), .string (bt m.s), .slice A m.ps.length c] 36)).alloc (.cells #[.string (bt n.t), .string (bt n.s), .slice A2 n.ps.length c2] 36)).alloc (.cells #[.string ⟨#[]⟩, .string ⟨#[]⟩, .slice none 0 0] 36)).heap[w.heap.size]? = some (mimO m A c) := (Below.heap_alloc _ _ _ (by simp; omega)).trans ((Below.heap_alloc _ _ _ (by simp)).trans (heap_alloc_new w _))
      have hN : (((w.alloc (.cells #[.string (bt m.t), .string (bt m.s), .slice A m.ps.length c] 36)).alloc (.cells #[.string (bt n.t), .string (bt n.s), .slice A2 n.ps.length c2] 36)).alloc (.cells #[.string ⟨#[]⟩, .string ⟨#[]⟩, .slice none 0 0] 36)).heap[w.heap.size + 1]? = some (mimO n A2 c2) := (Below.heap_alloc _ _ _ (by simp)).trans (by
        rw [show w.heap.size + 1 = (w.alloc (.cells #[.string (bt m.t), .string (bt m.s), .slice A m.ps.length c] 36)).heap.size by simp]
        exact heap_alloc_new _ _)
      have hR : (((w.alloc (.cells #[.string (bt m.t), .string (bt m.s), .slice A m.ps.length c] 36)).alloc (.cells #[.string (bt n.t), .string (bt n.s), .slice A2 n.ps.length c2] 36)).alloc (.cells #[.string ⟨#[]⟩, .string ⟨#[]⟩, .slice none 0 0] 36)).heap[w.heap.size + 1 + 1]? = some (mimO noM none 0) := by
        rw [show w.heap.size + 1 + 1 = ((w.alloc (.cells #[.string (bt m.t), .string (bt m.s), .slice A m.ps.length c] 36)).alloc (.cells #[.string (bt n.t), .string (bt n.s), .slice A2 n.ps.length c2] 36)).heap.size by simp]
        exact heap_alloc_new _ _
      have hb : Below w.heap.size w (((w.alloc (.cells #[.string (bt m.t), .string (bt m.s), .slice A m.ps.length c] 36)).alloc (.cells #[.string (bt n.t), .string (bt n.s), .slice A2 n.ps.length c2] 36)).alloc (.cells #[.string ⟨#[]⟩, .string ⟨#[]⟩, .slice none 0 0] 36)) := ((below_box _ _).alloc (by simp) _).alloc (by simp; omega) _
      generalize (((w.alloc (.cells #[.string (bt m.t), .string (bt m.s), .slice A m.ps.length c] 36)).alloc (.cells #[.string (bt n.t), .string (bt n.s), .slice A2 n.ps.length c2] 36)).alloc (.cells #[.string ⟨#[]⟩, .string ⟨#[]⟩, .slice none 0 0] 36)) = W at *
      obtain ⟨p0, p1, p2, pz, plt⟩ := mim_cells hP
      obtain ⟨n0, n1, n2, nz, nlt⟩ := mim_cells hN
      obtain ⟨r0, r1, r2, rz, rlt⟩ := mim_cells hR
      go_wp2_with fail
      refine (HAT.out _ hb).mono ?_
      rintro e w1 ⟨rfl, hbn⟩
      clear p0 p1 p2 pz plt n0 n1 n2 nz nlt r0 r1 r2 rz rlt
      have hP := (hbn.block _ (Array.getElem?_eq_some_iff.1 hP).1).trans hP
      have hN := (hbn.block _ (Array.getElem?_eq_some_iff.1 hN).1).trans hN
      have hR := (hbn.block _ (Array.getElem?_eq_some_iff.1 hR).1).trans hR
      have hb := hb.trans (hbn.mono hb.size)
      clear hbn
      obtain ⟨p0, p1, p2, pz, plt⟩ := mim_cells hP
      obtain ⟨n0, n1, n2, nz, nlt⟩ := mim_cells hN
      obtain ⟨r0, r1, r2, rz, rlt⟩ := mim_cells hR
      have hN9 := hN
      go_upto_region 6 with fail
      have hb0 := hb
      have HRL := Lib.hid rlt
      have hP : (w1.alloc (.cells #[.string (bt n.t), .string (bt n.s), .slice A2 n.ps.length c2] 36)).heap[w.heap.size]? = _ := (Below.heap_alloc _ _ _ (Array.getElem?_eq_some_iff.1 hP).1).trans hP
      have hN : (w1.alloc (.cells #[.string (bt n.t), .string (bt n.s), .slice A2 n.ps.length c2] 36)).heap[w.heap.size + 1]? = _ := (Below.heap_alloc _ _ _ (Array.getElem?_eq_some_iff.1 hN).1).trans hN
      have hR : (w1.alloc (.cells #[.string (bt n.t), .string (bt n.s), .slice A2 n.ps.length c2] 36)).heap[w.heap.size + 1 + 1]? = _ := (Below.heap_alloc _ _ _ (Array.getElem?_eq_some_iff.1 hR).1).trans hR
      have hQ : (w1.alloc (.cells #[.string (bt n.t), .string (bt n.s), .slice A2 n.ps.length c2] 36)).heap[w1.heap.size]? = some (mimO n A2 c2) := heap_alloc_new w1 _
      have hb := hb.alloc hb.size (.cells #[.string (bt n.t), .string (bt n.s), .slice A2 n.ps.length c2] 36)
      go_upto_region 7 with fail
      clear p0 p1 p2 pz plt n0 n1 n2 nz nlt r0 r1 r2 rz rlt
      generalize hgq : w1.heap.size = gq at *
      generalize w1.alloc (.cells #[.string (bt n.t), .string (bt n.s), .slice A2 n.ps.length c2] 36) = w2 at *
      obtain ⟨q0, q1, q2, qz, qlt⟩ := mim_cells hQ
      obtain ⟨p0, p1, p2, pz, plt⟩ := mim_cells hP
      obtain ⟨n0, n1, n2, nz, nlt⟩ := mim_cells hN
      obtain ⟨r0, r1, r2, rz, rlt⟩ := mim_cells hR
      have HW2 := Lib.hid hb
      have hz2 := hb.size
      have HPN := Lib.hid (HA2.out.on hb)
      have HQ2 := Lib.hid hQ
      have HP2 := Lib.hid hP
      have HN2 := Lib.hid hN
      have HR2 := Lib.hid hR
      have K1 := Lib.hid (World.ownsRow_lit (base := w.heap.size) (size := 2) (e := 96) w2 #[] 0 hz2 (by decide) rfl)
      have HM1 := Lib.hid (show 0 + n.ps.length ≤ maxLen from by unfold maxLen; omega)
      have HM2 := Lib.hid (show (0 + n.ps.length) * 32 ≤ 140737488355328 from by omega)
      have HM3 := Lib.hid (show 0 + n.ps.length + 1 ≤ maxLen from by unfold maxLen; omega)
      have HM4 := Lib.hid (show (0 + n.ps.length + 1) * 32 ≤ 140737488355328 from by omega)
      have K2 := Lib.hid (show ∀ u ∈ parCells (charL, set), u.oneCell' = true from by intro u hu; simp [parCells] at hu; rcases hu with rfl | rfl <;> rfl)
      have HPA := Lib.hid (HPN.out.on (below_box w2 (.cells #[] 96)))
      clear hP hN hR hQ hb hN9
      go_upto_region 8 with (first
        | (at_builtin; refine wpList_append_pars _ rfl (.tmp 36) (.tmp 38) 34 rfl w.heap.size 96 i0 Tryz.underlying34 HI.out HZ0.out HZ1.out HZ2.out (.slice (some ⟨w2.heap.size, 0, none⟩) 0 0) 0 [] rfl K1.out A2 c2 n.ps rfl HPA.out HM1.out HM2.out (by simp; omega) ?_; intro v8 w8 h8 hg8 hat8; have HO8 := Lib.hid h8; have HG8 := Lib.hid hg8; have HAT8 := Lib.hid hat8; have hz8 := hg8.size; clear h8 hg8 hat8)
        | (at_builtin; refine wpList_append_lies _ rfl (.tmp 39) (.tmp 42) 34 rfl w.heap.size 96 i0 (.agg #[.string ByteArray.empty, .string ByteArray.empty]) 2 32 Tryz.underlying34 HI.out HZ0.out HZ1.out HZ2.out rfl (by decide) v8 (0 + n.ps.length) _ rfl (HO8.out.alloc (.cells #[.string (bt charL), .string S] 96)) ⟨w8.heap.size, 0, none⟩ 1 1 (parCells (charL, set)) rfl rfl (by have := par_cells_new w8 (charL, set) 96; rw [hS] at this; exact this) K2.out (by decide) HM3.out HM4.out (by simp at hz8; simp; omega) _ rfl ?_; intro g3 c3 w9 h9 hg9 hat9 hlt9; (rw [Nat.zero_add] at h9); have HO9 := Lib.hid h9; have HAT9H := Lib.hid hat9; have HB8 := Lib.hid (((HW2.out.alloc hz2 (.cells #[] 96)).grown HG8.out (by simp; omega) (fun j hj => (K1.out.lt j hj).1))); have HB9 := Lib.hid ((HB8.out.alloc HB8.out.size (.cells #[.string (bt charL), .string S] 96)).grown hg9 (by simp at hz8; simp; omega) (fun j hj => (HO8.out.lt j hj).1)); have hkeep : ∀ b, b < w2.heap.size → w9.heap[b]? = w2.heap[b]? := (fun b hb => (hg9.block b (by simp at hz8; simp; omega) (fun e => by rcases HAT8.out with h | h <;> (rw [h] at e; simp [Value.ownBlock] at e; omega))).trans ((Below.heap_alloc w8 _ b (by simp at hz8; omega)).trans ((HG8.out.block b (by simp; omega) (by simp [Value.ownBlock]; omega)).trans (Below.heap_alloc w2 _ b hb)))); have HKEEP := Lib.hid hkeep; have HQ9 := (hkeep _ qlt).trans HQ2.out; have q2 : w9.cell? ⟨gq, 2, none⟩ = some (.slice A2 n.ps.length c2) := (mim_cells HQ9).2.2.1; have qz : ∀ i, w9.frozen? ⟨gq, i, none⟩ = false := (mim_cells HQ9).2.2.2.1; have HQ9H := Lib.hid HQ9; clear hkeep HQ9 h9 hg9 hat9 q0 q1))
      have HQS := mim_set2 HQ9H.out g3 c3 charL set
      have hbS : Below w.heap.size w (w9.setCell ⟨gq, 2, none⟩ (.slice (some ⟨g3, 0, none⟩) (n.ps.length + 1) c3)) := HB9.out.setCell (show w.heap.size ≤ gq by have := HRL.out; omega) _
      have hPS : (w9.setCell ⟨gq, 2, none⟩ (.slice (some ⟨g3, 0, none⟩) (n.ps.length + 1) c3)).heap[w.heap.size]? = some (mimO m A c) := (Below.heap_setCell _ _ _ _ (by show w.heap.size ≠ gq; have := HRL.out; omega)).trans ((HKEEP.out _ (by have := HRL.out; omega)).trans HP2.out)
      have hNS : (w9.setCell ⟨gq, 2, none⟩ (.slice (some ⟨g3, 0, none⟩) (n.ps.length + 1) c3)).heap[w.heap.size + 1]? = some (mimO n A2 c2) := (Below.heap_setCell _ _ _ _ (by show w.heap.size + 1 ≠ gq; have := HRL.out; omega)).trans ((HKEEP.out _ (by have := HRL.out; omega)).trans HN2.out)
      have hRS : (w9.setCell ⟨gq, 2, none⟩ (.slice (some ⟨g3, 0, none⟩) (n.ps.length + 1) c3)).heap[w.heap.size + 1 + 1]? = some (mimO noM none 0) := (Below.heap_setCell _ _ _ _ (by show w.heap.size + 1 + 1 ≠ gq; have := HRL.out; omega)).trans ((HKEEP.out _ (by have := HRL.out; omega)).trans HR2.out)
      have hge : w.heap.size + 1 + 1 < g3 ∧ g3 ≠ gq := by
        have := HRL.out
        rcases HAT9H.out with h | h
        · rcases HAT8.out with h8 | h8
          · rw [h] at h8; simp [Value.ownBlock] at h8; omega
          · rw [h] at h8; simp at h8; omega
        · simp at h hz8; omega
      have hAW : ParsAt (w9.setCell ⟨gq, 2, none⟩ (.slice (some ⟨g3, 0, none⟩) (n.ps.length + 1) c3)) (w9.setCell ⟨gq, 2, none⟩ (.slice (some ⟨g3, 0, none⟩) (n.ps.length + 1) c3)).heap.size (some ⟨g3, 0, none⟩) (withM n charL set).ps := (with_stands HO9.out).set (fun g hg => by injection hg with hg; injection hg with e1 _ _; show gq ≠ g; omega) _ |>.more (by simp)
      clear q2 qz
      clear p0 p1 p2 pz plt n0 n1 n2 nz nlt r0 r1 r2 rz rlt
      generalize w9.setCell ⟨gq, 2, none⟩ (.slice (some ⟨g3, 0, none⟩) (n.ps.length + 1) c3) = v9 at *
      have hP := hPS
      have hN := hNS
      have hR := hRS
      have hb := hbS
      obtain ⟨p0, p1, p2, pz, plt⟩ := mim_cells hP
      obtain ⟨n0, n1, n2, nz, nlt⟩ := mim_cells hN
      obtain ⟨r0, r1, r2, rz, rlt⟩ := mim_cells hR
      obtain ⟨q0, q1, q2, qz, qlt9⟩ := mim_cells HQS
      have HB := Lib.hid hb
      have HN3 := Lib.hid (HA2.out.on hb)
      go_wp2_with fail
      refine bodyPost_ret (v := .tuple #[mimV n A2 c2, .string S]) ?_ rfl ?_
      · simp [results, Tryz.results63, go_sem, r0, r1, r2, mimV]
      · refine ⟨A2, c2, by rw [HV.out, ← hS], ?_, ?_, .inl ⟨rfl, by rw [HV.out]⟩⟩
        · rw [HV.out]
          exact (((HN3.out.set3 HNE.out _).set3 HNE.out _).set3 HNE.out _).more (by simp)
        · exact ((HB.out.setCell (show w.heap.size ≤ w.heap.size + 1 + 1 by omega) _).setCell (show w.heap.size ≤ w.heap.size + 1 + 1 by omega) _).setCell (show w.heap.size ≤ w.heap.size + 1 + 1 by omega) _
    · have hat2 : atL n.ps charL < 0 := by omega
      by_cases hse : set = []
      · have HV : Hid (R = (n, set)) := Lib.hid (by rw [HV.out, if_neg (by simpa using he), if_neg (by rintro ⟨_, h, _⟩; exact h hse)])
        have hset : S.toList = [] := by rw [← hS, Lib.toList_data]; exact hse
        have hset2 : S.toList.isEmpty = true := by rw [hset]; rfl
        clear hq
        go_enter Tryz.func63, Tryz.ntmps63
        go_upto_region 1 with fail
        have hP : (((w.alloc (.cells #[.string (bt m.t), .string (bt m.s), .slice A m.ps.length c] 36)).alloc (.cells #[.string (bt n.t), .string (bt n.s), .slice A2 n.ps.length c2] 36)).alloc (.cells #[.string ⟨#[]⟩, .string ⟨#[]⟩, .slice none 0 0] 36)).heap[w.heap.size]? = some (mimO m A c) := (Below.heap_alloc _ _ _ (by simp; omega)).trans ((Below.heap_alloc _ _ _ (by simp)).trans (heap_alloc_new w _))
        have hN : (((w.alloc (.cells #[.string (bt m.t), .string (bt m.s), .slice A m.ps.length c] 36)).alloc (.cells #[.string (bt n.t), .string (bt n.s), .slice A2 n.ps.length c2] 36)).alloc (.cells #[.string ⟨#[]⟩, .string ⟨#[]⟩, .slice none 0 0] 36)).heap[w.heap.size + 1]? = some (mimO n A2 c2) := (Below.heap_alloc _ _ _ (by simp)).trans (by
          rw [show w.heap.size + 1 = (w.alloc (.cells #[.string (bt m.t), .string (bt m.s), .slice A m.ps.length c] 36)).heap.size by simp]
          exact heap_alloc_new _ _)
        have hR : (((w.alloc (.cells #[.string (bt m.t), .string (bt m.s), .slice A m.ps.length c] 36)).alloc (.cells #[.string (bt n.t), .string (bt n.s), .slice A2 n.ps.length c2] 36)).alloc (.cells #[.string ⟨#[]⟩, .string ⟨#[]⟩, .slice none 0 0] 36)).heap[w.heap.size + 1 + 1]? = some (mimO noM none 0) := by
          rw [show w.heap.size + 1 + 1 = ((w.alloc (.cells #[.string (bt m.t), .string (bt m.s), .slice A m.ps.length c] 36)).alloc (.cells #[.string (bt n.t), .string (bt n.s), .slice A2 n.ps.length c2] 36)).heap.size by simp]
          exact heap_alloc_new _ _
        have hb : Below w.heap.size w (((w.alloc (.cells #[.string (bt m.t), .string (bt m.s), .slice A m.ps.length c] 36)).alloc (.cells #[.string (bt n.t), .string (bt n.s), .slice A2 n.ps.length c2] 36)).alloc (.cells #[.string ⟨#[]⟩, .string ⟨#[]⟩, .slice none 0 0] 36)) := ((below_box _ _).alloc (by simp) _).alloc (by simp; omega) _
        generalize (((w.alloc (.cells #[.string (bt m.t), .string (bt m.s), .slice A m.ps.length c] 36)).alloc (.cells #[.string (bt n.t), .string (bt n.s), .slice A2 n.ps.length c2] 36)).alloc (.cells #[.string ⟨#[]⟩, .string ⟨#[]⟩, .slice none 0 0] 36)) = W at *
        obtain ⟨p0, p1, p2, pz, plt⟩ := mim_cells hP
        obtain ⟨n0, n1, n2, nz, nlt⟩ := mim_cells hN
        obtain ⟨r0, r1, r2, rz, rlt⟩ := mim_cells hR
        go_wp2_with fail
        refine (HAT.out _ hb).mono ?_
        rintro e w1 ⟨rfl, hbn⟩
        clear p0 p1 p2 pz plt n0 n1 n2 nz nlt r0 r1 r2 rz rlt
        have hP := (hbn.block _ (Array.getElem?_eq_some_iff.1 hP).1).trans hP
        have hN := (hbn.block _ (Array.getElem?_eq_some_iff.1 hN).1).trans hN
        have hR := (hbn.block _ (Array.getElem?_eq_some_iff.1 hR).1).trans hR
        have hb := hb.trans (hbn.mono hb.size)
        clear hbn
        obtain ⟨p0, p1, p2, pz, plt⟩ := mim_cells hP
        obtain ⟨n0, n1, n2, nz, nlt⟩ := mim_cells hN
        obtain ⟨r0, r1, r2, rz, rlt⟩ := mim_cells hR
        have hN9 := hN
        go_upto_region 6 with fail
        have hb0 := hb
        have HRL := Lib.hid rlt
        have hP : (w1.alloc (.cells #[.string (bt n.t), .string (bt n.s), .slice A2 n.ps.length c2] 36)).heap[w.heap.size]? = _ := (Below.heap_alloc _ _ _ (Array.getElem?_eq_some_iff.1 hP).1).trans hP
        have hN : (w1.alloc (.cells #[.string (bt n.t), .string (bt n.s), .slice A2 n.ps.length c2] 36)).heap[w.heap.size + 1]? = _ := (Below.heap_alloc _ _ _ (Array.getElem?_eq_some_iff.1 hN).1).trans hN
        have hR : (w1.alloc (.cells #[.string (bt n.t), .string (bt n.s), .slice A2 n.ps.length c2] 36)).heap[w.heap.size + 1 + 1]? = _ := (Below.heap_alloc _ _ _ (Array.getElem?_eq_some_iff.1 hR).1).trans hR
        have hQ : (w1.alloc (.cells #[.string (bt n.t), .string (bt n.s), .slice A2 n.ps.length c2] 36)).heap[w1.heap.size]? = some (mimO n A2 c2) := heap_alloc_new w1 _
        have hb := hb.alloc hb.size (.cells #[.string (bt n.t), .string (bt n.s), .slice A2 n.ps.length c2] 36)
        go_upto_region 7 with fail
        clear p0 p1 p2 pz plt n0 n1 n2 nz nlt r0 r1 r2 rz rlt
        generalize hgq : w1.heap.size = gq at *
        generalize w1.alloc (.cells #[.string (bt n.t), .string (bt n.s), .slice A2 n.ps.length c2] 36) = w2 at *
        obtain ⟨q0, q1, q2, qz, qlt⟩ := mim_cells hQ
        obtain ⟨p0, p1, p2, pz, plt⟩ := mim_cells hP
        obtain ⟨n0, n1, n2, nz, nlt⟩ := mim_cells hN
        obtain ⟨r0, r1, r2, rz, rlt⟩ := mim_cells hR
        have HW2 := Lib.hid hb
        have hz2 := hb.size
        have HPN := Lib.hid (HA2.out.on hb)
        have HQ2 := Lib.hid hQ
        have HP2 := Lib.hid hP
        have HN2 := Lib.hid hN
        have HR2 := Lib.hid hR
        have K1 := Lib.hid (World.ownsRow_lit (base := w.heap.size) (size := 2) (e := 96) w2 #[] 0 hz2 (by decide) rfl)
        have HM1 := Lib.hid (show 0 + n.ps.length ≤ maxLen from by unfold maxLen; omega)
        have HM2 := Lib.hid (show (0 + n.ps.length) * 32 ≤ 140737488355328 from by omega)
        have HM3 := Lib.hid (show 0 + n.ps.length + 1 ≤ maxLen from by unfold maxLen; omega)
        have HM4 := Lib.hid (show (0 + n.ps.length + 1) * 32 ≤ 140737488355328 from by omega)
        have K2 := Lib.hid (show ∀ u ∈ parCells (charL, set), u.oneCell' = true from by intro u hu; simp [parCells] at hu; rcases hu with rfl | rfl <;> rfl)
        have HPA := Lib.hid (HPN.out.on (below_box w2 (.cells #[] 96)))
        clear hP hN hR hQ hb hN9
        go_upto_region 8 with (first
          | (at_builtin; refine wpList_append_pars _ rfl (.tmp 36) (.tmp 38) 34 rfl w.heap.size 96 i0 Tryz.underlying34 HI.out HZ0.out HZ1.out HZ2.out (.slice (some ⟨w2.heap.size, 0, none⟩) 0 0) 0 [] rfl K1.out A2 c2 n.ps rfl HPA.out HM1.out HM2.out (by simp; omega) ?_; intro v8 w8 h8 hg8 hat8; have HO8 := Lib.hid h8; have HG8 := Lib.hid hg8; have HAT8 := Lib.hid hat8; have hz8 := hg8.size; clear h8 hg8 hat8)
          | (at_builtin; refine wpList_append_lies _ rfl (.tmp 39) (.tmp 42) 34 rfl w.heap.size 96 i0 (.agg #[.string ByteArray.empty, .string ByteArray.empty]) 2 32 Tryz.underlying34 HI.out HZ0.out HZ1.out HZ2.out rfl (by decide) v8 (0 + n.ps.length) _ rfl (HO8.out.alloc (.cells #[.string (bt charL), .string S] 96)) ⟨w8.heap.size, 0, none⟩ 1 1 (parCells (charL, set)) rfl rfl (by have := par_cells_new w8 (charL, set) 96; rw [hS] at this; exact this) K2.out (by decide) HM3.out HM4.out (by simp at hz8; simp; omega) _ rfl ?_; intro g3 c3 w9 h9 hg9 hat9 hlt9; (rw [Nat.zero_add] at h9); have HO9 := Lib.hid h9; have HAT9H := Lib.hid hat9; have HB8 := Lib.hid (((HW2.out.alloc hz2 (.cells #[] 96)).grown HG8.out (by simp; omega) (fun j hj => (K1.out.lt j hj).1))); have HB9 := Lib.hid ((HB8.out.alloc HB8.out.size (.cells #[.string (bt charL), .string S] 96)).grown hg9 (by simp at hz8; simp; omega) (fun j hj => (HO8.out.lt j hj).1)); have hkeep : ∀ b, b < w2.heap.size → w9.heap[b]? = w2.heap[b]? := (fun b hb => (hg9.block b (by simp at hz8; simp; omega) (fun e => by rcases HAT8.out with h | h <;> (rw [h] at e; simp [Value.ownBlock] at e; omega))).trans ((Below.heap_alloc w8 _ b (by simp at hz8; omega)).trans ((HG8.out.block b (by simp; omega) (by simp [Value.ownBlock]; omega)).trans (Below.heap_alloc w2 _ b hb)))); have HKEEP := Lib.hid hkeep; have HQ9 := (hkeep _ qlt).trans HQ2.out; have q2 : w9.cell? ⟨gq, 2, none⟩ = some (.slice A2 n.ps.length c2) := (mim_cells HQ9).2.2.1; have qz : ∀ i, w9.frozen? ⟨gq, i, none⟩ = false := (mim_cells HQ9).2.2.2.1; have HQ9H := Lib.hid HQ9; clear hkeep HQ9 h9 hg9 hat9 q0 q1))
        have HQS := mim_set2 HQ9H.out g3 c3 charL set
        have hbS : Below w.heap.size w (w9.setCell ⟨gq, 2, none⟩ (.slice (some ⟨g3, 0, none⟩) (n.ps.length + 1) c3)) := HB9.out.setCell (show w.heap.size ≤ gq by have := HRL.out; omega) _
        have hPS : (w9.setCell ⟨gq, 2, none⟩ (.slice (some ⟨g3, 0, none⟩) (n.ps.length + 1) c3)).heap[w.heap.size]? = some (mimO m A c) := (Below.heap_setCell _ _ _ _ (by show w.heap.size ≠ gq; have := HRL.out; omega)).trans ((HKEEP.out _ (by have := HRL.out; omega)).trans HP2.out)
        have hNS : (w9.setCell ⟨gq, 2, none⟩ (.slice (some ⟨g3, 0, none⟩) (n.ps.length + 1) c3)).heap[w.heap.size + 1]? = some (mimO n A2 c2) := (Below.heap_setCell _ _ _ _ (by show w.heap.size + 1 ≠ gq; have := HRL.out; omega)).trans ((HKEEP.out _ (by have := HRL.out; omega)).trans HN2.out)
        have hRS : (w9.setCell ⟨gq, 2, none⟩ (.slice (some ⟨g3, 0, none⟩) (n.ps.length + 1) c3)).heap[w.heap.size + 1 + 1]? = some (mimO noM none 0) := (Below.heap_setCell _ _ _ _ (by show w.heap.size + 1 + 1 ≠ gq; have := HRL.out; omega)).trans ((HKEEP.out _ (by have := HRL.out; omega)).trans HR2.out)
        have hge : w.heap.size + 1 + 1 < g3 ∧ g3 ≠ gq := by
          have := HRL.out
          rcases HAT9H.out with h | h
          · rcases HAT8.out with h8 | h8
            · rw [h] at h8; simp [Value.ownBlock] at h8; omega
            · rw [h] at h8; simp at h8; omega
          · simp at h hz8; omega
        have hAW : ParsAt (w9.setCell ⟨gq, 2, none⟩ (.slice (some ⟨g3, 0, none⟩) (n.ps.length + 1) c3)) (w9.setCell ⟨gq, 2, none⟩ (.slice (some ⟨g3, 0, none⟩) (n.ps.length + 1) c3)).heap.size (some ⟨g3, 0, none⟩) (withM n charL set).ps := (with_stands HO9.out).set (fun g hg => by injection hg with hg; injection hg with e1 _ _; show gq ≠ g; omega) _ |>.more (by simp)
        clear q2 qz
        clear p0 p1 p2 pz plt n0 n1 n2 nz nlt r0 r1 r2 rz rlt
        generalize w9.setCell ⟨gq, 2, none⟩ (.slice (some ⟨g3, 0, none⟩) (n.ps.length + 1) c3) = v9 at *
        have hP := hPS
        have hN := hNS
        have hR := hRS
        have hb := hbS
        obtain ⟨p0, p1, p2, pz, plt⟩ := mim_cells hP
        obtain ⟨n0, n1, n2, nz, nlt⟩ := mim_cells hN
        obtain ⟨r0, r1, r2, rz, rlt⟩ := mim_cells hR
        obtain ⟨q0, q1, q2, qz, qlt9⟩ := mim_cells HQS
        have HB := Lib.hid hb
        have HN3 := Lib.hid (HA2.out.on hb)
        go_wp2_with fail
        refine bodyPost_ret (v := .tuple #[mimV n A2 c2, .string S]) ?_ rfl ?_
        · simp [results, Tryz.results63, go_sem, r0, r1, r2, mimV]
        · refine ⟨A2, c2, by rw [HV.out, ← hS], ?_, ?_, .inl ⟨rfl, by rw [HV.out]⟩⟩
          · rw [HV.out]
            exact (((HN3.out.set3 HNE.out _).set3 HNE.out _).set3 HNE.out _).more (by simp)
          · exact ((HB.out.setCell (show w.heap.size ≤ w.heap.size + 1 + 1 by omega) _).setCell (show w.heap.size ≤ w.heap.size + 1 + 1 by omega) _).setCell (show w.heap.size ≤ w.heap.size + 1 + 1 by omega) _
      · have hset : S.toList.isEmpty = false := by rw [← hS, bt_empty, List.isEmpty_eq_false_iff]; exact hse
        cases hg : goodL (withM n charL set)
        · have HV : Hid (R = (n, set)) := Lib.hid (by rw [HV.out, if_neg (by simpa using he), if_neg (by rintro ⟨_, _, h⟩; rw [hg] at h; cases h)])
          clear hq
          go_enter Tryz.func63, Tryz.ntmps63
          go_upto_region 1 with fail
          have hP : (((w.alloc (.cells #[.string (bt m.t), .string (bt m.s), .slice A m.ps.length c] 36)).alloc (.cells #[.string (bt n.t), .string (bt n.s), .slice A2 n.ps.length c2] 36)).alloc (.cells #[.string ⟨#[]⟩, .string ⟨#[]⟩, .slice none 0 0] 36)).heap[w.heap.size]? = some (mimO m A c) := (Below.heap_alloc _ _ _ (by simp; omega)).trans ((Below.heap_alloc _ _ _ (by simp)).trans (heap_alloc_new w _))
          have hN : (((w.alloc (.cells #[.string (bt m.t), .string (bt m.s), .slice A m.ps.length c] 36)).alloc (.cells #[.string (bt n.t), .string (bt n.s), .slice A2 n.ps.length c2] 36)).alloc (.cells #[.string ⟨#[]⟩, .string ⟨#[]⟩, .slice none 0 0] 36)).heap[w.heap.size + 1]? = some (mimO n A2 c2) := (Below.heap_alloc _ _ _ (by simp)).trans (by
            rw [show w.heap.size + 1 = (w.alloc (.cells #[.string (bt m.t), .string (bt m.s), .slice A m.ps.length c] 36)).heap.size by simp]
            exact heap_alloc_new _ _)
          have hR : (((w.alloc (.cells #[.string (bt m.t), .string (bt m.s), .slice A m.ps.length c] 36)).alloc (.cells #[.string (bt n.t), .string (bt n.s), .slice A2 n.ps.length c2] 36)).alloc (.cells #[.string ⟨#[]⟩, .string ⟨#[]⟩, .slice none 0 0] 36)).heap[w.heap.size + 1 + 1]? = some (mimO noM none 0) := by
            rw [show w.heap.size + 1 + 1 = ((w.alloc (.cells #[.string (bt m.t), .string (bt m.s), .slice A m.ps.length c] 36)).alloc (.cells #[.string (bt n.t), .string (bt n.s), .slice A2 n.ps.length c2] 36)).heap.size by simp]
            exact heap_alloc_new _ _
          have hb : Below w.heap.size w (((w.alloc (.cells #[.string (bt m.t), .string (bt m.s), .slice A m.ps.length c] 36)).alloc (.cells #[.string (bt n.t), .string (bt n.s), .slice A2 n.ps.length c2] 36)).alloc (.cells #[.string ⟨#[]⟩, .string ⟨#[]⟩, .slice none 0 0] 36)) := ((below_box _ _).alloc (by simp) _).alloc (by simp; omega) _
          generalize (((w.alloc (.cells #[.string (bt m.t), .string (bt m.s), .slice A m.ps.length c] 36)).alloc (.cells #[.string (bt n.t), .string (bt n.s), .slice A2 n.ps.length c2] 36)).alloc (.cells #[.string ⟨#[]⟩, .string ⟨#[]⟩, .slice none 0 0] 36)) = W at *
          obtain ⟨p0, p1, p2, pz, plt⟩ := mim_cells hP
          obtain ⟨n0, n1, n2, nz, nlt⟩ := mim_cells hN
          obtain ⟨r0, r1, r2, rz, rlt⟩ := mim_cells hR
          go_wp2_with fail
          refine (HAT.out _ hb).mono ?_
          rintro e w1 ⟨rfl, hbn⟩
          clear p0 p1 p2 pz plt n0 n1 n2 nz nlt r0 r1 r2 rz rlt
          have hP := (hbn.block _ (Array.getElem?_eq_some_iff.1 hP).1).trans hP
          have hN := (hbn.block _ (Array.getElem?_eq_some_iff.1 hN).1).trans hN
          have hR := (hbn.block _ (Array.getElem?_eq_some_iff.1 hR).1).trans hR
          have hb := hb.trans (hbn.mono hb.size)
          clear hbn
          obtain ⟨p0, p1, p2, pz, plt⟩ := mim_cells hP
          obtain ⟨n0, n1, n2, nz, nlt⟩ := mim_cells hN
          obtain ⟨r0, r1, r2, rz, rlt⟩ := mim_cells hR
          have hN9 := hN
          go_upto_region 6 with fail
          have hb0 := hb
          have HRL := Lib.hid rlt
          have hP : (w1.alloc (.cells #[.string (bt n.t), .string (bt n.s), .slice A2 n.ps.length c2] 36)).heap[w.heap.size]? = _ := (Below.heap_alloc _ _ _ (Array.getElem?_eq_some_iff.1 hP).1).trans hP
          have hN : (w1.alloc (.cells #[.string (bt n.t), .string (bt n.s), .slice A2 n.ps.length c2] 36)).heap[w.heap.size + 1]? = _ := (Below.heap_alloc _ _ _ (Array.getElem?_eq_some_iff.1 hN).1).trans hN
          have hR : (w1.alloc (.cells #[.string (bt n.t), .string (bt n.s), .slice A2 n.ps.length c2] 36)).heap[w.heap.size + 1 + 1]? = _ := (Below.heap_alloc _ _ _ (Array.getElem?_eq_some_iff.1 hR).1).trans hR
          have hQ : (w1.alloc (.cells #[.string (bt n.t), .string (bt n.s), .slice A2 n.ps.length c2] 36)).heap[w1.heap.size]? = some (mimO n A2 c2) := heap_alloc_new w1 _
          have hb := hb.alloc hb.size (.cells #[.string (bt n.t), .string (bt n.s), .slice A2 n.ps.length c2] 36)
          go_upto_region 7 with fail
          clear p0 p1 p2 pz plt n0 n1 n2 nz nlt r0 r1 r2 rz rlt
          generalize hgq : w1.heap.size = gq at *
          generalize w1.alloc (.cells #[.string (bt n.t), .string (bt n.s), .slice A2 n.ps.length c2] 36) = w2 at *
          obtain ⟨q0, q1, q2, qz, qlt⟩ := mim_cells hQ
          obtain ⟨p0, p1, p2, pz, plt⟩ := mim_cells hP
          obtain ⟨n0, n1, n2, nz, nlt⟩ := mim_cells hN
          obtain ⟨r0, r1, r2, rz, rlt⟩ := mim_cells hR
          have HW2 := Lib.hid hb
          have hz2 := hb.size
          have HPN := Lib.hid (HA2.out.on hb)
          have HQ2 := Lib.hid hQ
          have HP2 := Lib.hid hP
          have HN2 := Lib.hid hN
          have HR2 := Lib.hid hR
          have K1 := Lib.hid (World.ownsRow_lit (base := w.heap.size) (size := 2) (e := 96) w2 #[] 0 hz2 (by decide) rfl)
          have HM1 := Lib.hid (show 0 + n.ps.length ≤ maxLen from by unfold maxLen; omega)
          have HM2 := Lib.hid (show (0 + n.ps.length) * 32 ≤ 140737488355328 from by omega)
          have HM3 := Lib.hid (show 0 + n.ps.length + 1 ≤ maxLen from by unfold maxLen; omega)
          have HM4 := Lib.hid (show (0 + n.ps.length + 1) * 32 ≤ 140737488355328 from by omega)
          have K2 := Lib.hid (show ∀ u ∈ parCells (charL, set), u.oneCell' = true from by intro u hu; simp [parCells] at hu; rcases hu with rfl | rfl <;> rfl)
          have HPA := Lib.hid (HPN.out.on (below_box w2 (.cells #[] 96)))
          clear hP hN hR hQ hb hN9
          go_upto_region 8 with (first
            | (at_builtin; refine wpList_append_pars _ rfl (.tmp 36) (.tmp 38) 34 rfl w.heap.size 96 i0 Tryz.underlying34 HI.out HZ0.out HZ1.out HZ2.out (.slice (some ⟨w2.heap.size, 0, none⟩) 0 0) 0 [] rfl K1.out A2 c2 n.ps rfl HPA.out HM1.out HM2.out (by simp; omega) ?_; intro v8 w8 h8 hg8 hat8; have HO8 := Lib.hid h8; have HG8 := Lib.hid hg8; have HAT8 := Lib.hid hat8; have hz8 := hg8.size; clear h8 hg8 hat8)
            | (at_builtin; refine wpList_append_lies _ rfl (.tmp 39) (.tmp 42) 34 rfl w.heap.size 96 i0 (.agg #[.string ByteArray.empty, .string ByteArray.empty]) 2 32 Tryz.underlying34 HI.out HZ0.out HZ1.out HZ2.out rfl (by decide) v8 (0 + n.ps.length) _ rfl (HO8.out.alloc (.cells #[.string (bt charL), .string S] 96)) ⟨w8.heap.size, 0, none⟩ 1 1 (parCells (charL, set)) rfl rfl (by have := par_cells_new w8 (charL, set) 96; rw [hS] at this; exact this) K2.out (by decide) HM3.out HM4.out (by simp at hz8; simp; omega) _ rfl ?_; intro g3 c3 w9 h9 hg9 hat9 hlt9; (rw [Nat.zero_add] at h9); have HO9 := Lib.hid h9; have HAT9H := Lib.hid hat9; have HB8 := Lib.hid (((HW2.out.alloc hz2 (.cells #[] 96)).grown HG8.out (by simp; omega) (fun j hj => (K1.out.lt j hj).1))); have HB9 := Lib.hid ((HB8.out.alloc HB8.out.size (.cells #[.string (bt charL), .string S] 96)).grown hg9 (by simp at hz8; simp; omega) (fun j hj => (HO8.out.lt j hj).1)); have hkeep : ∀ b, b < w2.heap.size → w9.heap[b]? = w2.heap[b]? := (fun b hb => (hg9.block b (by simp at hz8; simp; omega) (fun e => by rcases HAT8.out with h | h <;> (rw [h] at e; simp [Value.ownBlock] at e; omega))).trans ((Below.heap_alloc w8 _ b (by simp at hz8; omega)).trans ((HG8.out.block b (by simp; omega) (by simp [Value.ownBlock]; omega)).trans (Below.heap_alloc w2 _ b hb)))); have HKEEP := Lib.hid hkeep; have HQ9 := (hkeep _ qlt).trans HQ2.out; have q2 : w9.cell? ⟨gq, 2, none⟩ = some (.slice A2 n.ps.length c2) := (mim_cells HQ9).2.2.1; have qz : ∀ i, w9.frozen? ⟨gq, i, none⟩ = false := (mim_cells HQ9).2.2.2.1; have HQ9H := Lib.hid HQ9; clear hkeep HQ9 h9 hg9 hat9 q0 q1))
          have HQS := mim_set2 HQ9H.out g3 c3 charL set
          have hbS : Below w.heap.size w (w9.setCell ⟨gq, 2, none⟩ (.slice (some ⟨g3, 0, none⟩) (n.ps.length + 1) c3)) := HB9.out.setCell (show w.heap.size ≤ gq by have := HRL.out; omega) _
          have hPS : (w9.setCell ⟨gq, 2, none⟩ (.slice (some ⟨g3, 0, none⟩) (n.ps.length + 1) c3)).heap[w.heap.size]? = some (mimO m A c) := (Below.heap_setCell _ _ _ _ (by show w.heap.size ≠ gq; have := HRL.out; omega)).trans ((HKEEP.out _ (by have := HRL.out; omega)).trans HP2.out)
          have hNS : (w9.setCell ⟨gq, 2, none⟩ (.slice (some ⟨g3, 0, none⟩) (n.ps.length + 1) c3)).heap[w.heap.size + 1]? = some (mimO n A2 c2) := (Below.heap_setCell _ _ _ _ (by show w.heap.size + 1 ≠ gq; have := HRL.out; omega)).trans ((HKEEP.out _ (by have := HRL.out; omega)).trans HN2.out)
          have hRS : (w9.setCell ⟨gq, 2, none⟩ (.slice (some ⟨g3, 0, none⟩) (n.ps.length + 1) c3)).heap[w.heap.size + 1 + 1]? = some (mimO noM none 0) := (Below.heap_setCell _ _ _ _ (by show w.heap.size + 1 + 1 ≠ gq; have := HRL.out; omega)).trans ((HKEEP.out _ (by have := HRL.out; omega)).trans HR2.out)
          have hge : w.heap.size + 1 + 1 < g3 ∧ g3 ≠ gq := by
            have := HRL.out
            rcases HAT9H.out with h | h
            · rcases HAT8.out with h8 | h8
              · rw [h] at h8; simp [Value.ownBlock] at h8; omega
              · rw [h] at h8; simp at h8; omega
            · simp at h hz8; omega
          have hAW : ParsAt (w9.setCell ⟨gq, 2, none⟩ (.slice (some ⟨g3, 0, none⟩) (n.ps.length + 1) c3)) (w9.setCell ⟨gq, 2, none⟩ (.slice (some ⟨g3, 0, none⟩) (n.ps.length + 1) c3)).heap.size (some ⟨g3, 0, none⟩) (withM n charL set).ps := (with_stands HO9.out).set (fun g hg => by injection hg with hg; injection hg with e1 _ _; show gq ≠ g; omega) _ |>.more (by simp)
          clear q2 qz
          clear p0 p1 p2 pz plt n0 n1 n2 nz nlt r0 r1 r2 rz rlt
          generalize w9.setCell ⟨gq, 2, none⟩ (.slice (some ⟨g3, 0, none⟩) (n.ps.length + 1) c3) = v9 at *
          have hP := hPS
          have hN := hNS
          have hR := hRS
          have hb := hbS
          obtain ⟨p0, p1, p2, pz, plt⟩ := mim_cells hP
          obtain ⟨n0, n1, n2, nz, nlt⟩ := mim_cells hN
          obtain ⟨r0, r1, r2, rz, rlt⟩ := mim_cells hR
          obtain ⟨q0, q1, q2, qz, qlt9⟩ := mim_cells HQS
          have HGD := Lib.hid (rGood_par (withM n charL set) (some ⟨g3, 0, none⟩) c3 v9 HSW.out hAW)
          unfold mimV at HGD
          go_wp2_with fail
          refine HGD.out.mono ?_
          rintro e w10 ⟨rfl, hbn⟩
          have hQ10 := (hbn.block _ qlt9).trans HQS
          have hAW10 := hAW.on hbn
          clear q0 q1 q2 qz qlt9
          clear p0 p1 p2 pz plt n0 n1 n2 nz nlt r0 r1 r2 rz rlt
          have hP := (hbn.block _ (Array.getElem?_eq_some_iff.1 hP).1).trans hP
          have hN := (hbn.block _ (Array.getElem?_eq_some_iff.1 hN).1).trans hN
          have hR := (hbn.block _ (Array.getElem?_eq_some_iff.1 hR).1).trans hR
          have hb := hb.trans (hbn.mono hb.size)
          clear hbn
          obtain ⟨p0, p1, p2, pz, plt⟩ := mim_cells hP
          obtain ⟨n0, n1, n2, nz, nlt⟩ := mim_cells hN
          obtain ⟨r0, r1, r2, rz, rlt⟩ := mim_cells hR
          obtain ⟨q0, q1, q2, qz, qlt9⟩ := mim_cells hQ10
          rw [hg]
          have HB := Lib.hid hb
          have HN3 := Lib.hid (HA2.out.on hb)
          go_wp2_with fail
          refine bodyPost_ret (v := .tuple #[mimV n A2 c2, .string S]) ?_ rfl ?_
          · simp [results, Tryz.results63, go_sem, r0, r1, r2, mimV]
          · refine ⟨A2, c2, by rw [HV.out, ← hS], ?_, ?_, .inl ⟨rfl, by rw [HV.out]⟩⟩
            · rw [HV.out]
              exact (((HN3.out.set3 HNE.out _).set3 HNE.out _).set3 HNE.out _).more (by simp)
            · exact ((HB.out.setCell (show w.heap.size ≤ w.heap.size + 1 + 1 by omega) _).setCell (show w.heap.size ≤ w.heap.size + 1 + 1 by omega) _).setCell (show w.heap.size ≤ w.heap.size + 1 + 1 by omega) _
        · have HV : Hid (R = (withM n charL set, set)) := Lib.hid (by rw [HV.out, if_neg (by simpa using he), if_pos ⟨hat2, hse, hg⟩])
          clear hq
          go_enter Tryz.func63, Tryz.ntmps63
          go_upto_region 1 with fail
          have hP : (((w.alloc (.cells #[.string (bt m.t), .string (bt m.s), .slice A m.ps.length c] 36)).alloc (.cells #[.string (bt n.t), .string (bt n.s), .slice A2 n.ps.length c2] 36)).alloc (.cells #[.string ⟨#[]⟩, .string ⟨#[]⟩, .slice none 0 0] 36)).heap[w.heap.size]? = some (mimO m A c) := (Below.heap_alloc _ _ _ (by simp; omega)).trans ((Below.heap_alloc _ _ _ (by simp)).trans (heap_alloc_new w _))
          have hN : (((w.alloc (.cells #[.string (bt m.t), .string (bt m.s), .slice A m.ps.length c] 36)).alloc (.cells #[.string (bt n.t), .string (bt n.s), .slice A2 n.ps.length c2] 36)).alloc (.cells #[.string ⟨#[]⟩, .string ⟨#[]⟩, .slice none 0 0] 36)).heap[w.heap.size + 1]? = some (mimO n A2 c2) := (Below.heap_alloc _ _ _ (by simp)).trans (by
            rw [show w.heap.size + 1 = (w.alloc (.cells #[.string (bt m.t), .string (bt m.s), .slice A m.ps.length c] 36)).heap.size by simp]
            exact heap_alloc_new _ _)
          have hR : (((w.alloc (.cells #[.string (bt m.t), .string (bt m.s), .slice A m.ps.length c] 36)).alloc (.cells #[.string (bt n.t), .string (bt n.s), .slice A2 n.ps.length c2] 36)).alloc (.cells #[.string ⟨#[]⟩, .string ⟨#[]⟩, .slice none 0 0] 36)).heap[w.heap.size + 1 + 1]? = some (mimO noM none 0) := by
            rw [show w.heap.size + 1 + 1 = ((w.alloc (.cells #[.string (bt m.t), .string (bt m.s), .slice A m.ps.length c] 36)).alloc (.cells #[.string (bt n.t), .string (bt n.s), .slice A2 n.ps.length c2] 36)).heap.size by simp]
            exact heap_alloc_new _ _
          have hb : Below w.heap.size w (((w.alloc (.cells #[.string (bt m.t), .string (bt m.s), .slice A m.ps.length c] 36)).alloc (.cells #[.string (bt n.t), .string (bt n.s), .slice A2 n.ps.length c2] 36)).alloc (.cells #[.string ⟨#[]⟩, .string ⟨#[]⟩, .slice none 0 0] 36)) := ((below_box _ _).alloc (by simp) _).alloc (by simp; omega) _
          generalize (((w.alloc (.cells #[.string (bt m.t), .string (bt m.s), .slice A m.ps.length c] 36)).alloc (.cells #[.string (bt n.t), .string (bt n.s), .slice A2 n.ps.length c2] 36)).alloc (.cells #[.string ⟨#[]⟩, .string ⟨#[]⟩, .slice none 0 0] 36)) = W at *
          obtain ⟨p0, p1, p2, pz, plt⟩ := mim_cells hP
          obtain ⟨n0, n1, n2, nz, nlt⟩ := mim_cells hN
          obtain ⟨r0, r1, r2, rz, rlt⟩ := mim_cells hR
          go_wp2_with fail
          refine (HAT.out _ hb).mono ?_
          rintro e w1 ⟨rfl, hbn⟩
          clear p0 p1 p2 pz plt n0 n1 n2 nz nlt r0 r1 r2 rz rlt
          have hP := (hbn.block _ (Array.getElem?_eq_some_iff.1 hP).1).trans hP
          have hN := (hbn.block _ (Array.getElem?_eq_some_iff.1 hN).1).trans hN
          have hR := (hbn.block _ (Array.getElem?_eq_some_iff.1 hR).1).trans hR
          have hb := hb.trans (hbn.mono hb.size)
          clear hbn
          obtain ⟨p0, p1, p2, pz, plt⟩ := mim_cells hP
          obtain ⟨n0, n1, n2, nz, nlt⟩ := mim_cells hN
          obtain ⟨r0, r1, r2, rz, rlt⟩ := mim_cells hR
          have hN9 := hN
          go_upto_region 6 with fail
          have hb0 := hb
          have HRL := Lib.hid rlt
          have hP : (w1.alloc (.cells #[.string (bt n.t), .string (bt n.s), .slice A2 n.ps.length c2] 36)).heap[w.heap.size]? = _ := (Below.heap_alloc _ _ _ (Array.getElem?_eq_some_iff.1 hP).1).trans hP
          have hN : (w1.alloc (.cells #[.string (bt n.t), .string (bt n.s), .slice A2 n.ps.length c2] 36)).heap[w.heap.size + 1]? = _ := (Below.heap_alloc _ _ _ (Array.getElem?_eq_some_iff.1 hN).1).trans hN
          have hR : (w1.alloc (.cells #[.string (bt n.t), .string (bt n.s), .slice A2 n.ps.length c2] 36)).heap[w.heap.size + 1 + 1]? = _ := (Below.heap_alloc _ _ _ (Array.getElem?_eq_some_iff.1 hR).1).trans hR
          have hQ : (w1.alloc (.cells #[.string (bt n.t), .string (bt n.s), .slice A2 n.ps.length c2] 36)).heap[w1.heap.size]? = some (mimO n A2 c2) := heap_alloc_new w1 _
          have hb := hb.alloc hb.size (.cells #[.string (bt n.t), .string (bt n.s), .slice A2 n.ps.length c2] 36)
          go_upto_region 7 with fail
          clear p0 p1 p2 pz plt n0 n1 n2 nz nlt r0 r1 r2 rz rlt
          generalize hgq : w1.heap.size = gq at *
          generalize w1.alloc (.cells #[.string (bt n.t), .string (bt n.s), .slice A2 n.ps.length c2] 36) = w2 at *
          obtain ⟨q0, q1, q2, qz, qlt⟩ := mim_cells hQ
          obtain ⟨p0, p1, p2, pz, plt⟩ := mim_cells hP
          obtain ⟨n0, n1, n2, nz, nlt⟩ := mim_cells hN
          obtain ⟨r0, r1, r2, rz, rlt⟩ := mim_cells hR
          have HW2 := Lib.hid hb
          have hz2 := hb.size
          have HPN := Lib.hid (HA2.out.on hb)
          have HQ2 := Lib.hid hQ
          have HP2 := Lib.hid hP
          have HN2 := Lib.hid hN
          have HR2 := Lib.hid hR
          have K1 := Lib.hid (World.ownsRow_lit (base := w.heap.size) (size := 2) (e := 96) w2 #[] 0 hz2 (by decide) rfl)
          have HM1 := Lib.hid (show 0 + n.ps.length ≤ maxLen from by unfold maxLen; omega)
          have HM2 := Lib.hid (show (0 + n.ps.length) * 32 ≤ 140737488355328 from by omega)
          have HM3 := Lib.hid (show 0 + n.ps.length + 1 ≤ maxLen from by unfold maxLen; omega)
          have HM4 := Lib.hid (show (0 + n.ps.length + 1) * 32 ≤ 140737488355328 from by omega)
          have K2 := Lib.hid (show ∀ u ∈ parCells (charL, set), u.oneCell' = true from by intro u hu; simp [parCells] at hu; rcases hu with rfl | rfl <;> rfl)
          have HPA := Lib.hid (HPN.out.on (below_box w2 (.cells #[] 96)))
          clear hP hN hR hQ hb hN9
          go_upto_region 8 with (first
            | (at_builtin; refine wpList_append_pars _ rfl (.tmp 36) (.tmp 38) 34 rfl w.heap.size 96 i0 Tryz.underlying34 HI.out HZ0.out HZ1.out HZ2.out (.slice (some ⟨w2.heap.size, 0, none⟩) 0 0) 0 [] rfl K1.out A2 c2 n.ps rfl HPA.out HM1.out HM2.out (by simp; omega) ?_; intro v8 w8 h8 hg8 hat8; have HO8 := Lib.hid h8; have HG8 := Lib.hid hg8; have HAT8 := Lib.hid hat8; have hz8 := hg8.size; clear h8 hg8 hat8)
            | (at_builtin; refine wpList_append_lies _ rfl (.tmp 39) (.tmp 42) 34 rfl w.heap.size 96 i0 (.agg #[.string ByteArray.empty, .string ByteArray.empty]) 2 32 Tryz.underlying34 HI.out HZ0.out HZ1.out HZ2.out rfl (by decide) v8 (0 + n.ps.length) _ rfl (HO8.out.alloc (.cells #[.string (bt charL), .string S] 96)) ⟨w8.heap.size, 0, none⟩ 1 1 (parCells (charL, set)) rfl rfl (by have := par_cells_new w8 (charL, set) 96; rw [hS] at this; exact this) K2.out (by decide) HM3.out HM4.out (by simp at hz8; simp; omega) _ rfl ?_; intro g3 c3 w9 h9 hg9 hat9 hlt9; (rw [Nat.zero_add] at h9); have HO9 := Lib.hid h9; have HAT9H := Lib.hid hat9; have HB8 := Lib.hid (((HW2.out.alloc hz2 (.cells #[] 96)).grown HG8.out (by simp; omega) (fun j hj => (K1.out.lt j hj).1))); have HB9 := Lib.hid ((HB8.out.alloc HB8.out.size (.cells #[.string (bt charL), .string S] 96)).grown hg9 (by simp at hz8; simp; omega) (fun j hj => (HO8.out.lt j hj).1)); have hkeep : ∀ b, b < w2.heap.size → w9.heap[b]? = w2.heap[b]? := (fun b hb => (hg9.block b (by simp at hz8; simp; omega) (fun e => by rcases HAT8.out with h | h <;> (rw [h] at e; simp [Value.ownBlock] at e; omega))).trans ((Below.heap_alloc w8 _ b (by simp at hz8; omega)).trans ((HG8.out.block b (by simp; omega) (by simp [Value.ownBlock]; omega)).trans (Below.heap_alloc w2 _ b hb)))); have HKEEP := Lib.hid hkeep; have HQ9 := (hkeep _ qlt).trans HQ2.out; have q2 : w9.cell? ⟨gq, 2, none⟩ = some (.slice A2 n.ps.length c2) := (mim_cells HQ9).2.2.1; have qz : ∀ i, w9.frozen? ⟨gq, i, none⟩ = false := (mim_cells HQ9).2.2.2.1; have HQ9H := Lib.hid HQ9; clear hkeep HQ9 h9 hg9 hat9 q0 q1))
          have HQS := mim_set2 HQ9H.out g3 c3 charL set
          have hbS : Below w.heap.size w (w9.setCell ⟨gq, 2, none⟩ (.slice (some ⟨g3, 0, none⟩) (n.ps.length + 1) c3)) := HB9.out.setCell (show w.heap.size ≤ gq by have := HRL.out; omega) _
          have hPS : (w9.setCell ⟨gq, 2, none⟩ (.slice (some ⟨g3, 0, none⟩) (n.ps.length + 1) c3)).heap[w.heap.size]? = some (mimO m A c) := (Below.heap_setCell _ _ _ _ (by show w.heap.size ≠ gq; have := HRL.out; omega)).trans ((HKEEP.out _ (by have := HRL.out; omega)).trans HP2.out)
          have hNS : (w9.setCell ⟨gq, 2, none⟩ (.slice (some ⟨g3, 0, none⟩) (n.ps.length + 1) c3)).heap[w.heap.size + 1]? = some (mimO n A2 c2) := (Below.heap_setCell _ _ _ _ (by show w.heap.size + 1 ≠ gq; have := HRL.out; omega)).trans ((HKEEP.out _ (by have := HRL.out; omega)).trans HN2.out)
          have hRS : (w9.setCell ⟨gq, 2, none⟩ (.slice (some ⟨g3, 0, none⟩) (n.ps.length + 1) c3)).heap[w.heap.size + 1 + 1]? = some (mimO noM none 0) := (Below.heap_setCell _ _ _ _ (by show w.heap.size + 1 + 1 ≠ gq; have := HRL.out; omega)).trans ((HKEEP.out _ (by have := HRL.out; omega)).trans HR2.out)
          have hge : w.heap.size + 1 + 1 < g3 ∧ g3 ≠ gq := by
            have := HRL.out
            rcases HAT9H.out with h | h
            · rcases HAT8.out with h8 | h8
              · rw [h] at h8; simp [Value.ownBlock] at h8; omega
              · rw [h] at h8; simp at h8; omega
            · simp at h hz8; omega
          have hAW : ParsAt (w9.setCell ⟨gq, 2, none⟩ (.slice (some ⟨g3, 0, none⟩) (n.ps.length + 1) c3)) (w9.setCell ⟨gq, 2, none⟩ (.slice (some ⟨g3, 0, none⟩) (n.ps.length + 1) c3)).heap.size (some ⟨g3, 0, none⟩) (withM n charL set).ps := (with_stands HO9.out).set (fun g hg => by injection hg with hg; injection hg with e1 _ _; show gq ≠ g; omega) _ |>.more (by simp)
          clear q2 qz
          clear p0 p1 p2 pz plt n0 n1 n2 nz nlt r0 r1 r2 rz rlt
          generalize w9.setCell ⟨gq, 2, none⟩ (.slice (some ⟨g3, 0, none⟩) (n.ps.length + 1) c3) = v9 at *
          have hP := hPS
          have hN := hNS
          have hR := hRS
          have hb := hbS
          obtain ⟨p0, p1, p2, pz, plt⟩ := mim_cells hP
          obtain ⟨n0, n1, n2, nz, nlt⟩ := mim_cells hN
          obtain ⟨r0, r1, r2, rz, rlt⟩ := mim_cells hR
          obtain ⟨q0, q1, q2, qz, qlt9⟩ := mim_cells HQS
          have HGD := Lib.hid (rGood_par (withM n charL set) (some ⟨g3, 0, none⟩) c3 v9 HSW.out hAW)
          unfold mimV at HGD
          go_wp2_with fail
          refine HGD.out.mono ?_
          rintro e w10 ⟨rfl, hbn⟩
          have hQ10 := (hbn.block _ qlt9).trans HQS
          have hAW10 := hAW.on hbn
          clear q0 q1 q2 qz qlt9
          clear p0 p1 p2 pz plt n0 n1 n2 nz nlt r0 r1 r2 rz rlt
          have hP := (hbn.block _ (Array.getElem?_eq_some_iff.1 hP).1).trans hP
          have hN := (hbn.block _ (Array.getElem?_eq_some_iff.1 hN).1).trans hN
          have hR := (hbn.block _ (Array.getElem?_eq_some_iff.1 hR).1).trans hR
          have hb := hb.trans (hbn.mono hb.size)
          clear hbn
          obtain ⟨p0, p1, p2, pz, plt⟩ := mim_cells hP
          obtain ⟨n0, n1, n2, nz, nlt⟩ := mim_cells hN
          obtain ⟨r0, r1, r2, rz, rlt⟩ := mim_cells hR
          obtain ⟨q0, q1, q2, qz, qlt9⟩ := mim_cells hQ10
          rw [hg]
          have HB := Lib.hid hb
          have HAW := Lib.hid hAW10
          go_wp2_with fail
          refine bodyPost_ret (v := .tuple #[mimV (withM n charL set) (some ⟨g3, 0, none⟩) c3, .string S]) ?_ rfl ?_
          · simp [results, Tryz.results63, go_sem, r0, r1, r2, mimV]
          · refine ⟨(some ⟨g3, 0, none⟩), c3, by rw [HV.out, ← hS], ?_, ?_, .inr (fun g hg => by injection hg with hg; injection hg with e1 _ _; omega)⟩
            · rw [HV.out]
              exact (((HAW.out.set (fun g hg => by injection hg with hg; injection hg with e1 _ _; show w.heap.size + 1 + 1 ≠ g; omega) _).set (fun g hg => by injection hg with hg; injection hg with e1 _ _; show w.heap.size + 1 + 1 ≠ g; omega) _).set (fun g hg => by injection hg with hg; injection hg with e1 _ _; show w.heap.size + 1 + 1 ≠ g; omega) _).more (by simp)
            · exact ((HB.out.setCell (show w.heap.size ≤ w.heap.size + 1 + 1 by omega) _).setCell (show w.heap.size ≤ w.heap.size + 1 + 1 by omega) _).setCell (show w.heap.size ≤ w.heap.size + 1 + 1 by omega) _
  · have hqe := hq.trans (beq_eq_false_iff_ne.2 he)
    by_cases hat : 0 ≤ atL n.ps charL
    · have hk : (atL n.ps charL).toNat < n.ps.length := by omega
      have HV : Hid (R = (n, (n.ps[(atL n.ps charL).toNat]).2)) := Lib.hid (by rw [HV.out, if_pos he]; unfold setOf; rw [dif_pos hat])
      obtain ⟨k, hk2⟩ : ∃ k : Nat, atL n.ps charL = k := ⟨(atL n.ps charL).toNat, by omega⟩
      rw [hk2] at HAT hat hge1
      have hk3 : (atL n.ps charL).toNat = k := by omega
      simp only [hk3] at HV hk
      rcases HA2.out with hnil | ⟨ga, rfl, hga, hcs⟩
      · rw [hnil] at hk; simp at hk
      obtain ⟨d0, d1⟩ := hcs k hk
      have hga2 : w.heap.size + 1 + 1 ≠ ga := by omega
      clear hq hcs hk2
      generalize n.ps[k] = pk at *
      obtain ⟨D, hD⟩ : ∃ D, bt pk.2 = D := ⟨_, rfl⟩
      rw [hD] at d1
      go_enter Tryz.func63, Tryz.ntmps63
      go_upto_region 1 with fail
      have hP : (((w.alloc (.cells #[.string (bt m.t), .string (bt m.s), .slice A m.ps.length c] 36)).alloc (.cells #[.string (bt n.t), .string (bt n.s), .slice (some ⟨ga, 0, none⟩) n.ps.length c2] 36)).alloc (.cells #[.string ⟨#[]⟩, .string ⟨#[]⟩, .slice none 0 0] 36)).heap[w.heap.size]? = some (mimO m A c) := (Below.heap_alloc _ _ _ (by simp; omega)).trans ((Below.heap_alloc _ _ _ (by simp)).trans (heap_alloc_new w _))
      have hN : (((w.alloc (.cells #[.string (bt m.t), .string (bt m.s), .slice A m.ps.length c] 36)).alloc (.cells #[.string (bt n.t), .string (bt n.s), .slice (some ⟨ga, 0, none⟩) n.ps.length c2] 36)).alloc (.cells #[.string ⟨#[]⟩, .string ⟨#[]⟩, .slice none 0 0] 36)).heap[w.heap.size + 1]? = some (mimO n (some ⟨ga, 0, none⟩) c2) := (Below.heap_alloc _ _ _ (by simp)).trans (by
        rw [show w.heap.size + 1 = (w.alloc (.cells #[.string (bt m.t), .string (bt m.s), .slice A m.ps.length c] 36)).heap.size by simp]
        exact heap_alloc_new _ _)
      have hR : (((w.alloc (.cells #[.string (bt m.t), .string (bt m.s), .slice A m.ps.length c] 36)).alloc (.cells #[.string (bt n.t), .string (bt n.s), .slice (some ⟨ga, 0, none⟩) n.ps.length c2] 36)).alloc (.cells #[.string ⟨#[]⟩, .string ⟨#[]⟩, .slice none 0 0] 36)).heap[w.heap.size + 1 + 1]? = some (mimO noM none 0) := by
        rw [show w.heap.size + 1 + 1 = ((w.alloc (.cells #[.string (bt m.t), .string (bt m.s), .slice A m.ps.length c] 36)).alloc (.cells #[.string (bt n.t), .string (bt n.s), .slice (some ⟨ga, 0, none⟩) n.ps.length c2] 36)).heap.size by simp]
        exact heap_alloc_new _ _
      have hb : Below w.heap.size w (((w.alloc (.cells #[.string (bt m.t), .string (bt m.s), .slice A m.ps.length c] 36)).alloc (.cells #[.string (bt n.t), .string (bt n.s), .slice (some ⟨ga, 0, none⟩) n.ps.length c2] 36)).alloc (.cells #[.string ⟨#[]⟩, .string ⟨#[]⟩, .slice none 0 0] 36)) := ((below_box _ _).alloc (by simp) _).alloc (by simp; omega) _
      generalize (((w.alloc (.cells #[.string (bt m.t), .string (bt m.s), .slice A m.ps.length c] 36)).alloc (.cells #[.string (bt n.t), .string (bt n.s), .slice (some ⟨ga, 0, none⟩) n.ps.length c2] 36)).alloc (.cells #[.string ⟨#[]⟩, .string ⟨#[]⟩, .slice none 0 0] 36)) = W at *
      obtain ⟨p0, p1, p2, pz, plt⟩ := mim_cells hP
      obtain ⟨n0, n1, n2, nz, nlt⟩ := mim_cells hN
      obtain ⟨r0, r1, r2, rz, rlt⟩ := mim_cells hR
      go_wp2_with fail
      refine (HAT.out _ hb).mono ?_
      rintro e w1 ⟨rfl, hbn⟩
      clear p0 p1 p2 pz plt n0 n1 n2 nz nlt r0 r1 r2 rz rlt
      have hP := (hbn.block _ (Array.getElem?_eq_some_iff.1 hP).1).trans hP
      have hN := (hbn.block _ (Array.getElem?_eq_some_iff.1 hN).1).trans hN
      have hR := (hbn.block _ (Array.getElem?_eq_some_iff.1 hR).1).trans hR
      have hb := hb.trans (hbn.mono hb.size)
      clear hbn
      obtain ⟨p0, p1, p2, pz, plt⟩ := mim_cells hP
      obtain ⟨n0, n1, n2, nz, nlt⟩ := mim_cells hN
      obtain ⟨r0, r1, r2, rz, rlt⟩ := mim_cells hR
      have HB := Lib.hid hb
      have HN3 := Lib.hid (HA2.out.on hb)
      have e0 : w1.cell? ⟨ga, k * 2 + 1, none⟩ = some (.string D) := (cell_below hb hga).trans d1
      clear d0 d1
      go_upto_region 5 with fail
      refine wp_region_N 9 (fun w' => w'.cell? ⟨w.heap.size + 1, 0, none⟩ = some (.string (bt n.t)) ∧ w'.cell? ⟨w.heap.size + 1, 1, none⟩ = some (.string (bt n.s)) ∧ w'.cell? ⟨w.heap.size + 1, 2, none⟩ = some (.slice (some ⟨ga, 0, none⟩) n.ps.length c2) ∧ w'.cell? ⟨ga, k * 2 + 1, none⟩ = some (.string D)) (by kernel_rfl) (by kernel_rfl) ⟨n0, n1, n2, e0⟩ ?_
      (refine NJ.take (i := 0) (v := ?_) rfl rfl (by kernel_rfl) (by kernel_rfl) (by kernel_rfl) (by kernel_rfl) (fun _ _ _ h => h) (Or.inl ⟨by rfl, ?_⟩) ?_; rotate_left; (focus (intro wS hSw; (try dsimp only at hSw); go_simp; first | done | with_reducible rfl)); (try simp only [Act.put, List.getElem_toArray, List.getElem_cons_zero, List.getElem_cons_succ, List.setIfInBounds_toArray, List.set_cons_zero, List.set_cons_succ]))
      (refine NJ.take (i := 1) (v := ?_) rfl rfl (by kernel_rfl) (by kernel_rfl) (by kernel_rfl) (by kernel_rfl) (fun _ _ _ h => h) (Or.inl ⟨by rfl, ?_⟩) ?_; rotate_left; (focus (intro wS hSw; (try dsimp only at hSw); go_simp; first | done | with_reducible rfl)); (try simp only [Act.put, List.getElem_toArray, List.getElem_cons_zero, List.getElem_cons_succ, List.setIfInBounds_toArray, List.set_cons_zero, List.set_cons_succ]))
      (refine NJ.take (i := 2) (v := ?_) rfl rfl (by kernel_rfl) (by kernel_rfl) (by kernel_rfl) (by kernel_rfl) (fun _ _ _ h => h) (Or.inl ⟨by rfl, ?_⟩) ?_; rotate_left; (focus (intro wS hSw; (try dsimp only at hSw); go_simp; first | done | with_reducible rfl)); (try simp only [Act.put, List.getElem_toArray, List.getElem_cons_zero, List.getElem_cons_succ, List.setIfInBounds_toArray, List.set_cons_zero, List.set_cons_succ]))
      (refine NJ.take (i := 3) (v := ?_) rfl rfl (by kernel_rfl) (by kernel_rfl) (by kernel_rfl) (by kernel_rfl) (fun _ _ _ h => h) (Or.inl ⟨by rfl, ?_⟩) ?_; rotate_left; (focus (intro wS hSw; (try dsimp only at hSw); go_simp; first | done | with_reducible rfl)); (try simp only [Act.put, List.getElem_toArray, List.getElem_cons_zero, List.getElem_cons_succ, List.setIfInBounds_toArray, List.set_cons_zero, List.set_cons_succ]))
      (refine NJ.take (i := 4) (v := ?_) rfl rfl (by kernel_rfl) (by kernel_rfl) (by kernel_rfl) (by kernel_rfl) (fun _ _ _ h => h) (Or.inl ⟨by rfl, ?_⟩) ?_; rotate_left; (focus (intro wS hSw; (try dsimp only at hSw); go_simp; first | done | with_reducible rfl)); (try simp only [Act.put, List.getElem_toArray, List.getElem_cons_zero, List.getElem_cons_succ, List.setIfInBounds_toArray, List.set_cons_zero, List.set_cons_succ]))
      (refine NJ.take (i := 5) (v := ?_) rfl rfl (by kernel_rfl) (by kernel_rfl) (by kernel_rfl) (by kernel_rfl) (fun _ _ _ h => h) (Or.inl ⟨by rfl, ?_⟩) ?_; rotate_left; (focus (intro wS hSw; (try dsimp only at hSw); go_simp; first | done | with_reducible rfl)); (try simp only [Act.put, List.getElem_toArray, List.getElem_cons_zero, List.getElem_cons_succ, List.setIfInBounds_toArray, List.set_cons_zero, List.set_cons_succ]))
      (refine NJ.take (i := 6) (v := ?_) rfl rfl (by kernel_rfl) (by kernel_rfl) (by kernel_rfl) (by kernel_rfl) (fun _ _ _ h => h) (Or.inl ⟨by rfl, ?_⟩) ?_; rotate_left; (focus (intro wS hSw; (try dsimp only at hSw); go_simp; first | done | with_reducible rfl)); (try simp only [Act.put, List.getElem_toArray, List.getElem_cons_zero, List.getElem_cons_succ, List.setIfInBounds_toArray, List.set_cons_zero, List.set_cons_succ]))
      (refine NJ.step (i := 7) rfl rfl (by kernel_rfl) (fun hSat K hK => ?_); go_simp; refine hK.out _ _ ?_ ?_; (focus (first | exact hSat | go_keep)); clear hK hSat K; (try simp only [Act.put, List.getElem_toArray, List.getElem_cons_zero, List.getElem_cons_succ, List.setIfInBounds_toArray, List.set_cons_zero, List.set_cons_succ]))
      (refine NJ.take (i := 8) (v := ?_) rfl rfl (by kernel_rfl) (by kernel_rfl) (by kernel_rfl) (by kernel_rfl) (fun _ _ _ h => h) (Or.inl ⟨by rfl, ?_⟩) ?_; rotate_left; (focus (intro wS hSw; (try dsimp only at hSw); go_simp; first | done | with_reducible rfl)); (try simp only [Act.put, List.getElem_toArray, List.getElem_cons_zero, List.getElem_cons_succ, List.setIfInBounds_toArray, List.set_cons_zero, List.set_cons_succ]))
      refine NJ.done (by kernel_rfl) (fun hSat => ?_)
      clear hSat
      go_wp2_with fail
      refine bodyPost_ret (v := .tuple #[mimV n (some ⟨ga, 0, none⟩) c2, .string D]) ?_ rfl ?_
      · simp [results, Tryz.results63, go_sem, r0, r1, r2, mimV]
      · refine ⟨(some ⟨ga, 0, none⟩), c2, by rw [HV.out, ← hD], ?_, ?_, .inl ⟨rfl, by rw [HV.out]⟩⟩
        · rw [HV.out]
          exact (((HN3.out.set3 HNE.out _).set3 HNE.out _).set3 HNE.out _).more (by simp)
        · exact (((HB.out.setCell (show w.heap.size ≤ w.heap.size + 1 + 1 by omega) _).setCell (show w.heap.size ≤ w.heap.size + 1 + 1 by omega) _).setCell (show w.heap.size ≤ w.heap.size + 1 + 1 by omega) _).drew
    · have hat2 : atL n.ps charL < 0 := by omega
      have HV : Hid (R = (n, [])) := Lib.hid (by rw [HV.out, if_pos he, setOf_none hat])
      clear hq
      go_enter Tryz.func63, Tryz.ntmps63
      go_upto_region 1 with fail
      have hP : (((w.alloc (.cells #[.string (bt m.t), .string (bt m.s), .slice A m.ps.length c] 36)).alloc (.cells #[.string (bt n.t), .string (bt n.s), .slice A2 n.ps.length c2] 36)).alloc (.cells #[.string ⟨#[]⟩, .string ⟨#[]⟩, .slice none 0 0] 36)).heap[w.heap.size]? = some (mimO m A c) := (Below.heap_alloc _ _ _ (by simp; omega)).trans ((Below.heap_alloc _ _ _ (by simp)).trans (heap_alloc_new w _))
      have hN : (((w.alloc (.cells #[.string (bt m.t), .string (bt m.s), .slice A m.ps.length c] 36)).alloc (.cells #[.string (bt n.t), .string (bt n.s), .slice A2 n.ps.length c2] 36)).alloc (.cells #[.string ⟨#[]⟩, .string ⟨#[]⟩, .slice none 0 0] 36)).heap[w.heap.size + 1]? = some (mimO n A2 c2) := (Below.heap_alloc _ _ _ (by simp)).trans (by
        rw [show w.heap.size + 1 = (w.alloc (.cells #[.string (bt m.t), .string (bt m.s), .slice A m.ps.length c] 36)).heap.size by simp]
        exact heap_alloc_new _ _)
      have hR : (((w.alloc (.cells #[.string (bt m.t), .string (bt m.s), .slice A m.ps.length c] 36)).alloc (.cells #[.string (bt n.t), .string (bt n.s), .slice A2 n.ps.length c2] 36)).alloc (.cells #[.string ⟨#[]⟩, .string ⟨#[]⟩, .slice none 0 0] 36)).heap[w.heap.size + 1 + 1]? = some (mimO noM none 0) := by
        rw [show w.heap.size + 1 + 1 = ((w.alloc (.cells #[.string (bt m.t), .string (bt m.s), .slice A m.ps.length c] 36)).alloc (.cells #[.string (bt n.t), .string (bt n.s), .slice A2 n.ps.length c2] 36)).heap.size by simp]
        exact heap_alloc_new _ _
      have hb : Below w.heap.size w (((w.alloc (.cells #[.string (bt m.t), .string (bt m.s), .slice A m.ps.length c] 36)).alloc (.cells #[.string (bt n.t), .string (bt n.s), .slice A2 n.ps.length c2] 36)).alloc (.cells #[.string ⟨#[]⟩, .string ⟨#[]⟩, .slice none 0 0] 36)) := ((below_box _ _).alloc (by simp) _).alloc (by simp; omega) _
      generalize (((w.alloc (.cells #[.string (bt m.t), .string (bt m.s), .slice A m.ps.length c] 36)).alloc (.cells #[.string (bt n.t), .string (bt n.s), .slice A2 n.ps.length c2] 36)).alloc (.cells #[.string ⟨#[]⟩, .string ⟨#[]⟩, .slice none 0 0] 36)) = W at *
      obtain ⟨p0, p1, p2, pz, plt⟩ := mim_cells hP
      obtain ⟨n0, n1, n2, nz, nlt⟩ := mim_cells hN
      obtain ⟨r0, r1, r2, rz, rlt⟩ := mim_cells hR
      go_wp2_with fail
      refine (HAT.out _ hb).mono ?_
      rintro e w1 ⟨rfl, hbn⟩
      clear p0 p1 p2 pz plt n0 n1 n2 nz nlt r0 r1 r2 rz rlt
      have hP := (hbn.block _ (Array.getElem?_eq_some_iff.1 hP).1).trans hP
      have hN := (hbn.block _ (Array.getElem?_eq_some_iff.1 hN).1).trans hN
      have hR := (hbn.block _ (Array.getElem?_eq_some_iff.1 hR).1).trans hR
      have hb := hb.trans (hbn.mono hb.size)
      clear hbn
      obtain ⟨p0, p1, p2, pz, plt⟩ := mim_cells hP
      obtain ⟨n0, n1, n2, nz, nlt⟩ := mim_cells hN
      obtain ⟨r0, r1, r2, rz, rlt⟩ := mim_cells hR
      have HB := Lib.hid hb
      have HN3 := Lib.hid (HA2.out.on hb)
      go_wp2_with fail
      refine bodyPost_ret (v := .tuple #[mimV n A2 c2, .string ⟨#[]⟩]) ?_ rfl ?_
      · simp [results, Tryz.results63, go_sem, r0, r1, r2, mimV]
      · refine ⟨A2, c2, by rw [HV.out]; rfl, ?_, ?_, .inl ⟨rfl, by rw [HV.out]⟩⟩
        · rw [HV.out]
          exact (((HN3.out.set3 HNE.out _).set3 HNE.out _).set3 HNE.out _).more (by simp)
        · exact ((HB.out.setCell (show w.heap.size ≤ w.heap.size + 1 + 1 by omega) _).setCell (show w.heap.size ≤ w.heap.size + 1 + 1 by omega) _).setCell (show w.heap.size ≤ w.heap.size + 1 + 1 by omega) _
end Go.Proofs.YtcbhkcdphbffpaaGreatDoor
