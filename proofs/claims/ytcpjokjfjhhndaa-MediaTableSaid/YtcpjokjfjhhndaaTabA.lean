/-
  Walks: the reference's tables of patterns.
-/
import Derived.Test.YtcpjokjfjhhndaaTabPlain
import Derived.Test.YtcpjokjfjhhndaaMaskFirst
import Derived.Test.YtcpjokjfjhhndaaQuietIn
import Derived.Deep.DeepCutAuto
import Derived.Deep.RegionWith
import Derived.Laws.StructEq
namespace Go.Proofs.Ytcpjokjfjhhndaa
open Go.RowKit
set_option linter.unusedSimpArgs false
set_option linter.unusedVariables false

/-- Sizes of a full pattern. -/
theorem full_sizes {p : Pat} (h : p.full = true) : p.b.size ≤ 64 ∧ 1 ≤ p.b.size ∧ p.m.size = p.b.size ∧ p.k.size = 0 := by
  have hg := full_good h
  unfold goodM at hg
  rw [decide_eq_true_eq] at hg
  refine ⟨by omega, by omega, by omega, ?_⟩
  rw [Lib.size_eq, full_k h]; rfl

theorem full_ok {p : Pat} (h : p.full = true) : p.ok := by
  obtain ⟨h1, h2, h3, h4⟩ := full_sizes h
  unfold Pat.ok maxLen
  omega

theorem ahead_full {p : Pat} (h : p.full = true) (s : ByteArray) : aheadN s p.k = 0 := by
  unfold aheadN
  rw [full_k h]
  exact spanN_none _ _ (fun x => rfl)

theorem rest_full {p : Pat} (h : p.full = true) (s : ByteArray) : restM s p.k = s := by
  unfold restM
  rw [ahead_full h, extract_all]

def Fulls (ps : List Pat) : Prop := ∀ i (h : i < ps.length), ps[i].full = true

theorem Fulls.oks {ps : List Pat} (h : Fulls ps) : ∀ i (h : i < ps.length), ps[i].ok := fun i hi => full_ok (h i hi)

theorem rType_any (s : ByteArray) (ps : List Pat) (A : Option Addr) (c : Nat) (w : World) (hs : s.size ≤ maxLen) (hps : ∀ i (h : i < ps.length), ps[i].ok) (hn : ps.length ≤ 1000) (hA : PatsAt w w.heap.size A ps) :
    Calls Try.prog 40 #[.string s, .slice A ps.length c] w fun e w' => e = .returned (.string (typeP s ps)) ∧ Below w.heap.size w w' := by
  have HP := Lib.hid hps; clear hps
  have HA := Lib.hid hA; clear hA
  by_cases h : findN s ps < ps.length
  · have HT := Lib.hid (typeP_at h)
    have HF : Hid (findP s ps = (findN s ps : Int)) := Lib.hid (if_pos h)
    generalize findN s ps = i at *
    go_enter Try.func40, Try.ntmps40
    go_wp2_with fail
    refine (rFirst_any s ps A c _ hs HP.out hn HA.out).mono ?_
    rintro e w1 ⟨rfl, hb1⟩
    rw [HF.out]
    rcases HA.out.below hb1 with hnil | ⟨g, rfl, hg, hcs⟩
    · rw [hnil] at h; simp at h
    obtain ⟨c0, c1, c2, c3⟩ := hcs i h
    clear hcs c0 c1 c2
    generalize ps[i] = p at *
    go_wp2_with fail
    go_ret
    exact ⟨ret_string HT.out.symm, hb1⟩
  · have HT := Lib.hid (typeP_none h)
    have HF : Hid (findP s ps = -1) := Lib.hid (if_neg h)
    go_enter Try.func40, Try.ntmps40
    go_wp2_with fail
    refine (rFirst_any s ps A c _ hs HP.out hn HA.out).mono ?_
    rintro e w1 ⟨rfl, hb1⟩
    rw [HF.out]
    go_wp2_with fail
    go_ret
    exact ⟨ret_string HT.out.symm, hb1⟩

theorem rMost_any (ps : List Pat) (A : Option Addr) (c : Nat) (w : World) (hf : Fulls ps) (hn : ps.length ≤ 1000) (hA : PatsAt w w.heap.size A ps) :
    Calls Try.prog 37 #[.slice A ps.length c] w fun e w' => e = .returned (.int .i64 (mostN ps 0)) ∧ Below w.heap.size w w' := by
  have HF := Lib.hid hf; clear hf
  have HA := Lib.hid hA; clear hA
  go_enter Try.func37, Try.ntmps37
  go_wp2_with fail
  go_loopw [3, 4] (fun l i wr => ∃ n : Nat, n ≤ ps.length ∧ i = .int .i64 n ∧ l = .int .i64 (mostN (ps.take n) 0) ∧ Below w.heap.size w wr) (fun _ i _ => ps.length - (intOf i).toNat)
  case atStart => exact ⟨0, Nat.zero_le _, rfl, rfl, Below.refl _ _⟩
  case round =>
    obtain ⟨n, hn, rfl, rfl, hb⟩ := hrel
    by_cases hlt : n < ps.length
    · have hz := hb.size
      have hA2 := HA.out.below hb
      rcases hA2 with hnil | ⟨g, rfl, hg, hcs⟩
      · rw [hnil] at hlt; simp at hlt
      obtain ⟨c0, c1, c2, c3⟩ := hcs n hlt
      have HS := Lib.hid (mostN_take ps n hlt 0)
      have hsz := full_sizes (HF.out n hlt)
      have hsz1 := hsz.1
      have HB := Lib.hid hb
      clear hcs c1 c2 c3 hsz hb
      generalize ps[n] = p at *
      generalize mostN (ps.take n) 0 = m at *
      go_wp2_with fail
      all_goals go_roundw
      all_goals first
        | exact ⟨n + 1, by omega, by go_num, by rw [HS.out]; congr 1; omega, HB.out⟩
        | (simp [intOf]; omega)
    · obtain rfl : n = ps.length := by omega
      rw [List.take_length]
      have HB := Lib.hid hb; clear hb
      go_wp2_with fail
      go_ret
      exact ⟨rfl, HB.out⟩

theorem rSame_any (ps : List Pat) (A A2 : Option Addr) (c c2 : Nat) (w : World) (hn : ps.length ≤ 1000) (hA : PatsAt w w.heap.size A ps) (hA2 : PatsAt w w.heap.size A2 ps) :
    Calls Try.prog 34 #[.slice A ps.length c, .slice A2 ps.length c2] w fun e w' => e = .returned (.bool true) ∧ Below w.heap.size w w' := by
  have HA := Lib.hid hA; clear hA
  have HA2 := Lib.hid hA2; clear hA2
  go_enter Try.func34, Try.ntmps34
  go_wp2_with fail
  go_loopw [5] (fun i wr => ∃ n : Nat, n ≤ ps.length ∧ i = .int .i64 n ∧ Below w.heap.size w wr) (fun i _ => ps.length - (intOf i).toNat)
  case atStart => exact ⟨0, Nat.zero_le _, rfl, Below.refl _ _⟩
  case round =>
    obtain ⟨n, hn, rfl, hb⟩ := hrel
    by_cases hlt : n < ps.length
    · have hz := hb.size
      rcases HA.out.below hb with hnil | ⟨g, rfl, hg, hcs⟩
      · rw [hnil] at hlt; simp at hlt
      rcases HA2.out.below hb with hnil | ⟨g2, rfl, hg2, hcs2⟩
      · rw [hnil] at hlt; simp at hlt
      obtain ⟨c0, c1, c2, c3⟩ := hcs n hlt
      obtain ⟨d0, d1, d2, d3⟩ := hcs2 n hlt
      have HB := Lib.hid hb
      clear hcs hcs2 hb
      generalize ps[n] = p at *
      go_upto_region 6 with fail
      go_cut [25] (fun s25 wx => s25 = .bool false ∧ Below wr.heap.size wr wx)
      case first =>
        have hx := @InB.cells wr
        have z1 : g < wr.heap.size := by omega
        have z2 : g2 < wr.heap.size := by omega
        refine wp_region_inb (by kernel_rfl) (by kernel_rfl) ?_; (repeat (first | go_big_quiet_skip | (go_big_quiet_want; go_big_quiet_op; first | go_big_quiet_on | (apply Exists.intro; refine ⟨fun x => ?_, ?_⟩; (· (fail)); go_big_quiet_on)))); refine wpQuiet_nil ?_; intro _ hw'; obtain ⟨⟨wq, hbq⟩, rfl⟩ := hw'
        go_wp2_with fail
        go_meet
        exact ⟨rfl, hbq⟩
      obtain ⟨rfl, hb2⟩ := hcut
      obtain ⟨W3, rfl⟩ : ∃ W3 : World, W3 = wc := ⟨_, rfl⟩
      have HB2 := Lib.hid hb2
      clear hb2 c0 c1 c2 c3 d0 d1 d2 d3
      go_wp2_with fail
      go_roundw
      case rel => exact ⟨n + 1, by omega, by go_num, HB.out.trans (HB2.out.mono HB.out.size)⟩
      case measure => simp [intOf]; omega
    · obtain rfl : n = ps.length := by omega
      have HB := Lib.hid hb; clear hb
      go_wp2_with fail
      go_ret
      exact ⟨rfl, HB.out⟩

/-- A mask all of whose bits count, but those of bytes from one place up to another one. -/
def holedL (n f t : Nat) : List UInt8 := (List.range n).map fun i => if f ≤ i ∧ i < t then 0 else 255

def exactP (b t : ByteArray) (f u : Nat) : Pat := ⟨b, ⟨(holedL b.size f u).toArray⟩, ⟨#[]⟩, t⟩

theorem infoByteT : (Try.prog.info? 5).map (fun i => (i.zero, i.size, i.bytes)) = some (some (.int .u8 0), 1, 1) := by kernel_rfl

/-- Bytes as values. -/
def rowV (l : List UInt8) : List Value := l.map fun x => Value.int .u8 (x.toNat : Int)

theorem rowV_back {P : Program} {w : World} {base : Nat} {e : TypeId} {v : Value} {n : Nat} (l : List UInt8) (h : w.ownsRow base e 1 v n (rowV l)) (hn : n = l.length) (hv : v ≠ .slice none 0 0) (src dst : TypeId)
    (hs : P.underlying src = some (.slice e)) (he : P.underlying e = some (.int .u8)) (hd : P.underlying dst = some .string) :
    (convert src dst v).run P w = .ok (.string ⟨l.toArray⟩) w := by
  subst hn
  rcases h.2 with ⟨h2, _⟩ | ⟨g, cap, cur, rfl, _⟩
  · exact absurd h2 hv
  exact run_convert_bytes_back (P := P) w src dst e ⟨g, 0, none⟩ cap l hs he hd (by
    intro j hj
    have hc := h.cellAt j (by rw [Nat.mul_one]; exact hj)
    rw [show (⟨g, 0, none⟩ : Addr).add j = ⟨g, j, none⟩ from by rw [Addr.add_lit, Nat.zero_add], hc]
    unfold rowV
    rw [List.getElem?_map, List.getElem?_eq_getElem hj]
    rfl)

theorem holed_step (n f t k : Nat) (hk : k < n) (x : Int) (hx : x = if f ≤ k ∧ k < t then 0 else 255) : rowV ((holedL n f t).take (k + 1)) = rowV ((holedL n f t).take k) ++ [.int .u8 x] := by
  unfold rowV holedL
  rw [List.take_succ_eq_append_getElem (by simpa using hk), List.map_append]
  simp only [List.getElem_map, List.getElem_range, List.map_cons, List.map_nil]
  rw [hx]
  split <;> rfl

theorem box_kept {w wr w1 : World} {o : Obj} {v b1 : Value} {k : Nat} {e : TypeId} {l : List Value} (hrow : wr.heap[w.heap.size]? = some o) (hb : Below w.heap.size w wr) (hr : wr.ownsRow (w.heap.size + 1) e 1 v k l)
    (hg : (wr.alloc (.cells #[b1] e)).grownBy w1 v.ownBlock) : w1.heap[w.heap.size]? = some o ∧ Below w.heap.size w w1 := by
  have hB : w.heap.size < wr.heap.size := Nat.lt_of_not_le fun h => by rw [Array.getElem?_eq_none h] at hrow; cases hrow
  refine ⟨?_, (hb.alloc hb.size _).grown hg (by simp; omega) fun j hj => by have := (hr.lt j hj).1; omega⟩
  rw [hg.block w.heap.size (by simp; omega) (fun h => by have := (hr.lt _ h.symm).1; omega), Below.heap_alloc _ _ _ (by omega)]
  exact hrow

set_option maxHeartbeats 1000000 in
set_option maxRecDepth 20000 in
theorem Exact_any (b t : ByteArray) (f u : Nat) (w : World) (hb : b.size ≤ 1000) (hf : f ≤ 1000) (hu : u ≤ 1000) :
    Calls Try.prog 72 #[.string b, .string t, .int .i64 f, .int .i64 u] w fun e w' => e = .returned (patV (exactP b t f u).b (exactP b t f u).m (exactP b t f u).k (exactP b t f u).t) ∧ Below w.heap.size w w' := by
  obtain ⟨i0, hi, hz0, hz1, hz2⟩ := info_parts infoByteT
  have HI := Lib.hid hi; have HZ0 := Lib.hid hz0; have HZ1 := Lib.hid hz1; have HZ2 := Lib.hid hz2
  clear hi hz0 hz1 hz2
  go_enter Try.func72, Try.ntmps72
  go_upto_region 1 with fail
  generalize hW : w.alloc (.cells #[.string ⟨#[]⟩, .string ⟨#[]⟩, .string ⟨#[]⟩, .string ⟨#[]⟩] 25) = W
  have hsz : W.heap.size = w.heap.size + 1 := by rw [← hW]; simp
  have hrow : W.heap[w.heap.size]? = some (.cells #[.string ⟨#[]⟩, .string ⟨#[]⟩, .string ⟨#[]⟩, .string ⟨#[]⟩] 25 (0, 0)) := by rw [← hW]; exact heap_alloc_new w _
  have hB0 : Below w.heap.size w W := by rw [← hW]; exact below_box w _
  have HR := Lib.hid hrow
  have HB := Lib.hid hB0
  clear hW hrow hB0
  go_wp2_with fail
  go_loopw [9, 10] (fun v i wr => ∃ k : Nat, k ≤ b.size ∧ i = .int .i64 k ∧ wr.ownsRow (w.heap.size + 1) 5 1 v k (rowV ((holedL b.size f u).take k)) ∧ v ≠ .slice none 0 0 ∧ wr.heap[w.heap.size]? = some (.cells #[.string ⟨#[]⟩, .string ⟨#[]⟩, .string ⟨#[]⟩, .string ⟨#[]⟩] 25 (0, 0)) ∧ Below w.heap.size w wr) (fun _ i _ => b.size - (intOf i).toNat)
  case atStart =>
    refine ⟨0, Nat.zero_le _, rfl, ?_, by simp, (Below.heap_alloc _ _ _ (by omega)).trans HR.out, HB.out.alloc HB.out.size _⟩
    have := World.ownsRow_lit (base := w.heap.size + 1) (e := 5) (size := 1) W #[] 0 (by omega) (Nat.zero_le _) rfl
    rw [hsz] at this
    simpa [rowV] using this
  case round =>
    clear HR HB
    obtain ⟨k, hk, rfl, hown, hv, hrow, hb'⟩ := hrel
    have HO := Lib.hid hown; have HV := Lib.hid hv; have HROW := Lib.hid hrow; have HB := Lib.hid hb'
    have hz := hb'.size
    have hsz2 : w.heap.size < wr.heap.size := Nat.lt_of_not_le fun h => by rw [Array.getElem?_eq_none h] at hrow; cases hrow
    clear hown hv hrow hb'
    by_cases hlt : k < b.size
    · obtain ⟨x, hx⟩ : ∃ x : Int, x = if f ≤ k ∧ k < u then 0 else 255 := ⟨_, rfl⟩
      have HS := Lib.hid (holed_step b.size f u k hlt x hx)
      have k0 := Lib.hid (HO.out.alloc (.cells #[.int .u8 x] 5))
      have k1 := Lib.hid (cell_one_new wr (.int .u8 x) 5)
      have k2 := Lib.hid (show ∀ v ∈ ([.int .u8 x] : List Value), v.oneCell' = true from by intro v hv; simp at hv; subst hv; rfl)
      have k3 := Lib.hid (show k + 1 ≤ maxLen from by unfold maxLen; omega)
      have k4 := Lib.hid (show (k + 1) * 1 ≤ 140737488355328 from by omega)
      have k5 := Lib.hid (show w.heap.size + 1 ≤ (wr.alloc (.cells #[.int .u8 x] 5)).heap.size from by simp; omega)
      by_cases h1 : f ≤ k
      · by_cases h2 : k < u
        · rw [if_pos ⟨h1, h2⟩] at hx
          subst hx
          go_wp2_with (at_builtin; refine wpList_append_own _ rfl (.tmp 26) (.tmp 27) 68 rfl (w.heap.size + 1) 5 i0 (.int .u8 0) 1 1 Try.underlying68 HI.out HZ0.out HZ1.out HZ2.out rfl (by decide) _ _ _ rfl k0.out ⟨wr.heap.size, 0, none⟩ 1 1 _ rfl rfl k1.out k2.out k3.out k4.out k5.out ?_; intro v' w1 hown' hg hne; have HO2 := Lib.hid hown'; have HN2 := Lib.hid (fun h => HV.out (hne.1 h).1); have HK := Lib.hid (box_kept HROW.out HB.out HO.out hg); clear hown' hg hne)
          go_roundw
          case rel => exact ⟨k + 1, by omega, by go_num, by rw [HS.out]; exact HO2.out, HN2.out, HK.out.1, HK.out.2⟩
          case measure => simp [intOf]; omega
        · rw [if_neg (fun h => h2 h.2)] at hx
          subst hx
          go_wp2_with (at_builtin; refine wpList_append_own _ rfl (.tmp 29) (.tmp 30) 68 rfl (w.heap.size + 1) 5 i0 (.int .u8 0) 1 1 Try.underlying68 HI.out HZ0.out HZ1.out HZ2.out rfl (by decide) _ _ _ rfl k0.out ⟨wr.heap.size, 0, none⟩ 1 1 _ rfl rfl k1.out k2.out k3.out k4.out k5.out ?_; intro v' w1 hown' hg hne; have HO2 := Lib.hid hown'; have HN2 := Lib.hid (fun h => HV.out (hne.1 h).1); have HK := Lib.hid (box_kept HROW.out HB.out HO.out hg); clear hown' hg hne)
          go_roundw
          case rel => exact ⟨k + 1, by omega, by go_num, by rw [HS.out]; exact HO2.out, HN2.out, HK.out.1, HK.out.2⟩
          case measure => simp [intOf]; omega
      · rw [if_neg (fun h => h1 h.1)] at hx
        subst hx
        go_wp2_with (at_builtin; refine wpList_append_own _ rfl (.tmp 29) (.tmp 30) 68 rfl (w.heap.size + 1) 5 i0 (.int .u8 0) 1 1 Try.underlying68 HI.out HZ0.out HZ1.out HZ2.out rfl (by decide) _ _ _ rfl k0.out ⟨wr.heap.size, 0, none⟩ 1 1 _ rfl rfl k1.out k2.out k3.out k4.out k5.out ?_; intro v' w1 hown' hg hne; have HO2 := Lib.hid hown'; have HN2 := Lib.hid (fun h => HV.out (hne.1 h).1); have HK := Lib.hid (box_kept HROW.out HB.out HO.out hg); clear hown' hg hne)
        go_roundw
        case rel => exact ⟨k + 1, by omega, by go_num, by rw [HS.out]; exact HO2.out, HN2.out, HK.out.1, HK.out.2⟩
        case measure => simp [intOf]; omega
    · obtain rfl : k = b.size := by omega
      have hback := rowV_back (P := Try.prog) _ HO.out (by rw [List.length_take, holedL, List.length_map, List.length_range]; omega) HV.out 68 9 Try.underlying68 Try.underlying5 Try.underlying9
      rw [List.take_of_length_le (by rw [holedL, List.length_map, List.length_range]; omega)] at hback
      have q0 := cell_of_row wr w.heap.size 0 _ _ (0, 0) HROW.out
      have q1 := cell_of_row wr w.heap.size 1 _ _ (0, 0) HROW.out
      have q2 := cell_of_row wr w.heap.size 2 _ _ (0, 0) HROW.out
      have q3 := cell_of_row wr w.heap.size 3 _ _ (0, 0) HROW.out
      have hfz : ∀ o, wr.frozen? ⟨w.heap.size, o, none⟩ = false := fun o => by have := HROW.out; simp [World.frozen?, this]
      simp at q0 q1 q2 q3
      have hw := HB.out
      go_wp2_with fail
      refine bodyPost_ret (v := patV (exactP b t f u).b (exactP b t f u).m (exactP b t f u).k (exactP b t f u).t) ?_ rfl ⟨rfl, (((hw.setCell (Nat.le_refl _) _).setCell (Nat.le_refl _) _).setCell (Nat.le_refl _) _).setCell (Nat.le_refl _) _⟩
      simp [results, Try.results72, go_sem, q0, q1, q2, q3, exactP]

end Go.Proofs.Ytcpjokjfjhhndaa
