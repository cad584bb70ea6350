/-
  Lemmas of this claim, part 7: the texts MimeH, MimeI, MimeLen, one behind the other.
-/
import Derived.Test.YtdkkbibdjagjjaaM6

namespace Go.Proofs.Ytdkkbibdjagjjaa
open Go.RowKit
set_option linter.unusedSimpArgs false
set_option linter.unusedVariables false

theorem restB_list (s : ByteArray) (k : Nat) : (restB s k).data.toList = dropB s k := by
  unfold dropB restB
  rw [ByteArray.data_extract, Array.toList_extract, List.extract_eq_take_drop, List.take_of_length_le (by rw [List.length_drop, ← Lib.size_eq]; omega)]

theorem dropB_len (s : ByteArray) (k : Nat) : (dropB s k).length = s.size - k := by unfold dropB; rw [List.length_drop, Lib.size_eq]

theorem dropB_zero (s : ByteArray) : dropB s 0 = s.data.toList := rfl

theorem span_take (p : UInt8 → Bool) (l : List UInt8) : l.take (spanN p l) = l.takeWhile p := by
  unfold spanN
  exact (List.prefix_iff_eq_take.1 (List.takeWhile_prefix _)).symm

theorem span_drop (p : UInt8 → Bool) (l : List UInt8) : l.drop (spanN p l) = l.dropWhile p := by
  have e2 := List.takeWhile_append_dropWhile (p := p) (l := l)
  have e3 : l.drop (spanN p l) = (l.takeWhile p ++ l.dropWhile p).drop (l.takeWhile p).length := by rw [e2]; rfl
  rw [e3, List.drop_left]

theorem ext_bt (s : ByteArray) (k n : Nat) : s.extract k (k + n) = bt ((dropB s k).take n) := by
  apply bytes_ext
  rw [bt_list]
  unfold dropB
  rw [ByteArray.data_extract, Array.toList_extract, List.extract_eq_take_drop, show k + n - k = n by omega]

theorem dropB_more (s : ByteArray) (k n : Nat) : dropB s (k + n) = (dropB s k).drop n := by unfold dropB; rw [List.drop_drop]

theorem until_drop (stops : ByteArray) (p : UInt8 → Bool) (hp : ∀ b, goesOn stops b = p b) (g : Nat) (s : ByteArray) (k : Nat) (w : World) (h : Cur w g s k) (hk : k ≤ s.size) (hs : s.size ≤ maxLen) :
    Calls Try.prog 52 #[.pointer (some ⟨g, 0, none⟩), .string stops] w fun e w' => ∃ k2, k ≤ k2 ∧ k2 ≤ s.size ∧ dropB s k2 = (dropB s k).dropWhile p ∧ e = .returned (.string (bt ((dropB s k).takeWhile p))) ∧ Moved g s k2 w w' := by
  have hf : goesOn stops = p := funext hp
  have hC := Until_gives stops g s k w h hk hs
  rw [hf, restB_list] at hC
  have hn := spanN_le p (dropB s k)
  rw [dropB_len] at hn
  refine hC.mono ?_
  rintro e w2 ⟨rfl, hm⟩
  refine ⟨k + spanN p (dropB s k), by omega, by omega, ?_, ?_, hm⟩
  · rw [dropB_more, span_drop]
  · rw [ext_bt, span_take]

theorem while_drop (K : FuncId) (p : UInt8 → Bool) (hK : FnPure K p) (g : Nat) (s : ByteArray) (k : Nat) (w : World) (h : Cur w g s k) (hk : k ≤ s.size) (hs : s.size ≤ maxLen) :
    Calls Try.prog 82 #[.pointer (some ⟨g, 0, none⟩), .func (.func K) #[] #[]] w fun e w' => ∃ k2 t, k ≤ k2 ∧ k2 ≤ s.size ∧ dropB s k2 = (dropB s k).dropWhile p ∧ e = .returned (.string t) ∧ Moved g s k2 w w' := by
  have hC := While_gives K p hK g s k w h hk hs
  rw [restB_list] at hC
  have hn := spanN_le p (dropB s k)
  rw [dropB_len] at hn
  refine hC.mono ?_
  rintro e w2 ⟨rfl, hm⟩
  refine ⟨k + spanN p (dropB s k), _, by omega, by omega, ?_, rfl, hm⟩
  rw [dropB_more, span_drop]

theorem prefB_one (s : ByteArray) (k : Nat) (b : UInt8) : prefB (restB s k) ⟨#[b]⟩ = ((dropB s k).head? == some b) := by
  unfold prefB
  rw [restB_list]
  cases dropB s k with
  | nil => rfl
  | cons a r =>
    show [b].isPrefixOf (a :: r) = _
    simp only [List.isPrefixOf, Bool.and_true, List.head?_cons]
    exact Bool.eq_iff_iff.2 ⟨fun h => by simp at h ⊢; exact h.symm, fun h => by simp at h ⊢; exact h.symm⟩

theorem skip_drop (b : UInt8) (g : Nat) (s : ByteArray) (k : Nat) (w : World) (h : Cur w g s k) (hk : k ≤ s.size) (hs : s.size ≤ maxLen) (hb : (dropB s k).head? = some b) :
    Calls Try.prog 78 #[.pointer (some ⟨g, 0, none⟩), .string ⟨#[b]⟩] w fun e w' => e = .returned (.bool true) ∧ k + 1 ≤ s.size ∧ dropB s (k + 1) = (dropB s k).tail ∧ Moved g s (k + 1) w w' := by
  have hlt : k < s.size := by
    rcases Nat.lt_or_ge k s.size with h1 | h1
    · exact h1
    · have : k = s.size := by omega
      subst this
      rw [dropB_end] at hb
      simp at hb
  refine (Skip_yes ⟨#[b]⟩ g s k w h hk hs (by rw [prefB_one, hb]; simp)).mono ?_
  rintro e w2 ⟨rfl, hm⟩
  refine ⟨rfl, hlt, ?_, hm⟩
  rw [dropB_more, List.drop_one]

theorem skip_none (b : UInt8) (g : Nat) (s : ByteArray) (k : Nat) (w : World) (h : Cur w g s k) (hk : k ≤ s.size) (hs : s.size ≤ maxLen) (hb : (dropB s k).head? ≠ some b) :
    Calls Try.prog 78 #[.pointer (some ⟨g, 0, none⟩), .string ⟨#[b]⟩] w fun e w' => e = .returned (.bool false) ∧ Moved g s k w w' :=
  Skip_no ⟨#[b]⟩ g s k w h hk hs (by rw [prefB_one]; exact beq_eq_false_iff_ne.2 hb)

theorem goes_semi (b : UInt8) : goesOn ⟨#[59]⟩ b = nsemi b := all_u8 (p := fun b => goesOn ⟨#[59]⟩ b = nsemi b) (by decide +kernel) b
theorem goes_slash (b : UInt8) : goesOn ⟨#[47]⟩ b = nslash b := all_u8 (p := fun b => goesOn ⟨#[47]⟩ b = nslash b) (by decide +kernel) b
theorem goes_name (b : UInt8) : goesOn ⟨#[59, 61]⟩ b = nname b := all_u8 (p := fun b => goesOn ⟨#[59, 61]⟩ b = nname b) (by decide +kernel) b

theorem tw_len (p : UInt8 → Bool) (l : List UInt8) : (l.takeWhile p).length ≤ l.length := (List.takeWhile_sublist p).length_le

theorem valL_plain (r : List UInt8) (h : r.head? ≠ some 34) : valL r = (trimEnd isWhite (r.takeWhile nsemi), !(trimEnd isWhite (r.takeWhile nsemi)).isEmpty, r.dropWhile nsemi) := by
  unfold valL; rw [if_neg h]

theorem bt_ne (l : List UInt8) : (!(bt l).toList.isEmpty) = !l.isEmpty := by
  rw [Lib.toList_data]
  rfl

set_option maxRecDepth 20000 in
theorem value_any (g : Nat) (s : ByteArray) (k : Nat) (w : World) (h : Cur w g s k) (hk : k ≤ s.size) (hs : s.size ≤ 100000) :
    Calls Try.prog 120 #[.pointer (some ⟨g, 0, none⟩)] w fun e w' => ∃ k2, k ≤ k2 ∧ k2 ≤ s.size ∧ dropB s k2 = (valL (dropB s k)).2.2 ∧ e = .returned (.tuple #[.string (bt (valL (dropB s k)).1), .bool (valL (dropB s k)).2.1]) ∧ Moved g s k2 w w' := by
  have hsm : s.size ≤ maxLen := by unfold maxLen; omega
  by_cases hq : ∃ hlt : k < s.size, s[k] = 34
  · obtain ⟨hlt, hq⟩ := hq
    have hd : dropB s k = 34 :: dropB s (k + 1) := by rw [dropB_cons s k hlt, hq]
    have hv : valL (dropB s k) = ((readL (dropB s (k + 1))).1, true, ((dropB s (k + 1)).drop (readL (dropB s (k + 1))).2).dropWhile nsemi) := by
      unfold valL; rw [hd]; rfl
    have hr := (readL_le (dropB s (k + 1))).1
    rw [dropB_len] at hr
    have HV := Lib.hid hv
    have HPK := Lib.hid (Peek0_yes g s k w h hlt hsm)
    rw [hq] at HPK
    have HCO := Lib.hid (fun (w1 : World) (h1 : Cur w1 g s k) => Collect_gives g s k true w1 h1 hlt hq hs)
    have HU := Lib.hid (fun (w1 : World) (h1 : Cur w1 g s (k + 1 + (readL (dropB s (k + 1))).2)) => until_drop ⟨#[59]⟩ nsemi goes_semi g s _ w1 h1 (by omega) hsm)
    have HD := Lib.hid (dropB_more s (k + 1) (readL (dropB s (k + 1))).2)
    clear hv hd hr hq h
    generalize valL (dropB s k) = V at *
    unfold takenB at HCO
    generalize readL (dropB s (k + 1)) = R at *
    go_enter Try.func120, Try.ntmps120
    go_wp2_with fail
    refine HPK.out.mono ?_
    rintro e w1 ⟨rfl, hm⟩
    have HM := Lib.hid hm
    clear hm
    go_wp2_with fail
    refine (HCO.out _ HM.out.1).mono ?_
    rintro e w2 ⟨rfl, hm2⟩
    have HM2 := Lib.hid (HM.out.trans hm2)
    clear hm2
    go_wp2_with fail
    refine (HU.out _ HM2.out.1).mono ?_
    rintro e w3 ⟨k3, h1, h2, h3, rfl, hm3⟩
    have HM3 := Lib.hid (HM2.out.trans hm3)
    have HK := Lib.hid (And.intro h1 (And.intro h2 h3))
    clear hm3 h1 h2 h3
    go_wp2_with fail
    go_ret2
    obtain ⟨h1, h2, h3⟩ := HK.out
    refine ⟨k3, by omega, h2, ?_, by rw [HV.out]; rfl, HM3.out⟩
    rw [h3, HV.out, HD.out]
  · have hq2 : (dropB s k).head? ≠ some 34 := by
      intro he
      apply hq
      by_cases hlt : k < s.size
      · refine ⟨hlt, ?_⟩
        rw [dropB_cons s k hlt] at he
        simpa using he
      · have : k = s.size := by omega
        subst this
        rw [dropB_end] at he
        simp at he
    have HV := Lib.hid (valL_plain (dropB s k) hq2)
    have HU := Lib.hid (fun (w1 : World) (h1 : Cur w1 g s k) => until_drop ⟨#[59]⟩ nsemi goes_semi g s k w1 h1 hk hsm)
    have hl := tw_len nsemi (dropB s k)
    rw [dropB_len] at hl
    have HB := Lib.hid (fun w => back_any (bt ((dropB s k).takeWhile nsemi)) w (by rw [bt_size]; unfold maxLen; omega))
    rw [bt_list] at HB
    have HN := Lib.hid (bt_ne (trimEnd isWhite ((dropB s k).takeWhile nsemi)))
    have hpk : ∃ (b : Nat) (ok : Bool), ((ok && decide (b = 34)) = false) ∧ Calls Try.prog 53 #[.pointer (some ⟨g, 0, none⟩), .int .i64 0] w fun e w' => e = .returned (.tuple #[.int .u8 (b : Int), .bool ok]) ∧ Moved g s k w w' := by
      by_cases hlt : k < s.size
      · refine ⟨s[k].toNat, true, ?_, Peek0_yes g s k w h hlt hsm⟩
        simp only [Bool.true_and, decide_eq_false_iff_not]
        intro h34
        exact hq ⟨hlt, UInt8.toNat_inj.1 (by simpa using h34)⟩
      · have : k = s.size := by omega
        subst this
        exact ⟨0, false, rfl, Peek0_no g s w h hsm⟩
    obtain ⟨b, ok, hbo, hpk⟩ := hpk
    have HPK := Lib.hid hpk
    clear hl h hpk hq2
    generalize valL (dropB s k) = V at *
    generalize (dropB s k).takeWhile nsemi = T at *
    generalize trimEnd isWhite T = T2 at *
    cases ok
    · go_enter Try.func120, Try.ntmps120
      go_wp2_with fail
      refine HPK.out.mono ?_
      rintro e w1 ⟨rfl, hm⟩
      have HM := Lib.hid hm
      clear hm
      go_wp2_with fail
      refine (HU.out _ HM.out.1).mono ?_
      rintro e w3 ⟨k3, h1, h2, h3, rfl, hm3⟩
      have HM3 := Lib.hid (HM.out.trans hm3)
      have HK := Lib.hid (And.intro h1 (And.intro h2 h3))
      clear hm3 h1 h2 h3
      go_wp2_with (go_at_call 110; (with_reducible refine (HB.out _).mono ?_); rintro e w' ⟨rfl, rfl⟩)
      go_ret2
      obtain ⟨h1, h2, h3⟩ := HK.out
      exact ⟨k3, h1, h2, by rw [h3, HV.out], by rw [HV.out, ← HN.out]; rfl, HM3.out⟩
    · have hb34 : ((b : Int) == 34) = false := by
        simp at hbo
        rw [beq_eq_false_iff_ne]; omega
      go_enter Try.func120, Try.ntmps120
      go_wp2_with fail
      refine HPK.out.mono ?_
      rintro e w1 ⟨rfl, hm⟩
      have HM := Lib.hid hm
      clear hm
      go_wp2_with fail
      refine (HU.out _ HM.out.1).mono ?_
      rintro e w3 ⟨k3, h1, h2, h3, rfl, hm3⟩
      have HM3 := Lib.hid (HM.out.trans hm3)
      have HK := Lib.hid (And.intro h1 (And.intro h2 h3))
      clear hm3 h1 h2 h3
      go_wp2_with (go_at_call 110; (with_reducible refine (HB.out _).mono ?_); rintro e w' ⟨rfl, rfl⟩)
      go_ret2
      obtain ⟨h1, h2, h3⟩ := HK.out
      exact ⟨k3, h1, h2, by rw [h3, HV.out], by rw [HV.out, ← HN.out]; rfl, HM3.out⟩

end Go.Proofs.Ytdkkbibdjagjjaa

namespace Go.Proofs.Ytdkkbibdjagjjaa
open Go.RowKit
set_option linter.unusedSimpArgs false
set_option linter.unusedVariables false

theorem lower_bt (l : List UInt8) : lowerB (bt l) = bt (lowerL l) := rfl

theorem Cur.far {w : World} {g : Nat} {s : ByteArray} {k : Nat} (h : Cur w g s k) {p : Addr} (hp : p.block ≠ g) (u : Value) : Cur (w.setCell p u) g s k := by
  unfold Cur at h ⊢
  simp [World.setCell, Array.getElem?_modify, hp, h]

theorem Moved.far {w w2 : World} {g : Nat} {s : ByteArray} {k : Nat} (h : Moved g s k w w2) {p : Addr} (hp : w.heap.size ≤ p.block) (hg : p.block ≠ g) (u : Value) : Moved g s k w (w2.setCell p u) :=
  ⟨h.1.far hg u, h.2.setCell (.inr hp) u⟩

theorem Moved.drew {w w2 : World} {g : Nat} {s : ByteArray} {k : Nat} (h : Moved g s k w w2) : Moved g s k w w2.drew := ⟨h.1, h.2.drew⟩

theorem Moved.below {w w1 w2 : World} {g : Nat} {s : ByteArray} {k : Nat} (h : Moved g s k w w1) (hb : Below w1.heap.size w1 w2) : Moved g s k w w2 :=
  ⟨h.1.below hb h.1.lt, h.2.trans (But.of_below hb)⟩

theorem Moved.self {w : World} {g : Nat} {s : ByteArray} {k : Nat} (h : Cur w g s k) : Moved g s k w w := ⟨h, But.refl _ _⟩

/-- A block that is no cursor stands. -/
theorem Moved.stands {w w2 : World} {g : Nat} {s : ByteArray} {k : Nat} (h : Moved g s k w w2) {i : Nat} {o : Obj} (hn : i ≠ g) (hi : w.heap[i]? = some o) : w2.heap[i]? = some o :=
  (h.2.block i (Array.getElem?_eq_some_iff.1 hi).1 (fun e => hn (by simpa using e))).trans hi

theorem end_drop (s : ByteArray) (k : Nat) (hk : k ≤ s.size) : decide (k = s.size) = (dropB s k).isEmpty := by
  have := dropB_len s k
  by_cases h : k = s.size
  · subst h
    rw [dropB_end]; simp
  · have hne : dropB s k ≠ [] := by
      intro he
      rw [he] at this
      simp at this
      omega
    simp [h, hne]

theorem valL_len2 (r : List UInt8) : (valL r).1.length ≤ r.length := by
  unfold valL
  split
  · have h1 := (readL_le r.tail).2
    rw [List.length_tail] at h1
    show (readL r.tail).1.length ≤ r.length
    omega
  · have h1 := tw_len nsemi r
    have h2 := trimEnd_le isWhite (r.takeWhile nsemi)
    show (trimEnd isWhite (r.takeWhile nsemi)).length ≤ r.length
    omega

set_option maxHeartbeats 1000000 in
set_option maxRecDepth 20000 in
theorem param_any (g : Nat) (s : ByteArray) (k : Nat) (w : World) (h : Cur w g s k) (hk : k ≤ s.size) (hs : s.size ≤ 100000) :
    Calls Try.prog 111 #[.pointer (some ⟨g, 0, none⟩)] w fun e w' => ∃ k2, k ≤ k2 ∧ k2 ≤ s.size ∧ dropB s k2 = (parmStep (dropB s k)).2.2.2 ∧
      e = .returned (.tuple #[.agg #[.string (bt (parmStep (dropB s k)).1), .string (bt (parmStep (dropB s k)).2.1)], .bool (parmStep (dropB s k)).2.2.1]) ∧ Moved g s k2 w w' := by
  have hsm : s.size ≤ maxLen := by unfold maxLen; omega
  have HW1 := Lib.hid (fun (w1 : World) (h1 : Cur w1 g s k) => while_drop 118 isWhite fnWhiteC g s k w1 h1 hk hsm)
  have HU := Lib.hid (fun (k1 : Nat) (w1 : World) (hk1 : k1 ≤ s.size) (h1 : Cur w1 g s k1) => until_drop ⟨#[59, 61]⟩ nname goes_name g s k1 w1 h1 hk1 hsm)
  have hgl := h.lt
  have HM0 := Lib.hid ((Moved.self h).alloc (.cells #[.string ⟨#[]⟩, .string ⟨#[]⟩] 52))
  have HR0 : Hid ((w.alloc (.cells #[.string ⟨#[]⟩, .string ⟨#[]⟩] 52)).heap[w.heap.size]? = some (.cells #[.string ⟨#[]⟩, .string ⟨#[]⟩] 52 (0, 0))) := Lib.hid (heap_alloc_new w _)
  have hgne : w.heap.size ≠ g := by omega
  obtain ⟨PS, hps⟩ : ∃ PS, parmStep (dropB s k) = PS := ⟨_, rfl⟩
  rw [hps]
  have HPD := Lib.hid hps
  clear h hps
  go_enter Try.func111, Try.ntmps111
  go_wp2_with fail
  generalize w.alloc (.cells #[.string ⟨#[]⟩, .string ⟨#[]⟩] 52) = W0 at *
  refine (HW1.out _ HM0.out.1).mono ?_
  rintro e w1 ⟨k1, t1, h1, h2, h3, rfl, hm1⟩
  have HM1 := Lib.hid (HM0.out.trans hm1)
  have HR1 := Lib.hid (hm1.stands hgne HR0.out)
  have HK1 := Lib.hid (And.intro h1 (And.intro h2 h3))
  clear hm1 h1 h2 h3
  go_wp2_with fail
  refine (HU.out k1 _ HK1.out.2.1 HM1.out.1).mono ?_
  rintro e w2 ⟨k2, h1, h2, h3, rfl, hm2⟩
  have HM2 := Lib.hid (HM1.out.trans hm2)
  have HR2 := Lib.hid (hm2.stands hgne HR1.out)
  have HK2 := Lib.hid (And.intro h1 (And.intro h2 h3))
  clear hm2 h1 h2 h3
  have hl1 := tw_len nname (dropB s k1)
  have hl2 := dropB_len s k1
  have HLO := Lib.hid (fun w => Lower_any (bt ((dropB s k1).takeWhile nname)) w (by rw [bt_size]; unfold maxLen; omega))
  rw [lower_bt] at HLO
  clear hl1 hl2
  go_wp2_with fail
  refine (HLO.out _).mono ?_
  rintro e w3 ⟨rfl, hb3⟩
  have HM3 := Lib.hid (HM2.out.below hb3)
  have HR3 : Hid (w3.heap[w.heap.size]? = some (.cells #[.string ⟨#[]⟩, .string ⟨#[]⟩] 52 (0, 0))) := Lib.hid ((hb3.block _ (Array.getElem?_eq_some_iff.1 HR2.out).1).trans HR2.out)
  clear hb3
  have hlen3 : w.heap.size < w3.heap.size := (Array.getElem?_eq_some_iff.1 HR3.out).1
  have hP : PS = (if (dropB s k2).head? = some 61 then (if (dropB s k2).tail = [] then (lowerL ((dropB s k1).takeWhile nname), [], false, [])
      else (lowerL ((dropB s k1).takeWhile nname), (valL (dropB s k2).tail).1, (valL (dropB s k2).tail).2.1 && tokL (lowerL ((dropB s k1).takeWhile nname)) && quoL (valL (dropB s k2).tail).1, (valL (dropB s k2).tail).2.2))
      else (lowerL ((dropB s k1).takeWhile nname), [], false, dropB s k2)) := by
    rw [← HPD.out]
    unfold parmStep
    dsimp only
    rw [← HK1.out.2.2, ← HK2.out.2.2]
  have HP := Lib.hid hP
  have hnl : (lowerL ((dropB s k1).takeWhile nname)).length ≤ 100000 := by
    have h1 := tw_len nname (dropB s k1)
    have h2 := dropB_len s k1
    unfold lowerL
    rw [List.length_map]
    omega
  clear hP HLO
  generalize lowerL ((dropB s k1).takeWhile nname) = N at *
  go_upto_region 3 with fail
  have HM4 := Lib.hid (HM3.out.alloc (.cells #[.string (bt N), .string ⟨#[]⟩] 52))
  have HR4 := Lib.hid (heap_old w3 (.cells #[.string (bt N), .string ⟨#[]⟩] 52) HR3.out)
  have HQ4 : Hid ((w3.alloc (.cells #[.string (bt N), .string ⟨#[]⟩] 52)).heap[w3.heap.size]? = some (.cells #[.string (bt N), .string ⟨#[]⟩] 52 (0, 0))) := Lib.hid (heap_alloc_new w3 _)
  have hqg : w3.heap.size ≠ g := by omega
  have hqr : w3.heap.size ≠ w.heap.size := by omega
  generalize hB : w3.heap.size = B at *
  generalize w3.alloc (.cells #[.string (bt N), .string ⟨#[]⟩] 52) = w4 at *
  clear hB HR3 HM3 HR2 HM2 HR1 HM1 HR0 HM0 HW1 HU
  by_cases h61 : (dropB s k2).head? = some 61
  · have HSK := Lib.hid (skip_drop 61 g s k2 w4 HM4.out.1 HK2.out.2.1 hsm h61)
    go_wp2_with fail
    refine HSK.out.mono ?_
    rintro e w5 ⟨rfl, hk3, hd3, hm5⟩
    have HM5 := Lib.hid (HM4.out.trans hm5)
    have HR5 := Lib.hid (hm5.stands hgne HR4.out)
    have HQ5 := Lib.hid (hm5.stands hqg HQ4.out)
    have HD3 := Lib.hid hd3
    have HEN := Lib.hid (End_any g s (k2 + 1) w5 hm5.1 hk3 hsm)
    rw [end_drop s (k2 + 1) hk3, hd3] at HEN
    clear hm5 HSK hd3
    by_cases hnil : (dropB s k2).tail = []
    · have HPS : Hid (PS = (N, [], false, [])) := Lib.hid (by rw [HP.out, if_pos h61, if_pos hnil])
      rw [hnil] at HEN
      have HN := Lib.hid hnil
      clear hnil
      go_wp2_with fail
      refine HEN.out.mono ?_
      rintro e w6 ⟨rfl, hd⟩
      have hm6 := moved_drew HM5.out.1 hd
      have HM6 := Lib.hid (HM5.out.trans hm6)
      have hR6 := hm6.stands hgne HR5.out
      have hQ6 := hm6.stands hqg HQ5.out
      have c0 : w6.cell? ⟨B, 0, none⟩ = some (.string (bt N)) := by rw [Lib.cell_of_heap hQ6]; rfl
      have c1 : w6.cell? ⟨B, 1, none⟩ = some (.string ⟨#[]⟩) := by rw [Lib.cell_of_heap hQ6]; rfl
      have r0 : w6.cell? ⟨w.heap.size, 0, none⟩ = some (.string ⟨#[]⟩) := by rw [Lib.cell_of_heap hR6]; rfl
      have r1 : w6.cell? ⟨w.heap.size, 1, none⟩ = some (.string ⟨#[]⟩) := by rw [Lib.cell_of_heap hR6]; rfl
      have rz : ∀ o, w6.frozen? ⟨w.heap.size, o, none⟩ = false := fun o => Lib.frozen_of_heap hR6 o
      clear hm6 hR6 hQ6 hd
      go_wp2_with fail
      refine bodyPost_ret (v := .tuple #[.agg #[.string (bt N), .string ⟨#[]⟩], .bool false]) ?_ rfl ?_
      · simp [results, Try.results111, go_sem, r0, r1]
      · refine ⟨k2 + 1, by have := HK1.out.1; have := HK2.out.1; omega, hk3, by rw [HPS.out, HD3.out, HN.out], by rw [HPS.out]; rfl, (HM6.out.far (by simp) hgne _).far (by simp) hgne _⟩
    · have HPS : Hid (PS = (N, (valL (dropB s k2).tail).1, (valL (dropB s k2).tail).2.1 && tokL N && quoL (valL (dropB s k2).tail).1, (valL (dropB s k2).tail).2.2)) := Lib.hid (by rw [HP.out, if_pos h61, if_neg hnil])
      have he : (dropB s k2).tail.isEmpty = false := by cases h : (dropB s k2).tail with | nil => exact absurd h hnil | cons a r => rfl
      rw [he] at HEN
      clear he hnil
      go_wp2_with fail
      refine HEN.out.mono ?_
      rintro e w6 ⟨rfl, hd⟩
      have hm6 := moved_drew HM5.out.1 hd
      have HM6 := Lib.hid (HM5.out.trans hm6)
      have HR6 := Lib.hid (hm6.stands hgne HR5.out)
      have HQ6 := Lib.hid (hm6.stands hqg HQ5.out)
      have HVA := Lib.hid (value_any g s (k2 + 1) w6 hm6.1 hk3 hs)
      rw [HD3.out] at HVA
      have hvl := valL_len2 (dropB s k2).tail
      have hdl := dropB_len s (k2 + 1)
      rw [HD3.out] at hdl
      have hvl2 : (valL (dropB s k2).tail).1.length ≤ 100000 := by omega
      clear hm6 hd HEN hvl hdl
      generalize valL (dropB s k2).tail = V at *
      obtain ⟨V1, ok, V3⟩ := V
      dsimp only at HVA HPS hvl2 ⊢
      go_wp2_with fail
      refine HVA.out.mono ?_
      rintro e w7 ⟨k4, h1, h2, h3, rfl, hm7⟩
      have HM7 := Lib.hid (HM6.out.trans hm7)
      have HR7 := Lib.hid (hm7.stands hgne HR6.out)
      have hQ7 := hm7.stands hqg HQ6.out
      have c0 : w7.cell? ⟨B, 0, none⟩ = some (.string (bt N)) := by rw [Lib.cell_of_heap hQ7]; rfl
      have c1 : w7.cell? ⟨B, 1, none⟩ = some (.string ⟨#[]⟩) := by rw [Lib.cell_of_heap hQ7]; rfl
      have cz : ∀ o, w7.frozen? ⟨B, o, none⟩ = false := fun o => Lib.frozen_of_heap hQ7 o
      have HK4 := Lib.hid (And.intro h1 (And.intro h2 h3))
      have HQ7 := Lib.hid hQ7
      clear hm7 h1 h2 h3 hQ7
      go_upto_region 7 with fail
      have HM8 := Lib.hid (HM7.out.far (p := ⟨B, 1, none⟩) (by show w.heap.size ≤ B; omega) hqg (.string (bt V1)))
      have hR8 : (w7.setCell ⟨B, 1, none⟩ (.string (bt V1))).heap[w.heap.size]? = some (.cells #[.string ⟨#[]⟩, .string ⟨#[]⟩] 52 (0, 0)) := by
        have := HR7.out
        simp [World.setCell, Array.getElem?_modify, hqr, this]
      have d0 : (w7.setCell ⟨B, 1, none⟩ (.string (bt V1))).cell? ⟨B, 0, none⟩ = some (.string (bt N)) := by simp [go_sem, c0]
      have d1 : (w7.setCell ⟨B, 1, none⟩ (.string (bt V1))).cell? ⟨B, 1, none⟩ = some (.string (bt V1)) := by simp [go_sem, c1]
      clear c0 c1 cz
      generalize w7.setCell ⟨B, 1, none⟩ (.string (bt V1)) = w8 at *
      have r0 : w8.cell? ⟨w.heap.size, 0, none⟩ = some (.string ⟨#[]⟩) := by rw [Lib.cell_of_heap hR8]; rfl
      have r1 : w8.cell? ⟨w.heap.size, 1, none⟩ = some (.string ⟨#[]⟩) := by rw [Lib.cell_of_heap hR8]; rfl
      have rz : ∀ o, w8.frozen? ⟨w.heap.size, o, none⟩ = false := fun o => Lib.frozen_of_heap hR8 o
      have HTK := Lib.hid (fun w => token_any (bt N) w (by rw [bt_size]; unfold maxLen; omega))
      have HAL := Lib.hid (fun w => All_list 67 isQuoted fnQuoted (bt V1) w (by rw [bt_size]; unfold maxLen; omega))
      rw [bt_list] at HTK HAL
      have HQL : Hid (quoL V1 = V1.all isQuoted) := Lib.hid rfl
      generalize tokL N = rt at *
      generalize quoL V1 = rq at *
      rw [← HQL.out] at HAL
      clear hR8 hnl hvl2 HQL HR7 HQ7
      have hqr2 : w.heap.size ≠ B := Ne.symm hqr
      have hfin : ∃ rv, rv = (ok && rt && rq) := ⟨_, rfl⟩
      obtain ⟨rv, hrv⟩ := hfin
      rw [← hrv] at HPS
      have HRV := Lib.hid hrv
      clear hrv HP
      cases ok
      · skip
        refine wp_region_N 13 (fun w' => w'.cell? ⟨B, 0, none⟩ = some (.string (bt N)) ∧ w'.cell? ⟨B, 1, none⟩ = some (.string (bt V1))) (by kernel_rfl) (by kernel_rfl) ⟨d0, d1⟩ ?_
        (refine NJ.take (i := 0) (v := ?_) rfl rfl (by kernel_rfl) (by kernel_rfl) (by kernel_rfl) (by kernel_rfl) (fun _ _ _ h => h) (Or.inl ⟨by rfl, ?_⟩) ?_; rotate_left; (focus (intro wS hSw; (try dsimp only at hSw); go_simp; first | done | with_reducible rfl)); (try simp only [Act.put, List.getElem_toArray, List.getElem_cons_zero, List.getElem_cons_succ, List.setIfInBounds_toArray, List.set_cons_zero, List.set_cons_succ]))
        (refine NJ.take (i := 1) (v := ?_) rfl rfl (by kernel_rfl) (by kernel_rfl) (by kernel_rfl) (by kernel_rfl) (fun _ _ _ h => h) (Or.inl ⟨by rfl, ?_⟩) ?_; rotate_left; (focus (intro wS hSw; (try dsimp only at hSw); go_simp; first | done | with_reducible rfl)); (try simp only [Act.put, List.getElem_toArray, List.getElem_cons_zero, List.getElem_cons_succ, List.setIfInBounds_toArray, List.set_cons_zero, List.set_cons_succ]))
        (refine NJ.take (i := 2) (v := ?_) rfl rfl (by kernel_rfl) (by kernel_rfl) (by kernel_rfl) (by kernel_rfl) (fun _ _ _ h => h) (Or.inl ⟨by rfl, ?_⟩) ?_; rotate_left; (focus (intro wS hSw; (try dsimp only at hSw); go_simp; first | done | with_reducible rfl)); (try simp only [Act.put, List.getElem_toArray, List.getElem_cons_zero, List.getElem_cons_succ, List.setIfInBounds_toArray, List.set_cons_zero, List.set_cons_succ]))
        (refine NJ.take (i := 3) (v := undef) rfl rfl (by kernel_rfl) (by kernel_rfl) (by kernel_rfl) (by kernel_rfl) (fun _ _ _ h => h) (Or.inr ⟨by rfl, rfl⟩) ?_; (try simp only [Act.put, List.getElem_toArray, List.getElem_cons_zero, List.getElem_cons_succ, List.setIfInBounds_toArray, List.set_cons_zero, List.set_cons_succ]))
        (refine NJ.take (i := 4) (v := undef) rfl rfl (by kernel_rfl) (by kernel_rfl) (by kernel_rfl) (by kernel_rfl) (fun _ _ _ h => h) (Or.inr ⟨by rfl, rfl⟩) ?_; (try simp only [Act.put, List.getElem_toArray, List.getElem_cons_zero, List.getElem_cons_succ, List.setIfInBounds_toArray, List.set_cons_zero, List.set_cons_succ]))
        (refine NJ.take (i := 5) (v := undef) rfl rfl (by kernel_rfl) (by kernel_rfl) (by kernel_rfl) (by kernel_rfl) (fun _ _ _ h => h) (Or.inr ⟨by rfl, rfl⟩) ?_; (try simp only [Act.put, List.getElem_toArray, List.getElem_cons_zero, List.getElem_cons_succ, List.setIfInBounds_toArray, List.set_cons_zero, List.set_cons_succ]))
        (refine NJ.take (i := 6) (v := ?_) rfl rfl (by kernel_rfl) (by kernel_rfl) (by kernel_rfl) (by kernel_rfl) (fun _ _ _ h => h) (Or.inl ⟨by rfl, ?_⟩) ?_; rotate_left; (focus (intro wS hSw; (try dsimp only at hSw); go_simp; first | done | with_reducible rfl)); (try simp only [Act.put, List.getElem_toArray, List.getElem_cons_zero, List.getElem_cons_succ, List.setIfInBounds_toArray, List.set_cons_zero, List.set_cons_succ]))
        (refine NJ.take (i := 7) (v := ?_) rfl rfl (by kernel_rfl) (by kernel_rfl) (by kernel_rfl) (by kernel_rfl) (fun _ _ _ h => h) (Or.inl ⟨by rfl, ?_⟩) ?_; rotate_left; (focus (intro wS hSw; (try dsimp only at hSw); go_simp; first | done | with_reducible rfl)); (try simp only [Act.put, List.getElem_toArray, List.getElem_cons_zero, List.getElem_cons_succ, List.setIfInBounds_toArray, List.set_cons_zero, List.set_cons_succ]))
        (refine NJ.take (i := 8) (v := undef) rfl rfl (by kernel_rfl) (by kernel_rfl) (by kernel_rfl) (by kernel_rfl) (fun _ _ _ h => h) (Or.inr ⟨by rfl, rfl⟩) ?_; (try simp only [Act.put, List.getElem_toArray, List.getElem_cons_zero, List.getElem_cons_succ, List.setIfInBounds_toArray, List.set_cons_zero, List.set_cons_succ]))
        (refine NJ.take (i := 9) (v := undef) rfl rfl (by kernel_rfl) (by kernel_rfl) (by kernel_rfl) (by kernel_rfl) (fun _ _ _ h => h) (Or.inr ⟨by rfl, rfl⟩) ?_; (try simp only [Act.put, List.getElem_toArray, List.getElem_cons_zero, List.getElem_cons_succ, List.setIfInBounds_toArray, List.set_cons_zero, List.set_cons_succ]))
        (refine NJ.take (i := 10) (v := ?_) rfl rfl (by kernel_rfl) (by kernel_rfl) (by kernel_rfl) (by kernel_rfl) (fun _ _ _ h => h) (Or.inl ⟨by rfl, ?_⟩) ?_; rotate_left; (focus (intro wS hSw; (try dsimp only at hSw); go_simp; first | done | with_reducible rfl)); (try simp only [Act.put, List.getElem_toArray, List.getElem_cons_zero, List.getElem_cons_succ, List.setIfInBounds_toArray, List.set_cons_zero, List.set_cons_succ]))
        (refine NJ.step (i := 11) rfl rfl (by kernel_rfl) (fun hSat K hK => ?_); go_simp; refine hK.out _ _ ?_ ?_; (focus (first | exact hSat | go_keep)); clear hK hSat K; (try simp only [Act.put, List.getElem_toArray, List.getElem_cons_zero, List.getElem_cons_succ, List.setIfInBounds_toArray, List.set_cons_zero, List.set_cons_succ]))
        (refine NJ.take (i := 12) (v := ?_) rfl rfl (by kernel_rfl) (by kernel_rfl) (by kernel_rfl) (by kernel_rfl) (fun _ _ _ h => h) (Or.inl ⟨by rfl, ?_⟩) ?_; rotate_left; (focus (intro wS hSw; (try dsimp only at hSw); go_simp; first | done | with_reducible rfl)); (try simp only [Act.put, List.getElem_toArray, List.getElem_cons_zero, List.getElem_cons_succ, List.setIfInBounds_toArray, List.set_cons_zero, List.set_cons_succ]))
        refine NJ.done (by kernel_rfl) (fun hSat => ?_)
        clear hSat
        go_wp2_with fail
        refine bodyPost_ret (v := .tuple #[.agg #[.string (bt N), .string (bt V1)], .bool false]) ?_ rfl ?_
        · simp [results, Try.results111, go_sem, r0, r1]
        · exact ⟨k4, by have := HK1.out.1; have := HK2.out.1; have := HK4.out.1; omega, HK4.out.2.1, (by rw [HPS.out]; exact HK4.out.2.2), (by rw [HPS.out, HRV.out]; simp), ((HM8.out.far (by simp) hgne _).far (by simp) hgne _).drew⟩
      · cases rt
        · skip
          refine wp_region_N 13 (fun w' => w'.cell? ⟨B, 0, none⟩ = some (.string (bt N)) ∧ w'.cell? ⟨B, 1, none⟩ = some (.string (bt V1))) (by kernel_rfl) (by kernel_rfl) ⟨d0, d1⟩ ?_
          (refine NJ.take (i := 0) (v := ?_) rfl rfl (by kernel_rfl) (by kernel_rfl) (by kernel_rfl) (by kernel_rfl) (fun _ _ _ h => h) (Or.inl ⟨by rfl, ?_⟩) ?_; rotate_left; (focus (intro wS hSw; (try dsimp only at hSw); go_simp; first | done | with_reducible rfl)); (try simp only [Act.put, List.getElem_toArray, List.getElem_cons_zero, List.getElem_cons_succ, List.setIfInBounds_toArray, List.set_cons_zero, List.set_cons_succ]))
          (refine NJ.take (i := 1) (v := ?_) rfl rfl (by kernel_rfl) (by kernel_rfl) (by kernel_rfl) (by kernel_rfl) (fun _ _ _ h => h) (Or.inl ⟨by rfl, ?_⟩) ?_; rotate_left; (focus (intro wS hSw; (try dsimp only at hSw); go_simp; first | done | with_reducible rfl)); (try simp only [Act.put, List.getElem_toArray, List.getElem_cons_zero, List.getElem_cons_succ, List.setIfInBounds_toArray, List.set_cons_zero, List.set_cons_succ]))
          (refine NJ.take (i := 2) (v := ?_) rfl rfl (by kernel_rfl) (by kernel_rfl) (by kernel_rfl) (by kernel_rfl) (fun _ _ _ h => h) (Or.inl ⟨by rfl, ?_⟩) ?_; rotate_left; (focus (intro wS hSw; (try dsimp only at hSw); go_simp; first | done | with_reducible rfl)); (try simp only [Act.put, List.getElem_toArray, List.getElem_cons_zero, List.getElem_cons_succ, List.setIfInBounds_toArray, List.set_cons_zero, List.set_cons_succ]))
          (refine NJ.take (i := 3) (v := ?_) rfl rfl (by kernel_rfl) (by kernel_rfl) (by kernel_rfl) (by kernel_rfl) (fun _ _ _ h => h) (Or.inl ⟨by rfl, ?_⟩) ?_; rotate_left; (focus (intro wS hSw; (try dsimp only at hSw); go_simp; first | done | with_reducible rfl)); (try simp only [Act.put, List.getElem_toArray, List.getElem_cons_zero, List.getElem_cons_succ, List.setIfInBounds_toArray, List.set_cons_zero, List.set_cons_succ]))
          (refine NJ.take (i := 4) (v := ?_) rfl rfl (by kernel_rfl) (by kernel_rfl) (by kernel_rfl) (by kernel_rfl) (fun _ _ _ h => h) (Or.inl ⟨by rfl, ?_⟩) ?_; rotate_left; (focus (intro wS hSw; (try dsimp only at hSw); go_simp; first | done | with_reducible rfl)); (try simp only [Act.put, List.getElem_toArray, List.getElem_cons_zero, List.getElem_cons_succ, List.setIfInBounds_toArray, List.set_cons_zero, List.set_cons_succ]))
          (refine NJ.step (i := 5) rfl rfl (by kernel_rfl) (fun hSat K hK => ?_); go_simp; (go_at_call 105; (with_reducible refine (HTK.out _).mono ?_); rintro e w' ⟨rfl, rfl⟩); go_wp2_with fail; refine hK.out _ _ ?_ ?_; (focus (exact hSat)); clear hK hSat K; (try simp only [Act.put, List.getElem_toArray, List.getElem_cons_zero, List.getElem_cons_succ, List.setIfInBounds_toArray, List.set_cons_zero, List.set_cons_succ]))
          (refine NJ.take (i := 6) (v := ?_) rfl rfl (by kernel_rfl) (by kernel_rfl) (by kernel_rfl) (by kernel_rfl) (fun _ _ _ h => h) (Or.inl ⟨by rfl, ?_⟩) ?_; rotate_left; (focus (intro wS hSw; (try dsimp only at hSw); go_simp; first | done | with_reducible rfl)); (try simp only [Act.put, List.getElem_toArray, List.getElem_cons_zero, List.getElem_cons_succ, List.setIfInBounds_toArray, List.set_cons_zero, List.set_cons_succ]))
          (refine NJ.take (i := 7) (v := ?_) rfl rfl (by kernel_rfl) (by kernel_rfl) (by kernel_rfl) (by kernel_rfl) (fun _ _ _ h => h) (Or.inl ⟨by rfl, ?_⟩) ?_; rotate_left; (focus (intro wS hSw; (try dsimp only at hSw); go_simp; first | done | with_reducible rfl)); (try simp only [Act.put, List.getElem_toArray, List.getElem_cons_zero, List.getElem_cons_succ, List.setIfInBounds_toArray, List.set_cons_zero, List.set_cons_succ]))
          (refine NJ.take (i := 8) (v := undef) rfl rfl (by kernel_rfl) (by kernel_rfl) (by kernel_rfl) (by kernel_rfl) (fun _ _ _ h => h) (Or.inr ⟨by rfl, rfl⟩) ?_; (try simp only [Act.put, List.getElem_toArray, List.getElem_cons_zero, List.getElem_cons_succ, List.setIfInBounds_toArray, List.set_cons_zero, List.set_cons_succ]))
          (refine NJ.take (i := 9) (v := undef) rfl rfl (by kernel_rfl) (by kernel_rfl) (by kernel_rfl) (by kernel_rfl) (fun _ _ _ h => h) (Or.inr ⟨by rfl, rfl⟩) ?_; (try simp only [Act.put, List.getElem_toArray, List.getElem_cons_zero, List.getElem_cons_succ, List.setIfInBounds_toArray, List.set_cons_zero, List.set_cons_succ]))
          (refine NJ.take (i := 10) (v := ?_) rfl rfl (by kernel_rfl) (by kernel_rfl) (by kernel_rfl) (by kernel_rfl) (fun _ _ _ h => h) (Or.inl ⟨by rfl, ?_⟩) ?_; rotate_left; (focus (intro wS hSw; (try dsimp only at hSw); go_simp; first | done | with_reducible rfl)); (try simp only [Act.put, List.getElem_toArray, List.getElem_cons_zero, List.getElem_cons_succ, List.setIfInBounds_toArray, List.set_cons_zero, List.set_cons_succ]))
          (refine NJ.step (i := 11) rfl rfl (by kernel_rfl) (fun hSat K hK => ?_); go_simp; refine hK.out _ _ ?_ ?_; (focus (first | exact hSat | go_keep)); clear hK hSat K; (try simp only [Act.put, List.getElem_toArray, List.getElem_cons_zero, List.getElem_cons_succ, List.setIfInBounds_toArray, List.set_cons_zero, List.set_cons_succ]))
          (refine NJ.take (i := 12) (v := ?_) rfl rfl (by kernel_rfl) (by kernel_rfl) (by kernel_rfl) (by kernel_rfl) (fun _ _ _ h => h) (Or.inl ⟨by rfl, ?_⟩) ?_; rotate_left; (focus (intro wS hSw; (try dsimp only at hSw); go_simp; first | done | with_reducible rfl)); (try simp only [Act.put, List.getElem_toArray, List.getElem_cons_zero, List.getElem_cons_succ, List.setIfInBounds_toArray, List.set_cons_zero, List.set_cons_succ]))
          refine NJ.done (by kernel_rfl) (fun hSat => ?_)
          clear hSat
          go_wp2_with fail
          refine bodyPost_ret (v := .tuple #[.agg #[.string (bt N), .string (bt V1)], .bool false]) ?_ rfl ?_
          · simp [results, Try.results111, go_sem, r0, r1]
          · exact ⟨k4, by have := HK1.out.1; have := HK2.out.1; have := HK4.out.1; omega, HK4.out.2.1, (by rw [HPS.out]; exact HK4.out.2.2), (by rw [HPS.out, HRV.out]; simp), ((HM8.out.far (by simp) hgne _).far (by simp) hgne _).drew⟩
        · skip
          refine wp_region_N 13 (fun w' => w'.cell? ⟨B, 0, none⟩ = some (.string (bt N)) ∧ w'.cell? ⟨B, 1, none⟩ = some (.string (bt V1))) (by kernel_rfl) (by kernel_rfl) ⟨d0, d1⟩ ?_
          (refine NJ.take (i := 0) (v := ?_) rfl rfl (by kernel_rfl) (by kernel_rfl) (by kernel_rfl) (by kernel_rfl) (fun _ _ _ h => h) (Or.inl ⟨by rfl, ?_⟩) ?_; rotate_left; (focus (intro wS hSw; (try dsimp only at hSw); go_simp; first | done | with_reducible rfl)); (try simp only [Act.put, List.getElem_toArray, List.getElem_cons_zero, List.getElem_cons_succ, List.setIfInBounds_toArray, List.set_cons_zero, List.set_cons_succ]))
          (refine NJ.take (i := 1) (v := ?_) rfl rfl (by kernel_rfl) (by kernel_rfl) (by kernel_rfl) (by kernel_rfl) (fun _ _ _ h => h) (Or.inl ⟨by rfl, ?_⟩) ?_; rotate_left; (focus (intro wS hSw; (try dsimp only at hSw); go_simp; first | done | with_reducible rfl)); (try simp only [Act.put, List.getElem_toArray, List.getElem_cons_zero, List.getElem_cons_succ, List.setIfInBounds_toArray, List.set_cons_zero, List.set_cons_succ]))
          (refine NJ.take (i := 2) (v := ?_) rfl rfl (by kernel_rfl) (by kernel_rfl) (by kernel_rfl) (by kernel_rfl) (fun _ _ _ h => h) (Or.inl ⟨by rfl, ?_⟩) ?_; rotate_left; (focus (intro wS hSw; (try dsimp only at hSw); go_simp; first | done | with_reducible rfl)); (try simp only [Act.put, List.getElem_toArray, List.getElem_cons_zero, List.getElem_cons_succ, List.setIfInBounds_toArray, List.set_cons_zero, List.set_cons_succ]))
          (refine NJ.take (i := 3) (v := ?_) rfl rfl (by kernel_rfl) (by kernel_rfl) (by kernel_rfl) (by kernel_rfl) (fun _ _ _ h => h) (Or.inl ⟨by rfl, ?_⟩) ?_; rotate_left; (focus (intro wS hSw; (try dsimp only at hSw); go_simp; first | done | with_reducible rfl)); (try simp only [Act.put, List.getElem_toArray, List.getElem_cons_zero, List.getElem_cons_succ, List.setIfInBounds_toArray, List.set_cons_zero, List.set_cons_succ]))
          (refine NJ.take (i := 4) (v := ?_) rfl rfl (by kernel_rfl) (by kernel_rfl) (by kernel_rfl) (by kernel_rfl) (fun _ _ _ h => h) (Or.inl ⟨by rfl, ?_⟩) ?_; rotate_left; (focus (intro wS hSw; (try dsimp only at hSw); go_simp; first | done | with_reducible rfl)); (try simp only [Act.put, List.getElem_toArray, List.getElem_cons_zero, List.getElem_cons_succ, List.setIfInBounds_toArray, List.set_cons_zero, List.set_cons_succ]))
          (refine NJ.step (i := 5) rfl rfl (by kernel_rfl) (fun hSat K hK => ?_); go_simp; (go_at_call 105; (with_reducible refine (HTK.out _).mono ?_); rintro e w' ⟨rfl, rfl⟩); go_wp2_with fail; refine hK.out _ _ ?_ ?_; (focus (exact hSat)); clear hK hSat K; (try simp only [Act.put, List.getElem_toArray, List.getElem_cons_zero, List.getElem_cons_succ, List.setIfInBounds_toArray, List.set_cons_zero, List.set_cons_succ]))
          (refine NJ.take (i := 6) (v := ?_) rfl rfl (by kernel_rfl) (by kernel_rfl) (by kernel_rfl) (by kernel_rfl) (fun _ _ _ h => h) (Or.inl ⟨by rfl, ?_⟩) ?_; rotate_left; (focus (intro wS hSw; (try dsimp only at hSw); go_simp; first | done | with_reducible rfl)); (try simp only [Act.put, List.getElem_toArray, List.getElem_cons_zero, List.getElem_cons_succ, List.setIfInBounds_toArray, List.set_cons_zero, List.set_cons_succ]))
          (refine NJ.take (i := 7) (v := ?_) rfl rfl (by kernel_rfl) (by kernel_rfl) (by kernel_rfl) (by kernel_rfl) (fun _ _ _ h => h) (Or.inl ⟨by rfl, ?_⟩) ?_; rotate_left; (focus (intro wS hSw; (try dsimp only at hSw); go_simp; first | done | with_reducible rfl)); (try simp only [Act.put, List.getElem_toArray, List.getElem_cons_zero, List.getElem_cons_succ, List.setIfInBounds_toArray, List.set_cons_zero, List.set_cons_succ]))
          (refine NJ.take (i := 8) (v := ?_) rfl rfl (by kernel_rfl) (by kernel_rfl) (by kernel_rfl) (by kernel_rfl) (fun _ _ _ h => h) (Or.inl ⟨by rfl, ?_⟩) ?_; rotate_left; (focus (intro wS hSw; (try dsimp only at hSw); go_simp; first | done | with_reducible rfl)); (try simp only [Act.put, List.getElem_toArray, List.getElem_cons_zero, List.getElem_cons_succ, List.setIfInBounds_toArray, List.set_cons_zero, List.set_cons_succ]))
          (refine NJ.step (i := 9) rfl rfl (by kernel_rfl) (fun hSat K hK => ?_); go_simp; (go_at_call 66; (with_reducible refine (HAL.out _).mono ?_); rintro e w' ⟨rfl, rfl⟩); go_wp2_with fail; refine hK.out _ _ ?_ ?_; (focus (exact hSat)); clear hK hSat K; (try simp only [Act.put, List.getElem_toArray, List.getElem_cons_zero, List.getElem_cons_succ, List.setIfInBounds_toArray, List.set_cons_zero, List.set_cons_succ]))
          (refine NJ.take (i := 10) (v := ?_) rfl rfl (by kernel_rfl) (by kernel_rfl) (by kernel_rfl) (by kernel_rfl) (fun _ _ _ h => h) (Or.inl ⟨by rfl, ?_⟩) ?_; rotate_left; (focus (intro wS hSw; (try dsimp only at hSw); go_simp; first | done | with_reducible rfl)); (try simp only [Act.put, List.getElem_toArray, List.getElem_cons_zero, List.getElem_cons_succ, List.setIfInBounds_toArray, List.set_cons_zero, List.set_cons_succ]))
          (refine NJ.step (i := 11) rfl rfl (by kernel_rfl) (fun hSat K hK => ?_); go_simp; refine hK.out _ _ ?_ ?_; (focus (first | exact hSat | go_keep)); clear hK hSat K; (try simp only [Act.put, List.getElem_toArray, List.getElem_cons_zero, List.getElem_cons_succ, List.setIfInBounds_toArray, List.set_cons_zero, List.set_cons_succ]))
          (refine NJ.take (i := 12) (v := ?_) rfl rfl (by kernel_rfl) (by kernel_rfl) (by kernel_rfl) (by kernel_rfl) (fun _ _ _ h => h) (Or.inl ⟨by rfl, ?_⟩) ?_; rotate_left; (focus (intro wS hSw; (try dsimp only at hSw); go_simp; first | done | with_reducible rfl)); (try simp only [Act.put, List.getElem_toArray, List.getElem_cons_zero, List.getElem_cons_succ, List.setIfInBounds_toArray, List.set_cons_zero, List.set_cons_succ]))
          refine NJ.done (by kernel_rfl) (fun hSat => ?_)
          clear hSat
          go_wp2_with fail
          refine bodyPost_ret (v := .tuple #[.agg #[.string (bt N), .string (bt V1)], .bool rq]) ?_ rfl ?_
          · simp [results, Try.results111, go_sem, r0, r1]
          · exact ⟨k4, by have := HK1.out.1; have := HK2.out.1; have := HK4.out.1; omega, HK4.out.2.1, (by rw [HPS.out]; exact HK4.out.2.2), (by rw [HPS.out, HRV.out]; simp), ((HM8.out.far (by simp) hgne _).far (by simp) hgne _).drew⟩
  · have HSK := Lib.hid (skip_none 61 g s k2 w4 HM4.out.1 HK2.out.2.1 hsm h61)
    have HPS : Hid (PS = (N, [], false, dropB s k2)) := Lib.hid (by rw [HP.out, if_neg h61])
    go_wp2_with fail
    refine HSK.out.mono ?_
    rintro e w5 ⟨rfl, hm5⟩
    have HM5 := Lib.hid (HM4.out.trans hm5)
    have hR5 := hm5.stands hgne HR4.out
    have hQ5 := hm5.stands hqg HQ4.out
    have c0 : w5.cell? ⟨B, 0, none⟩ = some (.string (bt N)) := by rw [Lib.cell_of_heap hQ5]; rfl
    have c1 : w5.cell? ⟨B, 1, none⟩ = some (.string ⟨#[]⟩) := by rw [Lib.cell_of_heap hQ5]; rfl
    have r0 : w5.cell? ⟨w.heap.size, 0, none⟩ = some (.string ⟨#[]⟩) := by rw [Lib.cell_of_heap hR5]; rfl
    have r1 : w5.cell? ⟨w.heap.size, 1, none⟩ = some (.string ⟨#[]⟩) := by rw [Lib.cell_of_heap hR5]; rfl
    have rz : ∀ o, w5.frozen? ⟨w.heap.size, o, none⟩ = false := fun o => Lib.frozen_of_heap hR5 o
    clear hm5 hR5 hQ5
    go_wp2_with fail
    refine bodyPost_ret (v := .tuple #[.agg #[.string (bt N), .string ⟨#[]⟩], .bool false]) ?_ rfl ?_
    · simp [results, Try.results111, go_sem, r0, r1]
    · refine ⟨k2, by have := HK1.out.1; have := HK2.out.1; omega, HK2.out.2.1, by rw [HPS.out], by rw [HPS.out]; rfl, (HM5.out.far (by simp) hgne _).far (by simp) hgne _⟩

end Go.Proofs.Ytdkkbibdjagjjaa

namespace Go.Proofs.Ytdkkbibdjagjjaa
set_option linter.unusedSimpArgs false
set_option linter.unusedVariables false

theorem parW_len (p : List UInt8 × List UInt8) : (parW p).length ≤ 4 + p.1.length + 2 * p.2.length := by
  have h := escL_length p.2
  unfold parW valW serL
  split <;> simp <;> omega

theorem parsW_len (l : Pars) (a b : Nat) (h : ∀ p ∈ l, p.1.length ≤ a ∧ p.2.length ≤ b) : (l.flatMap parW).length ≤ l.length * (4 + a + 2 * b) := by
  induction l with
  | nil => simp
  | cons p r ih =>
    have h1 := parW_len p
    have h2 := h p (by simp)
    have h3 := ih (fun q hq => h q (by simp [hq]))
    simp only [List.flatMap_cons, List.length_append, List.length_cons]
    rw [Nat.add_mul, Nat.one_mul]
    omega

theorem readL_len (l : List UInt8) : (readL l).1.length ≤ (readL l).2 := by
  match l with
  | [] => simp [readL]
  | [b] =>
    unfold readL
    split <;> simp
  | b :: x :: r =>
    have h1 := readL_len r
    have h2 := readL_len (x :: r)
    unfold readL
    split
    · simp
    · split
      · simp; omega
      · simp; omega
termination_by l.length

theorem tw_dw (p : UInt8 → Bool) (l : List UInt8) : (l.takeWhile p).length + (l.dropWhile p).length = l.length := by
  have := congrArg List.length (List.takeWhile_append_dropWhile (p := p) (l := l))
  rw [List.length_append] at this
  exact this

theorem valL_len3 (r : List UInt8) : (valL r).1.length + (valL r).2.2.length ≤ r.length := by
  unfold valL
  split
  · have h1 := (readL_le r.tail).1
    have h2 := readL_len r.tail
    have h3 := dropWhile_len nsemi (r.tail.drop (readL r.tail).2)
    rw [List.length_drop, List.length_tail] at h3
    rw [List.length_tail] at h1
    show (readL r.tail).1.length + ((r.tail.drop (readL r.tail).2).dropWhile nsemi).length ≤ r.length
    omega
  · have h1 := tw_dw nsemi r
    have h2 := trimEnd_le isWhite (r.takeWhile nsemi)
    show (trimEnd isWhite (r.takeWhile nsemi)).length + (r.dropWhile nsemi).length ≤ r.length
    omega

theorem parmStep_len3 (r : List UInt8) : (parmStep r).2.2.1 = true → (parmStep r).1.length + (parmStep r).2.1.length + (parmStep r).2.2.2.length + 1 ≤ r.length := by
  have h1 := dropWhile_len isWhite r
  have h2 := tw_dw nname (r.dropWhile isWhite)
  have h4 := valL_len3 ((r.dropWhile isWhite).dropWhile nname).tail
  rw [List.length_tail] at h4
  have hl : (lowerL ((r.dropWhile isWhite).takeWhile nname)).length = ((r.dropWhile isWhite).takeWhile nname).length := by
    unfold lowerL; rw [List.length_map]
  unfold parmStep
  dsimp only
  split
  · rename_i h61
    split
    · simp
    · intro _
      have hpos : 0 < ((r.dropWhile isWhite).dropWhile nname).length := by
        cases hx : (r.dropWhile isWhite).dropWhile nname with
        | nil => rw [hx] at h61; simp at h61
        | cons a b => simp
      show (lowerL _).length + (valL _).1.length + (valL _).2.2.length + 1 ≤ r.length
      omega
  · simp

theorem addP_len (acc : Pars) (r : List UInt8) : ((addP acc (parmStep r)).flatMap parW).length + 2 * (parmStep r).2.2.2.length ≤ (acc.flatMap parW).length + 2 * (r.length + 1) := by
  have h1 := parmStep_len r
  have h2 := parmStep_len3 r
  unfold addP
  split
  · rename_i hc
    rw [Bool.and_eq_true] at hc
    have h3 := h2 hc.1
    have h4 := parW_len ((parmStep r).1, (parmStep r).2.1)
    rw [List.flatMap_append, List.length_append]
    simp only [List.flatMap_cons, List.flatMap_nil, List.append_nil]
    simp only at h4
    omega
  · omega

theorem parsL_len (acc : Pars) (l : List UInt8) : ((parsL acc l).flatMap parW).length ≤ (acc.flatMap parW).length + 2 * l.length := by
  induction hn : l.length using Nat.strongRecOn generalizing l acc with
  | _ n ih =>
    match l with
    | [] => rw [parsL_nil]; omega
    | b :: r =>
      by_cases hb : b = 59
      · subst hb
        rw [parsL_semi]
        have h1 := parmStep_len r
        have h2 := addP_len acc r
        simp at hn
        have h3 := ih (parmStep r).2.2.2.length (by omega) (addP acc (parmStep r)) (parmStep r).2.2.2 rfl
        omega
      · rw [parsL_other _ _ _ hb]; omega

theorem mimeW_len {l : List UInt8} {m : MimeL} (h : parseL l = some m) : (mimeW m).length ≤ 2 * l.length + 1 := by
  unfold parseL at h
  dsimp only at h
  split at h
  · simp at h
  · simp only [Option.some.injEq] at h
    subst h
    have h0 : (trimL isWhite l).length ≤ l.length := by
      unfold trimL
      have h1 := trimEnd_le isWhite (l.dropWhile isWhite)
      have h2 := dropWhile_len isWhite l
      omega
    have h1 := tw_dw nslash (trimL isWhite l)
    have h2 := tw_dw nsemi ((trimL isWhite l).dropWhile nslash).tail
    have h3 := trimEnd_le isWhite (((trimL isWhite l).dropWhile nslash).tail.takeWhile nsemi)
    have h4 := parsL_len [] (((trimL isWhite l).dropWhile nslash).tail.dropWhile nsemi)
    have h5 : (((trimL isWhite l).dropWhile nslash).tail).length ≤ ((trimL isWhite l).dropWhile nslash).length := by rw [List.length_tail]; omega
    have e1 : (lowerL ((trimL isWhite l).takeWhile nslash)).length = ((trimL isWhite l).takeWhile nslash).length := by unfold lowerL; rw [List.length_map]
    have e2 : (lowerL (trimEnd isWhite (((trimL isWhite l).dropWhile nslash).tail.takeWhile nsemi))).length = (trimEnd isWhite (((trimL isWhite l).dropWhile nslash).tail.takeWhile nsemi)).length := by unfold lowerL; rw [List.length_map]
    unfold mimeW
    simp only [List.length_append, List.length_cons, List.flatMap_nil, List.length_nil] at *
    rw [e1, e2]
    omega

theorem escL_ge (l : List UInt8) : l.length ≤ (escL l).length := by
  induction l with
  | nil => simp
  | cons b r ih =>
    have he : escL (b :: r) = (if b = 34 ∨ b = 92 then [92, b] else [b]) ++ escL r := rfl
    have h1 : 1 ≤ (if b = 34 ∨ b = 92 then [92, b] else [b]).length := by split <;> simp
    rw [he, List.length_append, List.length_cons]
    omega

theorem parse_sizes {l : List UInt8} {m : MimeL} (h : parseL l = some m) (hl : l.length ≤ 400) : m.t.length ≤ 1000 ∧ m.s.length ≤ 1000 ∧ m.ps.length ≤ 1000 ∧ ∀ p ∈ m.ps, p.1.length ≤ 1000 ∧ p.2.length ≤ 1000 := by
  have hw := mimeW_len h
  unfold mimeW at hw
  simp only [List.length_append, List.length_cons] at hw
  have hmem : ∀ p ∈ m.ps, (parW p).length ≤ (m.ps.flatMap parW).length := by
    intro p hp
    generalize m.ps = q at *
    induction q with
    | nil => simp at hp
    | cons a r ih =>
      simp only [List.flatMap_cons, List.length_append]
      rcases List.mem_cons.1 hp with rfl | hp
      · omega
      · have := ih (by simp at hw ⊢; omega) hp
        omega
  have hcnt : m.ps.length ≤ (m.ps.flatMap parW).length := by
    generalize m.ps = q at *
    clear hw hmem h
    induction q with
    | nil => simp
    | cons a r ih =>
      simp only [List.flatMap_cons, List.length_append, List.length_cons]
      have : 1 ≤ (parW a).length := by unfold parW; simp
      omega
  have hpar : ∀ p : List UInt8 × List UInt8, p.1.length ≤ (parW p).length ∧ p.2.length ≤ (parW p).length := by
    intro p
    unfold parW valW serL
    have h1 := escL_ge p.2
    split <;> simp <;> omega
  refine ⟨by omega, by omega, by omega, fun p hp => ?_⟩
  have h1 := hmem p hp
  have h2 := hpar p
  omega

theorem few_len (m : MimeL) : (mimeW (fewM m)).length ≤ 1000 := by
  have h := parsW_len (fewM m).ps 20 30 (by
    intro p hp
    simp only [fewM, List.mem_map] at hp
    obtain ⟨q, _, rfl⟩ := hp
    simp [fewQ]; omega)
  have hn : (fewM m).ps.length ≤ 6 := by simp [fewM]; omega
  have ht : (fewM m).t.length ≤ 30 := by simp [fewM]; omega
  have hs : (fewM m).s.length ≤ 30 := by simp [fewM]; omega
  unfold mimeW
  simp only [List.length_append, List.length_cons]
  have : (fewM m).ps.length * (4 + 20 + 2 * 30) ≤ 6 * 84 := by
    have := Nat.mul_le_mul_right 84 hn
    simpa using this
  omega

end Go.Proofs.Ytdkkbibdjagjjaa
