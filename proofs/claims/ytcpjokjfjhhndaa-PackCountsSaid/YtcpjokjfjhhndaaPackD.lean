/-
  Walks of the reference's members.
-/
import Derived.Test.YtcpjokjfjhhndaaPackC
import Derived.Lib.SlBytesConst
namespace Go.Proofs.Ytcpjokjfjhhndaa
open Go.RowKit
set_option linter.unusedSimpArgs false
set_option linter.unusedVariables false

theorem BytesAt.ofCells (w : World) (l : List UInt8) (C : Array Value) (e : TypeId) (n m : Nat) (hC : C.toList = rowV l) (hn : l.length ≤ n) : BytesAt (w.alloc (.cells C e (n, m))) w.heap.size l := by
  intro j hj
  refine ⟨?_, ?_⟩
  · rw [World.cell?_alloc_mark, ← Array.getElem?_toList, hC]
    simp [rowV, hj]
  · rw [World.frozen?_alloc_mark]
    have : C.size = l.length := by rw [← Array.length_toList, hC]; simp [rowV]
    simp
    omega

/-- A member's head. -/
def headL (n r b : Nat) : List UInt8 :=
  [80, 75, 3, 4, 0, 0, 0, 0, 0, 0, 0, 0, 0, 0, 0, 0, 0, 0, UInt8.ofNat b, UInt8.ofNat (b / 256), 0, 0, 0, 0, 0, 0, UInt8.ofNat n, 0, UInt8.ofNat r, 0]

def memberB (n r b : ByteArray) : ByteArray := ((⟨(headL n.size r.size b.size).toArray⟩ ++ n) ++ r) ++ b

set_option maxRecDepth 20000 in
set_option maxHeartbeats 1000000 in
theorem Member_any (n r b : ByteArray) (w : World) (hn : n.size ≤ 40) (hr : r.size ≤ 40) (hb : b.size ≤ 300) :
    Calls Try.prog 55 #[.string n, .string r, .string b] w fun e w' => e = .returned (.string (memberB n r b)) ∧ Below w.heap.size w w' := by
  have kc := fun (w : World) (C : Array Value) (n c : Nat) => Lib.run_convert_bytes_const (P := Try.prog) w 68 5 C n c Try.underlying68 Try.underlying5
  go_enter Try.func55, Try.ntmps55
  go_upto_region 2 with fail
  generalize hW : w.alloc _ = W
  have h0 : BytesAt W w.heap.size (headL 0 0 0) := by rw [← hW]; exact BytesAt.ofCells w _ _ _ _ _ rfl (by simp [headL])
  have hB : Below w.heap.size w W := by rw [← hW]; exact below_box w _
  have z0 : w.heap.size < W.heap.size := by rw [← hW]; simp
  clear hW kc
  have h1 := h0.set 18 (by simp [headL]) (UInt8.ofNat b.size)
  have h2 := h1.set 19 (by simp [headL]) (UInt8.ofNat (b.size / 256))
  have h3 := h2.set 26 (by simp [headL]) (UInt8.ofNat n.size)
  have h4 := h3.set 28 (by simp [headL]) (UInt8.ofNat r.size)
  obtain ⟨p18, f18⟩ := h0 18 (by simp [headL])
  obtain ⟨p19, f19⟩ := h0 19 (by simp [headL])
  obtain ⟨p26, f26⟩ := h0 26 (by simp [headL])
  obtain ⟨p28, f28⟩ := h0 28 (by simp [headL])
  have H4 := Lib.hid h4
  have HB := Lib.hid hB
  simp [headL] at p18 p19 p26 p28
  clear h0 h1 h2 h3 h4 hB
  go_upto_region 3 with fail
  have hB4 := (((HB.out.setCell (p := ⟨w.heap.size, 18, none⟩) (Nat.le_refl _) (Value.int .u8 ((b.size : Int) % 256))).setCell (p := ⟨w.heap.size, 19, none⟩) (Nat.le_refl _) (Value.int .u8 ((b.size : Int) / 256))).setCell (p := ⟨w.heap.size, 26, none⟩) (Nat.le_refl _) (Value.int .u8 (n.size : Int))).setCell (p := ⟨w.heap.size, 28, none⟩) (Nat.le_refl _) (Value.int .u8 (r.size : Int))
  have h4 := H4.out
  have e1 : ((UInt8.ofNat b.size).toNat : Int) = (b.size : Int) % 256 := by rw [UInt8.toNat_ofNat']; omega
  have e2 : ((UInt8.ofNat (b.size / 256)).toNat : Int) = (b.size : Int) / 256 := by rw [UInt8.toNat_ofNat']; omega
  have e3 : ((UInt8.ofNat n.size).toNat : Int) = (n.size : Int) := by rw [UInt8.toNat_ofNat']; omega
  have e4 : ((UInt8.ofNat r.size).toNat : Int) = (r.size : Int) := by rw [UInt8.toNat_ofNat']; omega
  rw [e1, e2, e3, e4] at h4
  have hl : (((((headL 0 0 0).set 18 (UInt8.ofNat b.size)).set 19 (UInt8.ofNat (b.size / 256))).set 26 (UInt8.ofNat n.size)).set 28 (UInt8.ofNat r.size)) = headL n.size r.size b.size := rfl
  rw [hl] at h4
  clear hl e1 e2 e3 e4 H4 p18 p19 p26 p28 f18 f19 f26 f28 HB z0
  generalize ((((W.setCell ⟨w.heap.size, 18, none⟩ (Value.int .u8 ((b.size : Int) % 256))).setCell ⟨w.heap.size, 19, none⟩ (Value.int .u8 ((b.size : Int) / 256))).setCell ⟨w.heap.size, 26, none⟩ (Value.int .u8 (n.size : Int))).setCell ⟨w.heap.size, 28, none⟩ (Value.int .u8 (r.size : Int))) = W4 at *
  have hk := h4.back (P := Try.prog) (n := 30) 30 (by simp [headL]) 68 9 5 Try.underlying68 Try.underlying5 Try.underlying9
  have HB4 := Lib.hid hB4
  clear h4 hB4
  have HM : Hid (memberB n r b = ((⟨(headL n.size r.size b.size).toArray⟩ ++ n) ++ r) ++ b) := Lib.hid rfl
  have hz : (⟨(headL n.size r.size b.size).toArray⟩ : ByteArray).size = 30 := by rw [Lib.size_eq]; simp [headL]
  generalize (⟨(headL n.size r.size b.size).toArray⟩ : ByteArray) = hd at *
  go_wp2_with fail
  go_ret
  exact ⟨ret_string HM.out.symm, HB4.out⟩

theorem hd_size (n r b : Nat) : (⟨(headL n r b).toArray⟩ : ByteArray).size = 30 := by rw [Lib.size_eq]; simp [headL]

theorem member_size (n r b : ByteArray) : (memberB n r b).size = 30 + n.size + r.size + b.size := by
  unfold memberB
  rw [ByteArray.size_append, ByteArray.size_append, ByteArray.size_append, hd_size]

theorem extract_head (h t : ByteArray) (i j : Nat) (hj : j ≤ h.size) : (h ++ t).extract i j = h.extract i j := by
  apply ByteArray.ext
  rw [ByteArray.data_extract, ByteArray.data_append, ByteArray.data_extract]
  apply Array.ext'
  rw [Array.toList_extract, Array.toList_append, Array.toList_extract]
  simp only [List.extract_eq_take_drop]
  rw [Lib.size_eq] at hj
  by_cases hi : i ≤ j
  · rw [List.drop_append_of_le_length (by omega), List.take_append_of_le_length (by rw [List.length_drop]; omega)]
  · rw [show j - i = 0 by omega, List.take_zero, List.take_zero]

theorem extract_tail (h t : ByteArray) : (h ++ t).extract h.size (h ++ t).size = t := by
  apply ByteArray.ext
  rw [ByteArray.data_extract, ByteArray.data_append, ByteArray.size_append]
  apply Array.ext'
  simp
  rw [List.drop_eq_nil_of_le (by rw [← Lib.size_eq]; exact Nat.le_refl _), List.take_nil, List.nil_append, List.take_of_length_le (by rw [← Lib.size_eq]; exact Nat.le_refl _)]

theorem head_of (n r b : Nat) (t : ByteArray) (hn : n < 256) (hr : r < 256) (hb : b < 65536) :
    headB (⟨(headL n r b).toArray⟩ ++ t) = true ∧ memSize (⟨(headL n r b).toArray⟩ ++ t) = 30 + n + r + b := by
  have hz := hd_size n r b
  have x1 : (⟨(headL n r b).toArray⟩ ++ t : ByteArray).extract 0 4 = ⟨#[80, 75, 3, 4]⟩ := by
    rw [extract_head _ _ _ _ (by omega)]; rfl
  refine ⟨?_, ?_⟩
  · unfold headB
    rw [decide_eq_true (by rw [ByteArray.size_append]; omega), x1]
    decide +kernel
  · unfold memSize
    rw [extract_head _ _ _ _ (by omega), extract_head _ _ _ _ (by omega), extract_head _ _ _ _ (by omega)]
    have y1 : (⟨(headL n r b).toArray⟩ : ByteArray).extract 26 28 = ⟨#[UInt8.ofNat n, 0]⟩ := rfl
    have y2 : (⟨(headL n r b).toArray⟩ : ByteArray).extract 28 30 = ⟨#[UInt8.ofNat r, 0]⟩ := rfl
    have y3 : (⟨(headL n r b).toArray⟩ : ByteArray).extract 18 22 = ⟨#[UInt8.ofNat b, UInt8.ofNat (b / 256), 0, 0]⟩ := rfl
    rw [y1, y2, y3]
    simp only [lowB, lowN, UInt8.toNat_ofNat']
    have z0 : (0 : UInt8).toNat = 0 := rfl
    rw [z0]
    omega

theorem member_whole (n r b t : ByteArray) (hn : n.size < 256) (hr : r.size < 256) (hb : b.size < 65536) :
    memN (memberB n r b ++ t) = memN t + 1 ∧ memE (memberB n r b ++ t) = memE t := by
  have e : memberB n r b ++ t = ⟨(headL n.size r.size b.size).toArray⟩ ++ (n ++ r ++ b ++ t) := by
    unfold memberB
    simp only [ByteArray.append_assoc]
  obtain ⟨h1, h2⟩ := head_of n.size r.size b.size (n ++ r ++ b ++ t) hn hr hb
  rw [← e] at h1 h2
  have hs := member_size n r b
  have hw : wholeB (memberB n r b ++ t) = true := by
    unfold wholeB
    rw [h1, h2, decide_eq_true (by rw [ByteArray.size_append]; omega)]; rfl
  obtain ⟨g1, g2⟩ := mem_whole hw
  rw [h2, ← hs, extract_tail] at g1 g2
  exact ⟨g1, g2⟩

/-- Three texts. -/
structure Trip where
  a : ByteArray
  b : ByteArray
  c : ByteArray

instance : Inhabited Trip := ⟨⟨⟨#[]⟩, ⟨#[]⟩, ⟨#[]⟩⟩⟩

def tripM (t : Trip) : ByteArray := memberB (cutB t.a 40) (cutB t.b 40) (cutB t.c 300)

/-- All members, one behind the other. -/
def joinM : List Trip → ByteArray
  | [] => ⟨#[]⟩
  | t :: l => tripM t ++ joinM l

theorem joinM_append (a b : List Trip) : joinM (a ++ b) = joinM a ++ joinM b := by
  induction a with
  | nil => exact (ByteArray.empty_append (b := joinM b)).symm
  | cons t l ih => simp only [List.cons_append, joinM, ih, ByteArray.append_assoc]

theorem joinM_mem (l : List Trip) (t : ByteArray) : memN (joinM l ++ t) = l.length + memN t ∧ memE (joinM l ++ t) = memE t := by
  induction l with
  | nil =>
    have : joinM [] ++ t = t := ByteArray.empty_append
    rw [this]; simp
  | cons x l ih =>
    simp only [joinM, ByteArray.append_assoc]
    have h1 := cutB_size x.a 40
    have h2 := cutB_size x.b 40
    have h3 := cutB_size x.c 300
    obtain ⟨g1, g2⟩ := member_whole (cutB x.a 40) (cutB x.b 40) (cutB x.c 300) (joinM l ++ t) (by omega) (by omega) (by omega)
    unfold tripM
    rw [g1, g2, ih.1, ih.2]
    exact ⟨by simp; omega, rfl⟩

theorem joinM_size (l : List Trip) : (joinM l).size ≤ 410 * l.length := by
  induction l with
  | nil => exact Nat.le_refl 0
  | cons x l ih =>
    simp only [joinM, List.length_cons, tripM]
    have h1 := cutB_size x.a 40
    have h2 := cutB_size x.b 40
    have h3 := cutB_size x.c 300
    rw [ByteArray.size_append, member_size]
    omega

theorem joinM_take (l : List Trip) (k : Nat) (hk : k < l.length) : joinM (l.take (k + 1)) = joinM (l.take k) ++ tripM l[k] := by
  rw [List.take_succ_eq_append_getElem hk, joinM_append]
  simp only [joinM]
  rw [show tripM l[k] ++ (⟨#[]⟩ : ByteArray) = tripM l[k] from ByteArray.append_empty]

end Go.Proofs.Ytcpjokjfjhhndaa
