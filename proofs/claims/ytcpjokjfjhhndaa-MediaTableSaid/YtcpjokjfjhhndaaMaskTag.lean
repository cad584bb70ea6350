/-
  Walks of package mask: the pattern of a tag.
-/
import Derived.Test.YtcpjokjfjhhndaaMaskB
import Derived.Laws.MakeOwn
import Derived.RegionTactic
namespace Go.Proofs.Ytcpjokjfjhhndaa
open Go.RowKit
set_option linter.unusedSimpArgs false
set_option linter.unusedVariables false

/-- A byte of a tag's pattern, and of its mask. -/
def tagOf (c : UInt8) : UInt8 := if isLetter c then c &&& 223 else c
def maskOf (c : UInt8) : UInt8 := if isLetter c then 223 else 255

def tagB (s : ByteArray) : ByteArray := ⟨(s.data.toList.map tagOf).toArray⟩
def maskB (s : ByteArray) : ByteArray := ⟨(s.data.toList.map maskOf).toArray⟩
def tagSkip : ByteArray := ⟨#[9, 10, 12, 13, 32]⟩

theorem tagB_size (s : ByteArray) : (tagB s).size = s.size := by rw [Lib.size_eq, Lib.size_eq]; simp [tagB]
theorem maskB_size (s : ByteArray) : (maskB s).size = s.size := by rw [Lib.size_eq, Lib.size_eq]; simp [maskB]

/-- The first k turned by f, the others by g. -/
def mapTo (f g : UInt8 → UInt8) (l : List UInt8) (k : Nat) : List UInt8 := (l.take k).map f ++ (l.drop k).map g

theorem mapTo_length (f g : UInt8 → UInt8) (l : List UInt8) (k : Nat) : (mapTo f g l k).length = l.length := by
  simp [mapTo]; omega

theorem mapTo_zero (f g : UInt8 → UInt8) (l : List UInt8) : mapTo f g l 0 = l.map g := by simp [mapTo]

theorem mapTo_all (f g : UInt8 → UInt8) (l : List UInt8) : mapTo f g l l.length = l.map f := by simp [mapTo]

theorem mapTo_at (f g : UInt8 → UInt8) (l : List UInt8) (k : Nat) (hk : k < l.length) : (mapTo f g l k)[k]'(by rw [mapTo_length]; exact hk) = g l[k] := by
  simp only [mapTo]
  rw [List.getElem_append_right (by simp; omega)]
  simp
  congr 2
  omega

theorem mapTo_step (f g : UInt8 → UInt8) (l : List UInt8) (k : Nat) (hk : k < l.length) : (mapTo f g l k).set k (f l[k]) = mapTo f g l (k + 1) := by
  have e1 : ((l.take k).map f).length = k := by simp; omega
  unfold mapTo
  rw [List.drop_eq_getElem_cons hk, List.map_cons, List.set_append_right _ _ (by omega), e1, Nat.sub_self, List.set_cons_zero, List.take_succ_eq_append_getElem hk]
  simp only [List.map_append, List.map_cons, List.map_nil, List.append_assoc, List.cons_append, List.nil_append]

theorem BytesAt.other {w : World} {g g2 : Nat} {l : List UInt8} (h : BytesAt w g l) (hne : g2 ≠ g) (k : Nat) (v : Value) : BytesAt (w.setCell ⟨g2, k, none⟩ v) g l := by
  intro j hj
  have := h j hj
  refine ⟨?_, by rw [World.frozen?_setCell]; exact this.2⟩
  rw [World.cell?_setCell_other _ _ _ _ (fun e => hne (congrArg Addr.block e))]
  exact this.1

/-- A row of zero bytes. -/
def zeroRow (n : Nat) : Array Value := madeCells #[.int .u8 0] n

theorem bytesAt_zeros (w : World) (n : Nat) (e : TypeId) : BytesAt (w.alloc (.cells (zeroRow n) e)) w.heap.size (List.replicate n 0) := by
  intro j hj
  have hj' : j < n := by simpa using hj
  have h0 : (zeroRow n)[j]? = some (.int .u8 0) := by
    unfold zeroRow
    rw [← Array.getElem?_toList, toList_madeCells_one]
    simp [hj']
  refine ⟨?_, by simp [go_sem]⟩
  rw [show (w.alloc (.cells (zeroRow n) e)).cell? ⟨w.heap.size, j, none⟩ = (zeroRow n)[j]? from cell_of_row _ _ _ _ _ (0, 0) (heap_alloc_new w _), h0]
  simp

theorem infoByte : (Try.prog.info? 5).map (fun i => (i.zero, i.size, i.bytes)) = some (some (.int .u8 0), 1, 1) := by kernel_rfl

theorem make_bytes (n : Nat) (hn : n ≤ 100000) (w : World) :
    (Instr.makeSlice 68 (.int .i64 (n : Int)) (.int .i64 (n : Int))).run Try.prog w = .ok (.slice (some ⟨w.heap.size, 0, none⟩) n n) (w.alloc (.cells (zeroRow n) 5)) := by
  obtain ⟨i0, hi, hz0, hz1, hz2⟩ := info_parts infoByte
  have h := run_make (P := Try.prog) w 68 5 i0 (.int .u8 0) Try.underlying68 hi hz0 .i64 .i64 n n (by omega) (by omega) (by rw [hz2]; omega) (by omega)
  rw [hz1] at h
  rw [h]
  simp [zeroRow, Value.cells]

theorem replicate_map (l : List UInt8) : l.map (fun _ => (0 : UInt8)) = List.replicate l.length 0 := by
  induction l with
  | nil => rfl
  | cons x l ih => simp [ih, List.replicate_succ]

/-- What Tag has made so far. -/
def Tagged (s : ByteArray) (g1 g2 k : Nat) (w wr : World) : Prop :=
  BytesAt wr g1 (mapTo tagOf id s.data.toList k) ∧ BytesAt wr g2 (mapTo maskOf (fun _ => 0) s.data.toList k) ∧ Below w.heap.size w wr

theorem tagged_yes {s : ByteArray} {g1 g2 k : Nat} {w wr : World} (h : Tagged s g1 g2 k w wr) (hg : g1 ≠ g2) (h1 : w.heap.size ≤ g1) (h2 : w.heap.size ≤ g2) (hk : k < s.size) (hl : isLetter s[k] = true) :
    Tagged s g1 g2 (k + 1) w (((wr.setCell ⟨g2, k, none⟩ (.int .u8 255)).setCell ⟨g1, k, none⟩ (.int .u8 ((s[k] &&& 223).toNat : Int))).setCell ⟨g2, k, none⟩ (.int .u8 223)) := by
  have hk' : k < s.data.toList.length := by rw [← Lib.size_eq]; exact hk
  rw [getElem_data s k hk] at hl ⊢
  have e1 : tagOf s.data.toList[k] = s.data.toList[k] &&& 223 := by unfold tagOf; rw [if_pos hl]
  have e2 : maskOf s.data.toList[k] = 223 := by unfold maskOf; rw [if_pos hl]
  obtain ⟨ha, hb, hw⟩ := h
  refine ⟨?_, ?_, ((hw.setCell h2 _).setCell h1 _).setCell h2 _⟩
  · have := ((ha.other (g2 := g2) (fun e => hg e.symm) k (.int .u8 255)).set k (by rw [mapTo_length]; exact hk') (tagOf s.data.toList[k])).other (g2 := g2) (fun e => hg e.symm) k (.int .u8 223)
    rw [mapTo_step _ _ _ _ hk', e1] at this
    exact this
  · have := (((hb.set k (by rw [mapTo_length]; exact hk') 255).other (g2 := g1) hg k (.int .u8 ((s.data.toList[k] &&& 223).toNat : Int))).set k (by simp [mapTo_length]; exact hk) (maskOf s.data.toList[k]))
    rw [List.set_set, mapTo_step _ _ _ _ hk', e2] at this
    exact this

theorem tagged_no {s : ByteArray} {g1 g2 k : Nat} {w wr : World} (h : Tagged s g1 g2 k w wr) (hg : g1 ≠ g2) (h2 : w.heap.size ≤ g2) (hk : k < s.size) (hl : isLetter s[k] = false) :
    Tagged s g1 g2 (k + 1) w (wr.setCell ⟨g2, k, none⟩ (.int .u8 255)) := by
  have hk' : k < s.data.toList.length := by rw [← Lib.size_eq]; exact hk
  rw [getElem_data s k hk] at hl
  have e1 : tagOf s.data.toList[k] = s.data.toList[k] := by unfold tagOf; rw [if_neg (by rw [hl]; decide)]
  have e2 : maskOf s.data.toList[k] = 255 := by unfold maskOf; rw [if_neg (by rw [hl]; decide)]
  obtain ⟨ha, hb, hw⟩ := h
  refine ⟨?_, ?_, hw.setCell h2 _⟩
  · have := ha.other (g2 := g2) (fun e => hg e.symm) k (.int .u8 255)
    have e : mapTo tagOf id s.data.toList (k + 1) = mapTo tagOf id s.data.toList k := by
      rw [← mapTo_step _ _ _ _ hk', show tagOf s.data.toList[k] = (mapTo tagOf id s.data.toList k)[k]'(by rw [mapTo_length]; exact hk') by rw [mapTo_at _ _ _ _ hk', e1]; rfl, List.set_getElem_self]
    rw [e]
    exact this
  · have := hb.set k (by rw [mapTo_length]; exact hk') (maskOf s.data.toList[k])
    rw [mapTo_step _ _ _ _ hk', e2] at this
    exact this

theorem Tagged.drew {s : ByteArray} {g1 g2 k : Nat} {w wr : World} (h : Tagged s g1 g2 k w wr) : Tagged s g1 g2 k w wr.drew := ⟨h.1, h.2.1, h.2.2.drew⟩

theorem bytesAt_alloc {w : World} {g : Nat} {l : List UInt8} (h : BytesAt w g l) (hg : g < w.heap.size) (o : Obj) : BytesAt (w.alloc o) g l := h.below (below_box w o) hg

theorem tagged_start1 {s : ByteArray} {w W0 : World} (hw : Below w.heap.size w W0) (cap : Nat) :
    Tagged s W0.heap.size (W0.heap.size + 1) 0 w ((W0.alloc (.cells (bytesRow s cap) 5 ((bytesRow s cap).size, (bytesRow s cap).size + 1))).alloc (.cells (zeroRow s.size) 5)) := by
  refine ⟨?_, ?_, (hw.alloc hw.size _).alloc (by have := hw.size; simp; omega) _⟩
  · rw [mapTo_zero, List.map_id]
    exact bytesAt_alloc (BytesAt.ofString W0 s cap 5) (by simp) _
  · have := bytesAt_zeros (W0.alloc (.cells (bytesRow s cap) 5 ((bytesRow s cap).size, (bytesRow s cap).size + 1))) s.size 5
    rw [mapTo_zero, replicate_map, ← Lib.size_eq]
    simpa using this

theorem tagged_start2 {s : ByteArray} {w W0 : World} (hw : Below w.heap.size w W0) (cap : Nat) :
    Tagged s (W0.heap.size + 1) W0.heap.size 0 w ((W0.alloc (.cells (zeroRow s.size) 5)).alloc (.cells (bytesRow s cap) 5 ((bytesRow s cap).size, (bytesRow s cap).size + 1))) := by
  refine ⟨?_, ?_, (hw.alloc hw.size _).alloc (by have := hw.size; simp; omega) _⟩
  · rw [mapTo_zero, List.map_id]
    have := BytesAt.ofString (W0.alloc (.cells (zeroRow s.size) 5)) s cap 5
    simpa using this
  · rw [mapTo_zero, replicate_map, ← Lib.size_eq]
    exact bytesAt_alloc (bytesAt_zeros W0 s.size 5) (by simp) _

theorem Tagged.at_ {s : ByteArray} {a b a' b' k : Nat} {w wr : World} (h : Tagged s a b k w wr) (e1 : a = a') (e2 : b = b') : Tagged s a' b' k w wr := by subst e1 e2; exact h

theorem tagged_cells {s : ByteArray} {g1 g2 k : Nat} {w wr : World} (h : Tagged s g1 g2 k w wr) (hk : k < s.size) :
    wr.cell? ⟨g1, k, none⟩ = some (.int .u8 (s[k].toNat : Int)) ∧ wr.cell? ⟨g2, k, none⟩ = some (.int .u8 0) ∧ wr.frozen? ⟨g1, k, none⟩ = false ∧ wr.frozen? ⟨g2, k, none⟩ = false := by
  have hk' : k < s.data.toList.length := by rw [← Lib.size_eq]; exact hk
  obtain ⟨ha, hb, _⟩ := h
  have h1 := ha k (by rw [mapTo_length]; exact hk')
  have h2 := hb k (by rw [mapTo_length]; exact hk')
  rw [mapTo_at _ _ _ _ hk'] at h1 h2
  exact ⟨by rw [getElem_data s k hk]; exact h1.1, by simpa using h2.1, h1.2, h2.2⟩

set_option maxHeartbeats 1000000 in
set_option maxRecDepth 20000 in
theorem Tag_any (s kind : ByteArray) (w : World) (hs : s.size ≤ 1000) :
    Calls Try.prog 64 #[.string s, .string kind] w fun e w' => e = .returned (patV (tagB s) (maskB s) tagSkip kind) ∧ Below w.heap.size w w' := by
  have hconv := run_bytes_of_string (P := Try.prog) w 9 68 5 s Try.underlying9 Try.underlying68 Try.underlying5
  go_enter Try.func64, Try.ntmps64
  go_upto_region 1 with fail
  go_cut [5, 6] (fun s5 s6 wx => ∃ g1 g2 c1, s5 = .slice (some ⟨g1, 0, none⟩) s.size c1 ∧ s6 = .slice (some ⟨g2, 0, none⟩) s.size s.size ∧ g1 ≠ g2 ∧ w.heap.size < g1 ∧ w.heap.size < g2 ∧ wx.heap[w.heap.size]? = some (.cells #[.string ⟨#[]⟩, .string ⟨#[]⟩, .string ⟨#[]⟩, .string ⟨#[]⟩] 25 (0, 0)) ∧ Tagged s g1 g2 0 w wx)
  case first =>
    have hmk := make_bytes s.size (by omega)
    have hconv2 := fun w => run_bytes_of_string (P := Try.prog) w 9 68 5 s Try.underlying9 Try.underlying68 Try.underlying5
    clear hconv
    go_region
    · go_wp2_with fail
      go_meet
      exact ⟨_, _, _, rfl, rfl, by omega, by omega, by omega, (Below.heap_alloc _ _ _ (by simp; omega)).trans ((Below.heap_alloc _ _ _ (by simp)).trans (heap_alloc_new w _)), (tagged_start1 (below_box w _) _).drew.drew.at_ (by simp) (by simp)⟩
    · go_wp2_with fail
      go_meet
      exact ⟨_, _, _, rfl, rfl, by omega, by omega, by omega, (Below.heap_alloc _ _ _ (by simp; omega)).trans ((Below.heap_alloc _ _ _ (by simp)).trans (heap_alloc_new w _)), (tagged_start2 (below_box w _) _).drew.drew.at_ (by simp) (by simp)⟩
  obtain ⟨g1, g2, c1, rfl, rfl, hne, hg1, hg2, hc0, ht⟩ := hcut
  obtain ⟨W1, rfl⟩ : ∃ W1 : World, W1 = wc := ⟨_, rfl⟩
  have HT := Lib.hid ht
  have H0 := Lib.hid hc0
  clear ht hc0 hconv
  go_wp2_with fail
  go_loopw [15] (fun i wr => ∃ k : Nat, k ≤ s.size ∧ i = .int .i64 k ∧ wr.heap[w.heap.size]? = some (.cells #[.string ⟨#[]⟩, .string ⟨#[]⟩, .string ⟨#[]⟩, .string ⟨#[]⟩] 25 (0, 0)) ∧ Tagged s g1 g2 k w wr) (fun i _ => s.size - (intOf i).toNat)
  case atStart => exact ⟨0, Nat.zero_le _, rfl, H0.out, HT.out⟩
  case round =>
    obtain ⟨k, hk, rfl, hh, ht⟩ := hrel
    have HH := Lib.hid hh
    have HR := Lib.hid ht
    clear hh ht
    by_cases hlt : k < s.size
    · obtain ⟨c1, c2, f1, f2⟩ := tagged_cells HR.out hlt
      cases hl : isLetter s[k]
      · have HS := Lib.hid (tagged_no HR.out hne (by omega) hlt hl)
        have HL := Lib.hid hl
        clear hl
        generalize s[k] = x at *
        go_wp2_with (go_at_call 87; refine (Letter_any _ _).mono ?_; rintro e w' ⟨rfl, rfl⟩; rw [HL.out])
        go_roundw
        case rel => exact ⟨k + 1, by omega, by go_num, (Below.heap_setCell _ _ _ _ (by simp; omega)).trans HH.out, HS.out⟩
        case measure => simp [intOf]; omega
      · have HS := Lib.hid (tagged_yes HR.out hne (by omega) (by omega) hlt hl)
        have HL := Lib.hid hl
        have hand : bits .and .u8 (s[k].toNat : Int) 223 = ((s[k] &&& 223).toNat : Int) := and_bytes s[k] 223
        clear hl
        generalize s[k] = x at *
        go_wp2_with (go_at_call 87; refine (Letter_any _ _).mono ?_; rintro e w' ⟨rfl, rfl⟩; rw [HL.out])
        go_roundw
        case rel => exact ⟨k + 1, by omega, by go_num, (Below.heap_setCell _ _ _ _ (by simp; omega)).trans ((Below.heap_setCell _ _ _ _ (by simp; omega)).trans ((Below.heap_setCell _ _ _ _ (by simp; omega)).trans HH.out)), HS.out⟩
        case measure => simp [intOf]; omega
    · obtain rfl : k = s.size := by omega
      obtain ⟨ha, hb, hw⟩ := HR.out
      rw [Lib.size_eq, mapTo_all] at ha hb
      have b1 := ha.back (P := Try.prog) (n := s.size) c1 (by rw [List.length_map, ← Lib.size_eq]) 68 9 5 Try.underlying68 Try.underlying5 Try.underlying9
      have b2 := hb.back (P := Try.prog) (n := s.size) s.size (by rw [List.length_map, ← Lib.size_eq]) 68 9 5 Try.underlying68 Try.underlying5 Try.underlying9
      have q0 := cell_of_row wr w.heap.size 0 _ _ (0, 0) HH.out
      have q1 := cell_of_row wr w.heap.size 1 _ _ (0, 0) HH.out
      have q2 := cell_of_row wr w.heap.size 2 _ _ (0, 0) HH.out
      have q3 := cell_of_row wr w.heap.size 3 _ _ (0, 0) HH.out
      have hfz : ∀ o, wr.frozen? ⟨w.heap.size, o, none⟩ = false := fun o => by have := HH.out; simp [World.frozen?, this]
      simp at q0 q1 q2 q3
      clear ha hb
      go_wp2_with fail
      refine bodyPost_ret (v := patV (tagB s) (maskB s) tagSkip kind) ?_ rfl ⟨rfl, (((hw.setCell (Nat.le_refl _) _).setCell (Nat.le_refl _) _).setCell (Nat.le_refl _) _).setCell (Nat.le_refl _) _⟩
      simp [results, Try.results64, go_sem, q0, q1, q2, q3, tagB, maskB, tagSkip]

end Go.Proofs.Ytcpjokjfjhhndaa
