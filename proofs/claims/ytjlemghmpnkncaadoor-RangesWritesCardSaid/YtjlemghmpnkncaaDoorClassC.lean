/-
  Walks of the reference of package class: a text with small letters.
-/
import Derived.Test.YtjlemghmpnkncaaDoorClassB
namespace Go.Proofs.YtjlemghmpnkncaaDoor
open Go.RowKit
set_option linter.unusedSimpArgs false
set_option linter.unusedVariables false

theorem infoU8 : (Tryd.prog.info? 5).map (fun i => (i.zero, i.size, i.bytes)) = some (some (.int .u8 0), 1, 1) := by kernel_rfl

/-- The first k bytes of a text, made small, as values. -/
def lowVals (s : ByteArray) (k : Nat) : List Value := ((lowerL s.data.toList).take k).map fun b => Value.int .u8 (b.toNat : Int)

theorem lowVals_step (s : ByteArray) (k : Nat) (hk : k < s.size) (x : Int) (hx : x = ((lowOf s[k]).toNat : Int)) : lowVals s (k + 1) = lowVals s k ++ [.int .u8 x] := by
  unfold lowVals
  rw [List.take_succ_eq_append_getElem (by rw [lowerL_length]; exact hk), List.map_append, lowerL_at s k hk, hx]
  rfl

theorem ownsBytes_back {P : Program} {w : World} {base : Nat} {e : TypeId} {v : Value} {n : Nat} {s : ByteArray} (h : w.ownsRow base e 1 v n (lowVals s n)) (hn : n = s.size) (hv : v ≠ .slice none 0 0) (src dst : TypeId)
    (hs : P.underlying src = some (.slice e)) (he : P.underlying e = some (.int .u8)) (hd : P.underlying dst = some .string) :
    (convert src dst v).run P w = .ok (.string (lowerB s)) w := by
  subst hn
  obtain ⟨hl, h2⟩ := h
  rcases h2 with ⟨h2, _⟩ | ⟨g, cap, cur, rfl, hg, hh, hc1, hc2, hc3, hc4⟩
  · exact absurd h2 hv
  · have hlen : s.size = (lowerL s.data.toList).length := by rw [lowerL_length]
    have := run_convert_bytes_back (P := P) w src dst e ⟨g, 0, none⟩ cap (lowerL s.data.toList) hs he hd (by
      intro j hj
      have hw : w.ownsRow base e 1 (.slice (some ⟨g, 0, none⟩) s.size cap) s.size (lowVals s s.size) := ⟨hl, .inr ⟨g, cap, cur, rfl, hg, hh, hc1, hc2, hc3, hc4⟩⟩
      have hc := hw.cellAt j (by rw [Nat.mul_one, hlen]; exact hj)
      rw [show (⟨g, 0, none⟩ : Addr).add j = ⟨g, j, none⟩ from by rw [Addr.add_lit, Nat.zero_add], hc]
      unfold lowVals
      rw [List.take_of_length_le (by omega), List.getElem?_map, List.getElem?_eq_getElem hj]
      rfl)
    rw [← hlen] at this
    exact this

end Go.Proofs.YtjlemghmpnkncaaDoor
