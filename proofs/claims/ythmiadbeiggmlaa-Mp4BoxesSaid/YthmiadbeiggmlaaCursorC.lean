/-
  The calls of the statements on cursors; their living call.
-/
import Derived.Test.YthmiadbeiggmlaaCursorB
import Derived.Test.YthmiadbeiggmlaaTrapVStr
import Derived.Test.YthmiadbeiggmlaaTrapVU32
import Derived.Laws.IdiomStrings
namespace Go.Proofs.Ythmiadbeiggmlaa
open Go.RowKit
set_option linter.unusedSimpArgs false
set_option linter.unusedVariables false

theorem entersNext : Enters 47 := fun args w => MuLone.run_callFunc_enter Try.func47 (by kernel_rfl) rfl args w
theorem entersStr1 : Enters 71 := fun args w => MuLone.run_callFunc_enter Try.func71 (by kernel_rfl) rfl args w

theorem one_byte {P : Program} (src dst e : TypeId) (b : UInt8) (hs : P.underlying src = some (.slice e)) (he : P.underlying e = some (.int .u8)) (hd : P.underlying dst = some .string) (w : World) (a : Nat) (ha : a = w.heap.size) :
    (convert src dst (.slice (some ⟨a, 0, none⟩) 1 1)).run P (w.alloc (.cells #[.int .u8 (b.toNat : Int)] e)) = .ok (.string ⟨#[b]⟩) (w.alloc (.cells #[.int .u8 (b.toNat : Int)] e)) := by
  subst ha
  refine run_convert_bytes_back (w.alloc (.cells #[.int .u8 (b.toNat : Int)] e)) src dst e ⟨w.heap.size, 0, none⟩ 1 [b] hs he hd ?_
  intro j hj
  simp at hj
  subst hj
  simp [go_sem, Addr.add]

theorem callNext_gives (g : Nat) (n : Int) (s : ByteArray) (k : Nat) (w : World) (h : Cur w g s k) (hk : k < s.size) (hs : s.size ≤ maxLen) :
    Calls Try.prog 47 #[.agg #[.pointer (some ⟨g, 0, none⟩), .int .i64 n]] w fun e w' => e = .returned (.string ⟨#[s[k]]⟩) ∧ Moved g s (k + 1) w w' := by
  have hb := fun (w : World) (a : Nat) (ha : a = w.heap.size) => one_byte (P := Try.prog) 89 9 5 s[k] Try.underlying89 Try.underlying5 Try.underlying9 w a ha
  have HM : ∀ w1, Below w.heap.size w w1 → Cur w1 g s k := fun w1 hw => h.below hw h.lt
  have HC := Lib.hid (fun w1 hw => Next_gives g s k w1 (HM w1 hw) hk hs)
  have HL := Lib.hid h.lt
  clear HM h
  generalize s[k] = b at *
  go_enter Try.func47, Try.ntmps47
  go_wp2_with fail
  refine (HC.out _ (below_box _ _)).mono ?_
  rintro e w2 ⟨rfl, hm⟩
  have hb2 := hb w2 w2.heap.size rfl
  clear hb
  go_wp2_with fail
  go_ret
  refine ⟨rfl, ?_⟩
  exact Moved.alloc ⟨hm.1, ((But.refl _ _).alloc _).trans hm.2⟩ _

theorem lives02_any (w : World) :
    Calls Try.prog 13 #[] w fun e w' => e = .returned (.bool true) ∧ Below w.heap.size w w' := by
  have hmf : ∀ (fn : Fn) (first cap : Array Value) (w : World), (Instr.makeFunc fn first cap).run Try.prog w = .ok (.func fn first cap) w := fun _ _ _ _ => rfl
  go_enter Try.func13, Try.ntmps13
  go_wp2_with (go_at_call 20; refine (New_any _ _).mono ?_; rintro e w' ⟨rfl, rfl⟩)
  have h0 := Cur.new w ⟨#[97, 98]⟩
  refine (valueStr_gives 47 #[.agg #[.pointer (some ⟨w.heap.size, 0, none⟩), .int .i64 0]] #[] ⟨#[97]⟩ (w.heap.size + 1) (Moved w.heap.size ⟨#[97, 98]⟩ 1 (w.alloc (.cells #[.string ⟨#[97, 98]⟩, .int .i64 0] 79))) _ entersNext entersStr1 (by simp) (Moved.stays (by simp)) ?_).mono ?_
  · intro w1 h1
    have hc := h0.below h1 (by simp)
    rw [Array.append_empty]
    refine (callNext_gives w.heap.size 0 ⟨#[97, 98]⟩ 0 w1 hc (by decide) (by unfold maxLen; decide)).mono ?_
    rintro e w' ⟨rfl, hm⟩
    exact ⟨rfl, hm.2.keeps (by omega), ⟨hm.1, (But.of_below h1).trans hm.2⟩⟩
  rintro e w2 ⟨rfl, _, hm⟩
  have hz := hm.2.size
  simp at hz
  have hz2 : w.heap.size < w2.heap.size := by omega
  have hcur := (hm.1).alloc (.cells #[.int .i64 0, .int .i64 0] 42)
  have HM := Lib.hid hm
  clear hm h0
  go_wp2_with (first | (go_at_call 26; refine (At_any _ _ 1 _ hcur).mono ?_; rintro e w' ⟨rfl, rfl⟩) | (go_at_call 27; refine (Left_any _ _ 1 _ hcur (by decide) (by unfold maxLen; decide)).mono ?_; rintro e w' ⟨rfl, hd⟩))
  go_ret
  refine ⟨rfl, ?_⟩
  have hB := (HM.out.2.below (Nat.le_refl _) (by simp)).alloc (by omega) (.cells #[.int .i64 0, .int .i64 0] 42)
  exact ((below_box _ _).trans hB).trans (hd.below _)

end Go.Proofs.Ythmiadbeiggmlaa
