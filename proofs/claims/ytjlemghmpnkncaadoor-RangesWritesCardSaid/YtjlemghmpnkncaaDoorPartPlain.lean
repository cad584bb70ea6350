/-
  Parts of bodies, in plain Lean.
-/
import Derived.Lib.Strings
namespace Go.Proofs.YtjlemghmpnkncaaDoor

def goodP (f t s : Int) : Bool :=
  decide ((f = -1 ∧ t = -1 ∧ 0 ≤ s ∧ s ≤ 9007199254740991) ∨ (¬ (f = -1 ∧ t = -1) ∧ 0 ≤ f ∧ f ≤ t ∧ t ≤ 9007199254740991 ∧ (s = -1 ∨ (t < s ∧ s ≤ 9007199254740991))))

def lenP (f t s : Int) : Int := if goodP f t s = true ∧ ¬ f = -1 then t - f + 1 else 0

def saysP (f t s : Int) : Bool := decide (0 < lenP f t s)

theorem saysP_eq (f t s : Int) : saysP f t s = decide (0 ≤ f ∧ f ≤ t ∧ t ≤ 9007199254740991 ∧ (s = -1 ∨ (t < s ∧ s ≤ 9007199254740991))) := by
  unfold saysP lenP goodP
  rw [decide_eq_decide]
  simp only [decide_eq_true_eq]
  split <;> omega

def moreP (f t s : Int) : Bool := decide (saysP f t s = true ∧ ¬ t = s - 1 ∧ ¬ t = 9007199254740991)
def wholeP (f t s : Int) : Bool := decide (saysP f t s = true ∧ f = 0 ∧ t = s - 1)
def coversP (f t s f2 t2 s2 : Int) : Bool := decide (saysP f t s = true ∧ saysP f2 t2 s2 = true ∧ f ≤ f2 ∧ t2 ≤ t)

theorem saysP_range {f t s : Int} (h : saysP f t s = true) : 0 ≤ f ∧ f ≤ t ∧ t ≤ 9007199254740991 ∧ -1 ≤ s ∧ s ≤ 9007199254740991 ∧ (s = -1 ∨ t < s) := by
  rw [saysP_eq, decide_eq_true_eq] at h
  omega

theorem moreP_no {f t s : Int} (h : saysP f t s = false) : moreP f t s = false := by simp [moreP, h]

theorem moreP_eq {f t s : Int} (h : saysP f t s = true) : moreP f t s = decide ((s < 0 ∨ t < s - 1) ∧ t < 9007199254740991) := by
  have := saysP_range h
  unfold moreP
  rw [h, decide_eq_decide]
  simp only [true_and]
  omega

theorem coversP_no {f t s f2 t2 s2 : Int} (h : saysP f t s = false ∨ saysP f2 t2 s2 = false) : coversP f t s f2 t2 s2 = false := by
  rcases h with h | h <;> simp [coversP, h]

theorem coversP_eq {f t s f2 t2 s2 : Int} (h : saysP f t s = true) (h2 : saysP f2 t2 s2 = true) : coversP f t s f2 t2 s2 = decide (f ≤ f2 ∧ t2 ≤ t) := by
  simp [coversP, h, h2]

theorem wholeP_no {f t s : Int} (h : saysP f t s = false) : wholeP f t s = false := by simp [wholeP, h]

theorem wholeP_eq {f t s : Int} (h : saysP f t s = true) : wholeP f t s = decide (f = 0 ∧ 0 ≤ s ∧ t = s - 1) := by
  have := saysP_range h
  unfold wholeP
  rw [h, decide_eq_decide]
  simp only [true_and]
  omega

theorem goodP_says {f t s : Int} (h : saysP f t s = true) : goodP f t s = true := by
  have := saysP_range h
  unfold goodP
  rw [decide_eq_true_eq]
  omega

theorem lenP_range (f t s : Int) : 0 ≤ lenP f t s ∧ lenP f t s ≤ 9007199254740992 := by
  unfold lenP goodP
  simp only [decide_eq_true_eq]
  split <;> omega

end Go.Proofs.YtjlemghmpnkncaaDoor
