/-
  The order of fractions by index; insertion into a sorted row. No program in sight.
-/
import Derived.Test.YtdnpbemkobhlcaaFrc
import Derived.Test.YtdnpbemkobhlcaaSrt
namespace Go.Proofs.Ytdnpbemkobhlcaa
section
variable {cl : Nat → Nat → Bool} {lt : Nat → Nat → Prop}
/-- The element behind a sorted row: where it may stop, all before answer 'no'. -/
theorem insert_no (hS : Strict lt) {f : Nat → Nat} {a i j : Nat} (h1 : Srt lt f a i) (hL : LR cl lt f a i (i + 1)) (hj : a < j) (hji : j ≤ i) (h : cl (f i) (f (j - 1)) = false) (c : Nat) (hc : a ≤ c) (hcj : c < j) : cl (f i) (f c) = false := by
  have l0 := (hL (j - 1) i (by omega) (by omega) (Nat.le_refl _) (by omega)).2 h
  cases hy : cl (f i) (f c) with
  | false => rfl
  | true =>
    have l1 := (hL c i hc (by omega) (Nat.le_refl _) (by omega)).1 hy
    rcases h1.le hc (show c ≤ j - 1 by omega) (by omega) with e | e
    · rw [e] at l1; exact absurd (hS.trans _ _ _ l0 l1) (hS.irrefl _)
    · exact absurd (hS.trans _ _ _ (hS.trans _ _ _ e l0) l1) (hS.irrefl _)
end
/-- x before y: a greater fraction, or an equal one with a smaller index. -/
def clF (p : Nat → Nat × Nat) (x y : Nat) : Bool := decide (cmpF (p y) (p x) < 0)
def ltF (p : Nat → Nat × Nat) (x y : Nat) : Prop := cmpF (p y) (p x) < 0 ∨ (cmpF (p y) (p x) = 0 ∧ x < y)
theorem strictF (p : Nat → Nat × Nat) (h : ∀ x, ¬ Bad (p x)) : Strict (ltF p) := by
  constructor
  · rintro x (h | ⟨_, h⟩)
    · rw [cmpF_self] at h; omega
    · omega
  · intro x y z h1 h2
    have a1 : cmpF (p y) (p x) ≤ 0 := by rcases h1 with h | h <;> omega
    have a2 : cmpF (p z) (p y) ≤ 0 := by rcases h2 with h | h <;> omega
    have a3 := cmpF_trans _ _ _ (h y) a2 a1
    by_cases c : cmpF (p z) (p x) = 0
    · right
      have n1 := cmpF_neg (p x) (p z)
      have n2 := cmpF_neg (p y) (p z)
      have n3 := cmpF_neg (p x) (p y)
      have b1 := cmpF_trans (p y) (p x) (p z) (h x) a1 (by omega)
      have b2 := cmpF_trans (p x) (p z) (p y) (h z) (by omega) a2
      refine ⟨c, ?_⟩
      rcases h1 with h1 | h1
      · omega
      · rcases h2 with h2 | h2 <;> omega
    · left; omega
/-- Blocks whose indices ascend from one to the next. -/
def Less (f : Nat → Nat) (a m b : Nat) : Prop := ∀ i j, a ≤ i → i < m → m ≤ j → j < b → f i < f j
theorem LR.of_less (p : Nat → Nat × Nat) {f : Nat → Nat} {a m b : Nat} (h : Less f a m b) : LR (clF p) (ltF p) f a m b := by
  intro i j h1 h2 h3 h4
  have hl := h i j h1 h2 h3 h4
  have n := cmpF_neg (p (f i)) (p (f j))
  unfold clF ltF
  simp only [decide_eq_true_eq, decide_eq_false_iff_not]
  constructor
  · intro k; exact .inl k
  · intro k; omega
theorem less_id (f : Nat → Nat) (a m b : Nat) (h1 : ∀ i, a ≤ i → i < m → f i < m) (h2 : ∀ i, m ≤ i → i < b → m ≤ f i) : Less f a m b := fun i j p q r s => by
  have := h1 i p q
  have := h2 j r s
  omega
theorem Same.range {f g : Nat → Nat} {a b : Nat} (h : Same f g a b) (lo hi : Nat) (k : ∀ i, a ≤ i → i < b → lo ≤ f i ∧ f i < hi) (i : Nat) (h1 : a ≤ i) (h2 : i < b) : lo ≤ g i ∧ g i < hi := by
  obtain ⟨j, j1, j2, e⟩ := h.1 i h1 h2
  rw [e]; exact k j j1 j2
end Go.Proofs.Ytdnpbemkobhlcaa
