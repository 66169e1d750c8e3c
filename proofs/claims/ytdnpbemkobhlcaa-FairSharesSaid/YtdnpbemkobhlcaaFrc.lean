/-
  Fractions compared by cross products, and in lowest terms. No program in sight.
-/
import Derived.Test.YtdnpbemkobhlcaaMul
namespace Go.Proofs.Ytdnpbemkobhlcaa
theorem sgn_neg (x y : Nat) : sgn x y = - sgn y x := by unfold sgn; split <;> split <;> omega
theorem sgn_le (x y : Nat) : sgn x y ≤ 0 ↔ x ≤ y := by unfold sgn; split <;> (try split) <;> omega
theorem sgn_ge (x y : Nat) : 0 ≤ sgn x y ↔ y ≤ x := by unfold sgn; split <;> (try split) <;> omega
theorem sgn_eq (x y : Nat) : sgn x y = 0 ↔ x = y := by unfold sgn; split <;> (try split) <;> omega
theorem sgn_range (x y : Nat) : -1 ≤ sgn x y ∧ sgn x y ≤ 1 := by unfold sgn; split <;> (try split) <;> omega
/-- The sign of the difference of two fractions. -/
def cmpF (p q : Nat × Nat) : Int := if p.2 = 0 ∧ q.2 = 0 then 0 else sgn (p.1 * q.2) (q.1 * p.2)
def Bad (p : Nat × Nat) : Prop := p.1 = 0 ∧ p.2 = 0
instance (p : Nat × Nat) : Decidable (Bad p) := inferInstanceAs (Decidable (_ ∧ _))
theorem cmpF_neg (p q : Nat × Nat) : cmpF p q = - cmpF q p := by
  unfold cmpF
  by_cases h : p.2 = 0 ∧ q.2 = 0
  · rw [if_pos h, if_pos h.symm]; rfl
  · rw [if_neg h, if_neg (fun k => h k.symm)]; exact sgn_neg _ _
theorem cmpF_self (p : Nat × Nat) : cmpF p p = 0 := by
  unfold cmpF
  split
  · rfl
  · rw [sgn_eq]
theorem cmpF_range (p q : Nat × Nat) : -1 ≤ cmpF p q ∧ cmpF p q ≤ 1 := by
  unfold cmpF
  split
  · decide
  · exact sgn_range _ _
theorem cmpF_trans (p q r : Nat × Nat) (hq : ¬ Bad q) (h1 : cmpF p q ≤ 0) (h2 : cmpF q r ≤ 0) : cmpF p r ≤ 0 := by
  unfold cmpF at *
  by_cases c3 : p.2 = 0 ∧ r.2 = 0
  · rw [if_pos c3]; exact Int.le_refl _
  · rw [if_neg c3, sgn_le]
    by_cases z : q.2 = 0
    · have hq1 : q.1 ≠ 0 := fun e => hq ⟨e, z⟩
      by_cases y : r.2 = 0
      · rw [y, Nat.mul_zero]; exact Nat.zero_le _
      · rw [if_neg (fun e => y e.2), sgn_le, z, Nat.mul_zero, Nat.le_zero_eq, Nat.mul_eq_zero] at h2
        omega
    · rw [if_neg (fun e => z e.2), sgn_le] at h1
      rw [if_neg (fun e => z e.1), sgn_le] at h2
      have a1 := Nat.mul_le_mul_right r.2 h1
      have a2 := Nat.mul_le_mul_right p.2 h2
      have e1 : q.1 * p.2 * r.2 = q.1 * r.2 * p.2 := by rw [Nat.mul_assoc, Nat.mul_comm p.2, ← Nat.mul_assoc]
      have e2 : p.1 * q.2 * r.2 = p.1 * r.2 * q.2 := by rw [Nat.mul_assoc, Nat.mul_comm q.2, ← Nat.mul_assoc]
      have e3 : r.1 * q.2 * p.2 = r.1 * p.2 * q.2 := by rw [Nat.mul_assoc, Nat.mul_comm q.2, ← Nat.mul_assoc]
      rw [e1] at a1
      rw [e3] at a2
      rw [e2] at a1
      exact Nat.le_of_mul_le_mul_right (Nat.le_trans a1 a2) (by omega)
theorem cmpF_trans' (p q r : Nat × Nat) (hq : ¬ Bad q) (h1 : 0 ≤ cmpF p q) (h2 : 0 ≤ cmpF q r) : 0 ≤ cmpF p r := by
  have n1 := cmpF_neg p q
  have n2 := cmpF_neg q r
  have n3 := cmpF_neg p r
  have := cmpF_trans r q p hq (by omega) (by omega)
  omega
theorem cmpF_zero (p q r : Nat × Nat) (hq : ¬ Bad q) (h1 : cmpF p q = 0) (h2 : cmpF q r = 0) : cmpF p r = 0 := by
  have a := cmpF_trans p q r hq (by omega) (by omega)
  have b := cmpF_trans' p q r hq (by omega) (by omega)
  omega

/-- Lowest terms. -/
def redF (p : Nat × Nat) : Nat × Nat := (p.1 / Nat.gcd p.1 p.2, p.2 / Nat.gcd p.1 p.2)
theorem gcd_pos' (p : Nat × Nat) (h : ¬ Bad p) : 0 < Nat.gcd p.1 p.2 := by
  rcases Nat.eq_zero_or_pos (Nat.gcd p.1 p.2) with e | e
  · exact absurd ⟨Nat.eq_zero_of_gcd_eq_zero_left e, Nat.eq_zero_of_gcd_eq_zero_right e⟩ h
  · exact e
theorem red_mul1 (p : Nat × Nat) : (redF p).1 * Nat.gcd p.1 p.2 = p.1 := Nat.div_mul_cancel (Nat.gcd_dvd_left _ _)
theorem red_mul2 (p : Nat × Nat) : (redF p).2 * Nat.gcd p.1 p.2 = p.2 := Nat.div_mul_cancel (Nat.gcd_dvd_right _ _)
theorem red_good (p : Nat × Nat) (h : ¬ Bad p) : ¬ Bad (redF p) := by
  rintro ⟨h1, h2⟩
  have e1 := red_mul1 p
  have e2 := red_mul2 p
  rw [h1, Nat.zero_mul] at e1
  rw [h2, Nat.zero_mul] at e2
  exact h ⟨e1.symm, e2.symm⟩
theorem red_same (p : Nat × Nat) : cmpF p (redF p) = 0 := by
  have e1 := red_mul1 p
  have e2 := red_mul2 p
  unfold cmpF
  split
  · rfl
  · rw [sgn_eq]
    have k : (redF p).1 * Nat.gcd p.1 p.2 * (redF p).2 = (redF p).1 * ((redF p).2 * Nat.gcd p.1 p.2) := by rw [Nat.mul_assoc, Nat.mul_comm (Nat.gcd _ _)]
    rw [e1, e2] at k
    exact k
theorem red_zero (d : Nat) (h : 0 < d) : redF (0, d) = (0, 1) := by
  unfold redF; simp [Nat.div_self h]
theorem red_inf (n : Nat) (h : 0 < n) : redF (n, 0) = (1, 0) := by
  unfold redF; simp [Nat.div_self h]
theorem red_low (p : Nat × Nat) (h : ¬ Bad p) (k : Nat) (hk : 2 ≤ k) : ¬ ((redF p).1 % k = 0 ∧ (redF p).2 % k = 0) := by
  rintro ⟨h1, h2⟩
  have g := gcd_pos' p h
  have d1 : Nat.gcd p.1 p.2 * k ∣ p.1 := by
    conv => rhs; rw [← red_mul1 p, Nat.mul_comm]
    exact Nat.mul_dvd_mul_left _ (Nat.dvd_of_mod_eq_zero h1)
  have d2 : Nat.gcd p.1 p.2 * k ∣ p.2 := by
    conv => rhs; rw [← red_mul2 p, Nat.mul_comm]
    exact Nat.mul_dvd_mul_left _ (Nat.dvd_of_mod_eq_zero h2)
  have d3 := Nat.le_of_dvd g (Nat.dvd_gcd d1 d2)
  have d4 : Nat.gcd p.1 p.2 * 2 ≤ Nat.gcd p.1 p.2 * k := Nat.mul_le_mul_left _ hk
  omega
theorem red_times (n d f : Nat) (hf : 0 < f) : redF (n * f, d * f) = redF (n, d) := by
  unfold redF
  simp only [Nat.gcd_mul_right, Nat.mul_div_mul_right _ _ hf]
theorem red_coprime (p : Nat × Nat) (h : ¬ Bad p) : Nat.gcd (redF p).1 (redF p).2 = 1 := by
  rcases Nat.lt_or_ge (Nat.gcd (redF p).1 (redF p).2) 2 with c | c
  · have := gcd_pos' _ (red_good p h)
    omega
  · exact absurd ⟨Nat.mod_eq_zero_of_dvd (Nat.gcd_dvd_left _ _), Nat.mod_eq_zero_of_dvd (Nat.gcd_dvd_right _ _)⟩ (red_low p h _ c)
theorem red_iff (p q : Nat × Nat) (hp : ¬ Bad p) (hq : ¬ Bad q) : cmpF p q = 0 ↔ redF p = redF q := by
  constructor
  · intro h
    by_cases z : p.2 = 0 ∧ q.2 = 0
    · obtain ⟨p1, p2⟩ := p
      obtain ⟨q1, q2⟩ := q
      obtain ⟨rfl, rfl⟩ := z
      have a1 : 0 < p1 := Nat.pos_of_ne_zero (fun e => hp ⟨e, rfl⟩)
      have a2 : 0 < q1 := Nat.pos_of_ne_zero (fun e => hq ⟨e, rfl⟩)
      rw [red_inf _ a1, red_inf _ a2]
    · unfold cmpF at h
      rw [if_neg z, sgn_eq] at h
      have gp := gcd_pos' p hp
      have gq := gcd_pos' q hq
      have c1 := red_coprime p hp
      have c2 := red_coprime q hq
      have e1 := red_mul1 p
      have e2 := red_mul2 p
      have f1 := red_mul1 q
      have f2 := red_mul2 q
      generalize Nat.gcd p.1 p.2 = g at *
      generalize Nat.gcd q.1 q.2 = k at *
      rw [← e1, ← e2, ← f1, ← f2] at h
      clear e1 e2 f1 f2
      refine Prod.ext ?_ ?_
      all_goals
        generalize (redF p).1 = x at *
        generalize (redF p).2 = y at *
        generalize (redF q).1 = u at *
        generalize (redF q).2 = v at *
        have hx : (x * v) * (g * k) = (u * y) * (g * k) := by
          rw [Nat.mul_mul_mul_comm x v g k, Nat.mul_mul_mul_comm u y g k, h]
          rw [Nat.mul_mul_mul_comm u k, Nat.mul_mul_mul_comm u g, Nat.mul_comm k g]
        replace hx := Nat.eq_of_mul_eq_mul_right (Nat.mul_pos gp gq) hx
      · exact Nat.dvd_antisymm (Nat.Coprime.dvd_of_dvd_mul_right (show Nat.Coprime x y from c1) ⟨v, hx.symm⟩) (Nat.Coprime.dvd_of_dvd_mul_right (show Nat.Coprime u v from c2) ⟨y, hx⟩)
      · exact Nat.dvd_antisymm (Nat.Coprime.dvd_of_dvd_mul_left (show Nat.Coprime y x by rw [Nat.Coprime, Nat.gcd_comm]; exact c1) ⟨u, by rw [hx, Nat.mul_comm]⟩) (Nat.Coprime.dvd_of_dvd_mul_left (show Nat.Coprime v u by rw [Nat.Coprime, Nat.gcd_comm]; exact c2) ⟨x, by rw [← hx, Nat.mul_comm]⟩)
  · intro h
    unfold cmpF
    split
    · rfl
    · rw [sgn_eq]
      have e1 := red_mul1 p
      have e2 := red_mul2 p
      have f1 := red_mul1 q
      have f2 := red_mul2 q
      rw [← h] at f1 f2
      generalize Nat.gcd p.1 p.2 = g at *
      generalize Nat.gcd q.1 q.2 = k at *
      generalize (redF p).1 = x at *
      generalize (redF p).2 = y at *
      rw [← e1, ← e2, ← f1, ← f2, Nat.mul_mul_mul_comm, Nat.mul_mul_mul_comm x k, Nat.mul_comm g k]
end Go.Proofs.Ytdnpbemkobhlcaa
