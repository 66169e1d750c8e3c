/-
  Products digit by digit, to the base 65536; digits compared. No program in sight.
-/
import Derived.Test.YtdnpbemkobhlcaaBase
namespace Go.Proofs.Ytdnpbemkobhlcaa
def W16 : Nat := 65536
/-- Digit i of x, to the base 2^16. -/
def dg (x i : Nat) : Nat := x / 2 ^ (16 * i) % 65536
def addAt (d : Nat → Nat) (i x : Nat) : Nat → Nat := fun j => if j = i then d j + x else d j
/-- The digits behind t of the sixteen products (t = 4 i + k). -/
def mulS (a b : Nat) : Nat → Nat → Nat
  | 0 => fun _ => 0
  | t + 1 => addAt (addAt (mulS a b t) (t / 4 + t % 4) (dg a (t / 4) * dg b (t % 4) % 65536)) (t / 4 + t % 4 + 1) (dg a (t / 4) * dg b (t % 4) / 65536)
/-- The digits behind the first t carries. -/
def carS (a b : Nat) : Nat → Nat → Nat
  | 0 => mulS a b 16
  | t + 1 => fun j => if j = t then carS a b t t % 65536 else if j = t + 1 then carS a b t (t + 1) + carS a b t t / 65536 else carS a b t j
def mulD (a b : Nat) : Nat → Nat := carS a b 7
def val (d : Nat → Nat) : Nat := d 0 + d 1 * 65536 + d 2 * 4294967296 + d 3 * 281474976710656 + d 4 * 18446744073709551616 + d 5 * 1208925819614629174706176 + d 6 * 79228162514264337593543950336 + d 7 * 5192296858534827628530496329220096
theorem val_add (d : Nat → Nat) (i x : Nat) (h : i < 8) : val (addAt d i x) = val d + x * 65536 ^ i := by
  have h8 : i = 0 ∨ i = 1 ∨ i = 2 ∨ i = 3 ∨ i = 4 ∨ i = 5 ∨ i = 6 ∨ i = 7 := by omega
  rcases h8 with rfl | rfl | rfl | rfl | rfl | rfl | rfl | rfl <;> simp [val, addAt] <;> omega
theorem val_step (a b t : Nat) (h : t < 16) : val (mulS a b (t + 1)) = val (mulS a b t) + dg a (t / 4) * dg b (t % 4) * 65536 ^ (t / 4 + t % 4) := by
  rw [mulS, val_add _ _ _ (by omega), val_add _ _ _ (by omega), Nat.pow_succ]
  generalize dg a (t / 4) * dg b (t % 4) = x
  generalize 65536 ^ (t / 4 + t % 4) = w
  have h1 : x = x % 65536 + 65536 * (x / 65536) := (Nat.mod_add_div _ _).symm
  conv => rhs; rw [h1]
  rw [Nat.add_mul, Nat.mul_comm w 65536, ← Nat.mul_assoc, Nat.mul_comm (x / 65536) 65536]
  omega
theorem dg_sum (a : Nat) (h : a < 18446744073709551616) : a = dg a 0 * 65536 ^ 0 + dg a 1 * 65536 ^ 1 + dg a 2 * 65536 ^ 2 + dg a 3 * 65536 ^ 3 := by
  simp only [dg, Nat.reduceMul, Nat.reducePow]
  omega
theorem mul_digits (x y i k : Nat) : x * 65536 ^ i * (y * 65536 ^ k) = x * y * 65536 ^ (i + k) := by rw [Nat.mul_mul_mul_comm, ← Nat.pow_add]
theorem val_mul (a b : Nat) (ha : a < 18446744073709551616) (hb : b < 18446744073709551616) : val (mulS a b 16) = a * b := by
  conv => rhs; rw [dg_sum a ha, dg_sum b hb]
  simp only [Nat.add_mul, Nat.mul_add]
  simp only [mul_digits]
  have e := fun t h => val_step a b t h
  have z : val (mulS a b 0) = 0 := by simp [val, mulS]
  rw [e 15 (by omega), e 14 (by omega), e 13 (by omega), e 12 (by omega), e 11 (by omega), e 10 (by omega), e 9 (by omega), e 8 (by omega), e 7 (by omega), e 6 (by omega), e 5 (by omega), e 4 (by omega), e 3 (by omega), e 2 (by omega), e 1 (by omega), e 0 (by omega), z]
  simp only [Nat.reduceDiv, Nat.reduceMod, Nat.reduceAdd]
  omega
theorem dg_lt (a i : Nat) : dg a i < 65536 := Nat.mod_lt _ (by decide)
theorem prod_lt (a b i k : Nat) : dg a i * dg b k < 4294967296 := by
  have h1 := dg_lt a i
  have h2 := dg_lt b k
  have h3 : dg a i * dg b k ≤ 65535 * 65535 := Nat.mul_le_mul (by omega) (by omega)
  omega
/-- No digit grows beyond what a word holds. -/
theorem mulS_lt (a b : Nat) : ∀ (t j : Nat), mulS a b t j ≤ t * 131070
  | 0, j => by simp [mulS]
  | t + 1, j => by
    have h := mulS_lt a b t j
    have h1 := prod_lt a b (t / 4) (t % 4)
    simp only [mulS, addAt]
    generalize dg a (t / 4) * dg b (t % 4) = p at h1 ⊢
    generalize mulS a b t j = q at h ⊢
    generalize t / 4 + t % 4 = r
    have e : (t + 1) * 131070 = t * 131070 + 131070 := Nat.succ_mul _ _
    rw [e]
    generalize t * 131070 = z at h ⊢
    split <;> split <;> omega
theorem car_step (p q r s j t : Nat) (h : r ≤ s) (h1 : p % 65536 ≤ s) (h2 : q + p / 65536 ≤ s) : (if j = t then p % 65536 else if j = t + 1 then q + p / 65536 else r) ≤ s := by
  by_cases c1 : j = t
  · rw [if_pos c1]; exact h1
  · rw [if_neg c1]
    by_cases c2 : j = t + 1
    · rw [if_pos c2]; exact h2
    · rw [if_neg c2]; exact h
def capS (t : Nat) : Nat := 2097120 + t * 65536
theorem cap_succ (t : Nat) : capS (t + 1) = capS t + 65536 := by unfold capS; omega
theorem cap_le (t : Nat) (h : t ≤ 7) : capS t ≤ 2555872 := by unfold capS; omega
theorem carS_lt (a b : Nat) : ∀ (t j : Nat), t ≤ 7 → carS a b t j ≤ capS t
  | 0, j, _ => by
    have := mulS_lt a b 16 j
    show mulS a b 16 j ≤ _
    unfold capS
    generalize mulS a b 16 j = q at this
    omega
  | t + 1, j, ht => by
    have h := carS_lt a b t j (by omega)
    have h1 := carS_lt a b t t (by omega)
    have h2 := carS_lt a b t (t + 1) (by omega)
    have h3 := cap_le t (by omega)
    rw [cap_succ]
    simp only [carS]
    generalize carS a b t t = p at h1 ⊢
    generalize carS a b t (t + 1) = q at h2 ⊢
    generalize carS a b t j = r at h ⊢
    generalize capS t = c at h h1 h2 h3 ⊢
    exact car_step _ _ _ _ _ _ (by omega) (by omega) (by omega)
theorem val_car (a b t : Nat) (h : t < 7) : val (carS a b (t + 1)) = val (carS a b t) := by
  have h8 : t = 0 ∨ t = 1 ∨ t = 2 ∨ t = 3 ∨ t = 4 ∨ t = 5 ∨ t = 6 := by omega
  simp only [carS]
  rcases h8 with rfl | rfl | rfl | rfl | rfl | rfl | rfl <;> simp [val] <;> omega
theorem val_mulD (a b : Nat) (ha : a < 18446744073709551616) (hb : b < 18446744073709551616) : val (mulD a b) = a * b := by
  unfold mulD
  rw [val_car a b 6 (by omega), val_car a b 5 (by omega), val_car a b 4 (by omega), val_car a b 3 (by omega), val_car a b 2 (by omega), val_car a b 1 (by omega), val_car a b 0 (by omega)]
  exact val_mul a b ha hb
theorem car_small (a b : Nat) : ∀ (t j : Nat), j < t → carS a b t j < 65536
  | 0, j, h => by omega
  | t + 1, j, h => by
    simp only [carS]
    split
    · exact Nat.mod_lt _ (by decide)
    · split
      · omega
      · exact car_small a b t j (by omega)
theorem mulD_lt (a b : Nat) (ha : a < 18446744073709551616) (hb : b < 18446744073709551616) (j : Nat) (hj : j < 8) : mulD a b j < 65536 := by
  by_cases h7 : j < 7
  · exact car_small a b 7 j h7
  · obtain rfl : j = 7 := by omega
    have h1 := val_mulD a b ha hb
    have h2 : a * b ≤ 18446744073709551615 * 18446744073709551615 := Nat.mul_le_mul (by omega) (by omega)
    unfold val at h1
    omega
/-- The two halves of the product. -/
theorem low_half (a b : Nat) (ha : a < 18446744073709551616) (hb : b < 18446744073709551616) : mulD a b 0 + mulD a b 1 * 65536 + mulD a b 2 * 4294967296 + mulD a b 3 * 281474976710656 = a * b % 18446744073709551616 := by
  have h := val_mulD a b ha hb
  have h0 := mulD_lt a b ha hb 0 (by omega)
  have h1 := mulD_lt a b ha hb 1 (by omega)
  have h2 := mulD_lt a b ha hb 2 (by omega)
  have h3 := mulD_lt a b ha hb 3 (by omega)
  unfold val at h
  omega
theorem high_half (a b : Nat) (ha : a < 18446744073709551616) (hb : b < 18446744073709551616) : mulD a b 4 + mulD a b 5 * 65536 + mulD a b 6 * 4294967296 + mulD a b 7 * 281474976710656 = a * b / 18446744073709551616 := by
  have h := val_mulD a b ha hb
  have h0 := mulD_lt a b ha hb 0 (by omega)
  have h1 := mulD_lt a b ha hb 1 (by omega)
  have h2 := mulD_lt a b ha hb 2 (by omega)
  have h3 := mulD_lt a b ha hb 3 (by omega)
  unfold val at h
  omega
/-- Digits compared from the greatest down. -/
def cmpD (x y : Nat → Nat) : Nat → Int
  | 0 => 0
  | t + 1 => if x t < y t then -1 else if y t < x t then 1 else cmpD x y t
def pval (d : Nat → Nat) : Nat → Nat
  | 0 => 0
  | t + 1 => pval d t + d t * 65536 ^ t
theorem pval_lt (d : Nat → Nat) : ∀ t, (∀ j, j < t → d j < 65536) → pval d t < 65536 ^ t
  | 0, _ => by simp [pval]
  | t + 1, h => by
    have h1 := pval_lt d t (fun j hj => h j (by omega))
    have h2 := h t (by omega)
    have h3 : d t * 65536 ^ t ≤ 65535 * 65536 ^ t := Nat.mul_le_mul_right _ (by omega)
    rw [pval, Nat.pow_succ]
    omega
def sgn (x y : Nat) : Int := if x < y then -1 else if y < x then 1 else 0
theorem cmpD_sgn (x y : Nat → Nat) : ∀ t, (∀ j, j < t → x j < 65536) → (∀ j, j < t → y j < 65536) → cmpD x y t = sgn (pval x t) (pval y t)
  | 0, _, _ => rfl
  | t + 1, hx, hy => by
    have h1 := pval_lt x t (fun j hj => hx j (by omega))
    have h2 := pval_lt y t (fun j hj => hy j (by omega))
    have ih := cmpD_sgn x y t (fun j hj => hx j (by omega)) (fun j hj => hy j (by omega))
    unfold cmpD
    by_cases c1 : x t < y t
    · rw [if_pos c1]
      have : (x t + 1) * 65536 ^ t ≤ y t * 65536 ^ t := Nat.mul_le_mul_right _ c1
      rw [Nat.add_mul] at this
      unfold sgn pval
      rw [if_pos (by omega)]
    · rw [if_neg c1]
      by_cases c2 : y t < x t
      · rw [if_pos c2]
        have : (y t + 1) * 65536 ^ t ≤ x t * 65536 ^ t := Nat.mul_le_mul_right _ c2
        rw [Nat.add_mul] at this
        unfold sgn pval
        rw [if_neg (by omega), if_pos (by omega)]
      · rw [if_neg c2, ih]
        have e : x t = y t := by omega
        unfold sgn
        rw [pval, pval, e]
        repeat' split
        all_goals first | rfl | omega
theorem pval8 (d : Nat → Nat) : pval d 8 = val d := by simp [pval, val]
theorem cmp_mulD (a b c d : Nat) (ha : a < 18446744073709551616) (hb : b < 18446744073709551616) (hc : c < 18446744073709551616) (hd : d < 18446744073709551616) : cmpD (mulD a b) (mulD c d) 8 = sgn (a * b) (c * d) := by
  rw [cmpD_sgn _ _ _ (fun j hj => mulD_lt a b ha hb j hj) (fun j hj => mulD_lt c d hc hd j hj), pval8, pval8, val_mulD a b ha hb, val_mulD c d hc hd]
theorem cmp_halves (x y : Nat) : (if sgn (x / 18446744073709551616) (y / 18446744073709551616) ≠ 0 then sgn (x / 18446744073709551616) (y / 18446744073709551616) else sgn (x % 18446744073709551616) (y % 18446744073709551616)) = sgn x y := by
  unfold sgn
  repeat' split
  all_goals first | rfl | omega
end Go.Proofs.Ytdnpbemkobhlcaa
