/-
  Bit strings as a plain law: exclusive or, weight, distance (a metric); numbers as bits and back; packing and back.
-/
import Derived.Test.YtflmbghbgmkdeaaBas2
namespace Go.Proofs.Ytflmbghbgmkdeaa
open Go.RowKit

/-- Every element is a bit. -/
def okb (l : List UInt8) : Bool := l.all (· ≤ 1)
/-- In how many places two lists differ. -/
def dst : List UInt8 → List UInt8 → Nat
  | a :: p, b :: q => (if a = b then 0 else 1) + dst p q
  | _, _ => 0
def xorL (x y : List UInt8) : List UInt8 := List.zipWith (· ^^^ ·) x y
def wgt : List UInt8 → Nat
  | [] => 0
  | a :: p => (if a = 1 then 1 else 0) + wgt p

theorem take_one (l : List UInt8) (k : Nat) (h : k < l.length) : l.take (k + 1) = l.take k ++ [gd l k] := by
  rw [List.take_succ_eq_append_getElem h]
  simp [gd, h]
theorem okb_get (l : List UInt8) (h : okb l = true) (i : Nat) : (gd l i).toNat < 2 := by
  by_cases hi : i < l.length
  · have := List.all_eq_true.1 h (gd l i) (by simp [gd, hi])
    have h1 : gd l i ≤ 1 := by simpa using this
    have : (gd l i).toNat ≤ 1 := UInt8.le_iff_toNat_le.1 h1
    omega
  · simp [gd, hi]
theorem okb_take (l : List UInt8) (k : Nat) (h : ∀ i, i < k → (gd l i).toNat < 2) : okb (l.take k) = true := by
  rw [okb, List.all_eq_true]
  intro x hx
  obtain ⟨i, hi, rfl⟩ := List.mem_iff_getElem.1 hx
  have hl : i < k ∧ i < l.length := by simp at hi; omega
  have := h i hl.1
  simp only [decide_eq_true_eq, UInt8.le_iff_toNat_le]
  simp only [gd] at this
  simp [hl.2] at this
  simp
  omega
theorem okb_of (l : List UInt8) (h : ∀ i, i < l.length → (gd l i).toNat < 2) : okb l = true := by
  have := okb_take l l.length h
  rwa [List.take_length] at this
theorem okb_not (l : List UInt8) (i : Nat) (hi : ¬ (gd l i).toNat < 2) : okb l = false := by
  cases ho : okb l with
  | false => rfl
  | true => exact absurd (okb_get l ho i) hi
theorem okb_cons {a : UInt8} {l : List UInt8} (h : okb (a :: l) = true) : a.toNat < 2 ∧ okb l = true := by
  simp only [okb, List.all_cons, Bool.and_eq_true, decide_eq_true_eq] at h
  exact ⟨by have := UInt8.le_iff_toNat_le.1 h.1; simp at this; omega, h.2⟩
theorem bit_cases {a : UInt8} (h : a.toNat < 2) : a = 0 ∨ a = 1 := by
  have : a.toNat = 0 ∨ a.toNat = 1 := by omega
  rcases this with h | h
  · exact .inl (UInt8.toNat_inj.1 h)
  · exact .inr (UInt8.toNat_inj.1 h)

theorem dst_append : ∀ (p q r s : List UInt8), p.length = q.length → dst (p ++ r) (q ++ s) = dst p q + dst r s
  | [], [], _, _, _ => by simp [dst]
  | a :: p, b :: q, r, s, h => by
    simp only [List.cons_append, dst, dst_append p q r s (by simpa using h)]
    omega
theorem wgt_append : ∀ (p q : List UInt8), wgt (p ++ q) = wgt p + wgt q
  | [], _ => by simp [wgt]
  | a :: p, q => by simp only [List.cons_append, wgt, wgt_append p q]; omega
theorem wgt_take (p : List UInt8) (k : Nat) (h : k < p.length) : wgt (p.take (k + 1)) = wgt (p.take k) + (if gd p k = 1 then 1 else 0) := by
  rw [take_one p k h, wgt_append]; simp [wgt]
theorem wgt_le : ∀ (p : List UInt8), wgt p ≤ p.length
  | [] => Nat.le_refl _
  | a :: p => by have := wgt_le p; simp only [wgt, List.length_cons]; split <;> omega
theorem xorL_length (x y : List UInt8) (h : x.length = y.length) : (xorL x y).length = x.length := by simp [xorL, h]
theorem xorL_gd (x y : List UInt8) (h : x.length = y.length) (i : Nat) : gd (xorL x y) i = gd x i ^^^ gd y i := by
  by_cases hi : i < x.length
  · have hj : i < y.length := by omega
    simp [gd, xorL, List.getElem?_zipWith, hi, hj]
  · have hj : ¬ i < y.length := by omega
    simp [gd, xorL, List.getElem?_zipWith, hi, hj]
theorem xorL_take (x y : List UInt8) (k : Nat) (h : k < x.length) (h' : k < y.length) : xorL (x.take (k + 1)) (y.take (k + 1)) = xorL (x.take k) (y.take k) ++ [gd x k ^^^ gd y k] := by
  rw [take_one x k h, take_one y k h']
  unfold xorL
  rw [List.zipWith_append (by simp; omega)]
  rfl
theorem xorL_okb (x y : List UInt8) (h : x.length = y.length) (hx : okb x = true) (hy : okb y = true) : okb (xorL x y) = true := by
  apply okb_of
  intro i _
  rw [xorL_gd x y h]
  rcases bit_cases (okb_get x hx i) with e | e <;> rcases bit_cases (okb_get y hy i) with f | f <;> rw [e, f] <;> decide
theorem wgt_xor : ∀ (x y : List UInt8), x.length = y.length → okb x = true → okb y = true → wgt (xorL x y) = dst x y
  | [], [], _, _, _ => rfl
  | a :: x, b :: y, hl, hx, hy => by
    obtain ⟨ha, hx⟩ := okb_cons hx
    obtain ⟨hb, hy⟩ := okb_cons hy
    have := wgt_xor x y (by simpa using hl) hx hy
    show (if a ^^^ b = 1 then 1 else 0) + wgt (xorL x y) = (if a = b then 0 else 1) + dst x y
    rw [this]
    rcases bit_cases ha with rfl | rfl <;> rcases bit_cases hb with rfl | rfl <;> simp
theorem dst_comm : ∀ (x y : List UInt8), dst x y = dst y x
  | [], [] => rfl
  | [], _ :: _ => rfl
  | _ :: _, [] => rfl
  | a :: x, b :: y => by simp only [dst, dst_comm x y, eq_comm (a := a)]
theorem dst_tri : ∀ (x y z : List UInt8), x.length = y.length → y.length = z.length → dst x z ≤ dst x y + dst y z
  | [], [], [], _, _ => Nat.le_refl _
  | a :: x, b :: y, c :: z, h, k => by
    have := dst_tri x y z (by simpa using h) (by simpa using k)
    simp only [dst]
    by_cases e1 : a = b <;> by_cases e2 : b = c <;> by_cases e3 : a = c <;> simp_all <;> omega
theorem dst_zero : ∀ (x y : List UInt8), x.length = y.length → (dst x y = 0 ↔ x = y)
  | [], [], _ => by simp [dst]
  | a :: x, b :: y, h => by
    have := dst_zero x y (by simpa using h)
    simp only [dst, List.cons.injEq]
    by_cases e : a = b <;> simp [e, this]
theorem dst_shift : ∀ (x y z : List UInt8), x.length = y.length → y.length = z.length → dst (xorL x z) (xorL y z) = dst x y
  | [], [], [], _, _ => rfl
  | a :: x, b :: y, c :: z, h, k => by
    have := dst_shift x y z (by simpa using h) (by simpa using k)
    show (if a ^^^ c = b ^^^ c then 0 else 1) + dst (xorL x z) (xorL y z) = _
    rw [this]
    have e : (a ^^^ c = b ^^^ c) ↔ a = b := ⟨fun h => UInt8.xor_left_inj c |>.1 h, fun h => by rw [h]⟩
    simp only [dst, e]

/-! ### Numbers -/
def uintL (l : List UInt8) : Nat := l.foldl (fun v x => 2 * v + x.toNat) 0
def bitsL (v n : Nat) : List UInt8 := (List.range n).map (fun i => UInt8.ofNat (v / 2 ^ (n - 1 - i) % 2))
theorem bitsL_length (v n : Nat) : (bitsL v n).length = n := by simp [bitsL]
theorem bitsL_gd (v n i : Nat) (h : i < n) : gd (bitsL v n) i = UInt8.ofNat (v / 2 ^ (n - 1 - i) % 2) := gd_map_range _ _ _ h
theorem uintL_take (l : List UInt8) (k : Nat) (h : k < l.length) : uintL (l.take (k + 1)) = 2 * uintL (l.take k) + (gd l k).toNat := by
  rw [take_one l k h]; simp [uintL]
theorem bitsL_okb (v n : Nat) : okb (bitsL v n) = true := by
  apply okb_of
  intro i hi
  rw [bitsL_length] at hi
  rw [bitsL_gd v n i hi]
  simp
  omega
theorem uintL_bits_take (v n k : Nat) (h : k ≤ n) : uintL ((bitsL v n).take k) = v % 2 ^ n / 2 ^ (n - k) := by
  induction k with
  | zero => simp [uintL, Nat.div_eq_of_lt (Nat.mod_lt v (Nat.two_pow_pos n))]
  | succ k ih =>
    rw [uintL_take _ _ (by rw [bitsL_length]; omega), ih (by omega), bitsL_gd v n k (by omega)]
    have e : n - k = (n - (k + 1)) + 1 := by omega
    have e2 : n - 1 - k = n - (k + 1) := by omega
    rw [e, e2, Nat.pow_succ, ← Nat.div_div_eq_div_mul]
    have e3 : v / 2 ^ (n - (k + 1)) % 2 = v % 2 ^ n / 2 ^ (n - (k + 1)) % 2 := by
      have : n = (n - (k + 1)) + (k + 1) := by omega
      have h2 : v % 2 ^ n / 2 ^ (n - (k + 1)) = v / 2 ^ (n - (k + 1)) % 2 ^ (k + 1) := by
        conv => lhs; rw [this]
        rw [Nat.add_sub_cancel, Nat.pow_add, Nat.mod_mul_right_div_self]
      rw [h2, Nat.pow_succ, Nat.mod_mul_left_mod]
    rw [e3]
    simp
    omega
theorem uintL_bits (v n : Nat) : uintL (bitsL v n) = v % 2 ^ n := by
  have := uintL_bits_take v n n (Nat.le_refl _)
  rwa [List.take_of_length_le (by rw [bitsL_length]; exact Nat.le_refl _), Nat.sub_self, Nat.pow_zero, Nat.div_one] at this
theorem uintL_lt : ∀ (l : List UInt8), okb l = true → uintL l < 2 ^ l.length := by
  intro l h
  have : ∀ k, k ≤ l.length → uintL (l.take k) < 2 ^ k := by
    intro k hk
    induction k with
    | zero => simp [uintL]
    | succ k ih =>
      have h1 := ih (by omega)
      have h2 := okb_get l h k
      rw [uintL_take l k (by omega), Nat.pow_succ]
      omega
  simpa using this l.length (Nat.le_refl _)

/-! ### Packing -/
/-- Byte j of the bits l, missing ones being 0. -/
def by8 (l : List UInt8) (j : Nat) : Nat :=
  128 * (gd l (8 * j)).toNat + 64 * (gd l (8 * j + 1)).toNat + 32 * (gd l (8 * j + 2)).toNat + 16 * (gd l (8 * j + 3)).toNat + 8 * (gd l (8 * j + 4)).toNat + 4 * (gd l (8 * j + 5)).toNat + 2 * (gd l (8 * j + 6)).toNat + (gd l (8 * j + 7)).toNat
def packL (m : Nat) (l : List UInt8) : List UInt8 := (List.range m).map (fun j => UInt8.ofNat (by8 l j))
def unpackL (p : List UInt8) (n : Nat) : List UInt8 := (List.range n).map (fun i => UInt8.ofNat ((gd p (i / 8)).toNat / 2 ^ (7 - i % 8) % 2))
theorem packL_length (m : Nat) (l : List UInt8) : (packL m l).length = m := by simp [packL]
theorem unpackL_length (p : List UInt8) (n : Nat) : (unpackL p n).length = n := by simp [unpackL]
theorem packL_gd (m : Nat) (l : List UInt8) (j : Nat) (h : j < m) : gd (packL m l) j = UInt8.ofNat (by8 l j) := gd_map_range _ _ _ h
theorem unpackL_gd (p : List UInt8) (n i : Nat) (h : i < n) : gd (unpackL p n) i = UInt8.ofNat ((gd p (i / 8)).toNat / 2 ^ (7 - i % 8) % 2) := gd_map_range _ _ _ h
theorem gd_out (l : List UInt8) (i : Nat) (h : l.length ≤ i) : gd l i = 0 := by
  simp [gd, h]
theorem by8_lt (l : List UInt8) (h : ∀ i, (gd l i).toNat < 2) (j : Nat) : by8 l j < 256 := by
  have h0 := h (8 * j); have h1 := h (8 * j + 1); have h2 := h (8 * j + 2); have h3 := h (8 * j + 3)
  have h4 := h (8 * j + 4); have h5 := h (8 * j + 5); have h6 := h (8 * j + 6); have h7 := h (8 * j + 7)
  unfold by8; omega
theorem by8_bit (l : List UInt8) (h : ∀ i, (gd l i).toNat < 2) (i : Nat) : by8 l (i / 8) / 2 ^ (7 - i % 8) % 2 = (gd l i).toNat := by
  have h0 := h (8 * (i / 8)); have h1 := h (8 * (i / 8) + 1); have h2 := h (8 * (i / 8) + 2); have h3 := h (8 * (i / 8) + 3)
  have h4 := h (8 * (i / 8) + 4); have h5 := h (8 * (i / 8) + 5); have h6 := h (8 * (i / 8) + 6); have h7 := h (8 * (i / 8) + 7)
  have hr : i % 8 = 0 ∨ i % 8 = 1 ∨ i % 8 = 2 ∨ i % 8 = 3 ∨ i % 8 = 4 ∨ i % 8 = 5 ∨ i % 8 = 6 ∨ i % 8 = 7 := by omega
  have hd : i = 8 * (i / 8) + i % 8 := by omega
  unfold by8
  rcases hr with e | e | e | e | e | e | e | e <;> rw [e] at hd ⊢ <;> conv => rhs; rw [hd]
  all_goals simp only [Nat.sub_zero, Nat.reduceSub, Nat.reducePow, Nat.add_zero]; omega
theorem unpack_pack (l : List UInt8) (h : okb l = true) : unpackL (packL ((l.length + 7) / 8) l) l.length = l := by
  apply ext_gd (unpackL_length _ _)
  intro i hi
  rw [unpackL_length] at hi
  rw [unpackL_gd _ _ _ hi, packL_gd _ _ _ (by omega)]
  have h1 := by8_lt l (okb_get l h) (i / 8)
  have h2 := by8_bit l (okb_get l h) i
  rw [UInt8.toNat_ofNat', Nat.mod_eq_of_lt h1, h2]
  simp
theorem byte_of_bits : ∀ n : Fin 256, (128 * (n.val / 128 % 2 % 256) + 64 * (n.val / 64 % 2 % 256) + 32 * (n.val / 32 % 2 % 256) + 16 * (n.val / 16 % 2 % 256) + 8 * (n.val / 8 % 2 % 256) + 4 * (n.val / 4 % 2 % 256) + 2 * (n.val / 2 % 2 % 256) + n.val / 1 % 2 % 256) % 256 = n.val := by decide +kernel
theorem pack_unpack (p : List UInt8) : packL p.length (unpackL p (8 * p.length)) = p := by
  apply ext_gd (packL_length _ _)
  intro j hj
  rw [packL_length] at hj
  rw [packL_gd _ _ _ hj]
  unfold by8
  rw [unpackL_gd _ _ _ (by omega), unpackL_gd _ _ _ (by omega), unpackL_gd _ _ _ (by omega), unpackL_gd _ _ _ (by omega), unpackL_gd _ _ _ (by omega), unpackL_gd _ _ _ (by omega), unpackL_gd _ _ _ (by omega), unpackL_gd _ _ _ (by omega)]
  have hx := (gd p j).toNat_lt
  apply UInt8.toNat_inj.1
  simp only [show 8 * j / 8 = j by omega, show (8 * j + 1) / 8 = j by omega, show (8 * j + 2) / 8 = j by omega, show (8 * j + 3) / 8 = j by omega, show (8 * j + 4) / 8 = j by omega, show (8 * j + 5) / 8 = j by omega, show (8 * j + 6) / 8 = j by omega, show (8 * j + 7) / 8 = j by omega,
    show 8 * j % 8 = 0 by omega, show (8 * j + 1) % 8 = 1 by omega, show (8 * j + 2) % 8 = 2 by omega, show (8 * j + 3) % 8 = 3 by omega, show (8 * j + 4) % 8 = 4 by omega, show (8 * j + 5) % 8 = 5 by omega, show (8 * j + 6) % 8 = 6 by omega, show (8 * j + 7) % 8 = 7 by omega, UInt8.toNat_ofNat']
  simp only [Nat.sub_zero, Nat.reduceSub, Nat.reducePow]
  exact byte_of_bits ⟨_, hx⟩
end Go.Proofs.Ytflmbghbgmkdeaa
