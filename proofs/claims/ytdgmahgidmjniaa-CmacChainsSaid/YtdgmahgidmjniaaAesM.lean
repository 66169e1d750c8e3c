/-
  AES, the plain laws of the field's product: that the two ways of reckoning it agree, and that it is a ring's product. No program in sight.
-/
import Derived.Test.YtdgmahgidmjniaaBase
namespace Go.Proofs.Ytdgmahgidmjniaa

def dbl (a : UInt8) : UInt8 := (a <<< 1) ^^^ ((a >>> 7) * 0x1b)
def mulF : Nat → UInt8 → UInt8 → UInt8 → UInt8
  | 0, _, _, p => p
  | n + 1, a, b, p => mulF n (dbl a) (b >>> 1) (p ^^^ ((b &&& 1) * a))
def gmul (a b : UInt8) : UInt8 := mulF 8 a b 0
theorem mulF_zero (n : Nat) : ∀ a p, mulF n a 0 p = p := by
  induction n with
  | zero => intro a p; rfl
  | succ n ih => intro a p; simp [mulF, ih]

def r1 (a b : Nat) : Nat → Nat
  | 0 => 0
  | k + 1 => if b / 2 ^ k % 2 = 1 then r1 a b k ^^^ (a * 2 ^ k) else r1 a b k
def r2 (p : Nat) : Nat → Nat
  | 0 => p
  | j + 1 => if r2 p j / 2 ^ (14 - j) % 2 = 1 then r2 p j ^^^ (283 * 2 ^ (6 - j)) else r2 p j
def rmul (a b : UInt8) : UInt8 := UInt8.ofNat (r2 (r1 a.toNat b.toNat 8) 7 % 256)

/-! Linearity over exclusive or. -/
theorem shl1_xor (a b : UInt8) : (a ^^^ b) <<< 1 = (a <<< 1) ^^^ (b <<< 1) := by
  apply UInt8.toBitVec_inj.1
  simp [BitVec.shiftLeft_xor_distrib]
theorem shr_xor (a b : UInt8) (k : UInt8) : (a ^^^ b) >>> k = (a >>> k) ^^^ (b >>> k) := by
  apply UInt8.toBitVec_inj.1
  simp [BitVec.ushiftRight_xor_distrib]
theorem bit_cases (b : UInt8) : b &&& 1 = 0 ∨ b &&& 1 = 1 := by
  revert b; apply u8_all; decide +kernel
theorem top_cases (b : UInt8) : b >>> 7 = 0 ∨ b >>> 7 = 1 := by
  revert b; apply u8_all; decide +kernel
theorem and_xor (a b c : UInt8) : (a ^^^ b) &&& c = (a &&& c) ^^^ (b &&& c) := by
  apply UInt8.toBitVec_inj.1
  simp only [UInt8.toBitVec_and, UInt8.toBitVec_xor]
  apply BitVec.eq_of_getLsbD_eq
  intro i _
  simp only [BitVec.getLsbD_and, BitVec.getLsbD_xor]
  cases a.toBitVec.getLsbD i <;> cases b.toBitVec.getLsbD i <;> cases c.toBitVec.getLsbD i <;> rfl
theorem xlc (a b c : UInt8) : a ^^^ (b ^^^ c) = b ^^^ (a ^^^ c) := by
  rw [← UInt8.xor_assoc, UInt8.xor_comm a b, UInt8.xor_assoc]
theorem xcc (a b : UInt8) : a ^^^ (a ^^^ b) = b := by
  rw [← UInt8.xor_assoc]; simp
theorem nlc (a b c : Nat) : a ^^^ (b ^^^ c) = b ^^^ (a ^^^ c) := by
  rw [← Nat.xor_assoc, Nat.xor_comm a b, Nat.xor_assoc]
theorem ncc (a b : Nat) : a ^^^ (a ^^^ b) = b := by
  rw [← Nat.xor_assoc]; simp
theorem congr2 {α : Type} (f : α → α → α) {a a' b b' : α} (h : a = a') (k : b = b') : f a b = f a' b' := by rw [h, k]
theorem dbl_xor (a b : UInt8) : dbl (a ^^^ b) = dbl a ^^^ dbl b := by
  unfold dbl
  rw [shl1_xor, shr_xor]
  rcases top_cases a with h | h <;> rcases top_cases b with k | k <;> rw [h, k] <;> simp [UInt8.xor_assoc, UInt8.xor_comm, xlc]
theorem mulF_lin_a (n : Nat) : ∀ a a' b p p', mulF n (a ^^^ a') b (p ^^^ p') = mulF n a b p ^^^ mulF n a' b p' := by
  induction n with
  | zero => intro a a' b p p'; rfl
  | succ n ih =>
    intro a a' b p p'
    simp only [mulF]
    rw [← ih, dbl_xor]
    congr 1
    rcases bit_cases b with h | h <;> rw [h]
    · simp
    · rw [UInt8.one_mul, UInt8.one_mul, UInt8.one_mul, UInt8.xor_assoc, xlc p', ← UInt8.xor_assoc p a]
theorem mulF_lin_b (n : Nat) : ∀ a b b' p p', mulF n a (b ^^^ b') (p ^^^ p') = mulF n a b p ^^^ mulF n a b' p' := by
  induction n with
  | zero => intro a b b' p p'; rfl
  | succ n ih =>
    intro a b b' p p'
    simp only [mulF]
    rw [← ih, shr_xor, and_xor]
    congr 1
    rcases bit_cases b with h | h <;> rcases bit_cases b' with k | k <;> rw [h, k] <;> simp [UInt8.xor_comm, xlc, xcc]
theorem gmul_xor_left (a a' b : UInt8) : gmul (a ^^^ a') b = gmul a b ^^^ gmul a' b := by
  have := mulF_lin_a 8 a a' b 0 0
  simpa [gmul] using this
theorem gmul_xor_right (a b b' : UInt8) : gmul a (b ^^^ b') = gmul a b ^^^ gmul a b' := by
  have := mulF_lin_b 8 a b b' 0 0
  simpa [gmul] using this

/-- A byte out of its bits. -/
def bitOf (x : UInt8) (k : UInt8) : UInt8 := x &&& (1 <<< k)
theorem of_bits (x : UInt8) : x = bitOf x 0 ^^^ bitOf x 1 ^^^ bitOf x 2 ^^^ bitOf x 3 ^^^ bitOf x 4 ^^^ bitOf x 5 ^^^ bitOf x 6 ^^^ bitOf x 7 := by
  revert x; apply u8_all; decide +kernel
theorem bitOf_cases (x : UInt8) : ∀ k : Fin 8, bitOf x (UInt8.ofNat k.val) = 0 ∨ bitOf x (UInt8.ofNat k.val) = 1 <<< UInt8.ofNat k.val := by
  revert x; apply u8_all; decide +kernel
/-- Two functions that are linear over exclusive or agree if they agree on the eight powers of two. -/
theorem lin_ext (f g : UInt8 → UInt8) (hf : ∀ x y, f (x ^^^ y) = f x ^^^ f y) (hg : ∀ x y, g (x ^^^ y) = g x ^^^ g y)
    (h : ∀ k : Fin 8, f (1 <<< UInt8.ofNat k.val) = g (1 <<< UInt8.ofNat k.val)) (x : UInt8) : f x = g x := by
  have f0 : f 0 = 0 := by have := hf 0 0; simpa using this
  have g0 : g 0 = 0 := by have := hg 0 0; simpa using this
  have hb : ∀ k : Fin 8, f (bitOf x (UInt8.ofNat k.val)) = g (bitOf x (UInt8.ofNat k.val)) := fun k => by
    rcases bitOf_cases x k with e | e <;> rw [e]
    · rw [f0, g0]
    · exact h k
  have h0 := hb 0
  have h1 := hb 1
  have h2 := hb 2
  have h3 := hb 3
  have h4 := hb 4
  have h5 := hb 5
  have h6 := hb 6
  have h7 := hb 7
  rw [of_bits x]
  simp only [hf, hg]
  simp only [Fin.isValue, Fin.val_zero, Fin.val_one] at h0 h1 h2 h3 h4 h5 h6 h7
  exact congr2 _ (congr2 _ (congr2 _ (congr2 _ (congr2 _ (congr2 _ (congr2 _ h0 h1) h2) h3) h4) h5) h6) h7

theorem basis_comm : ∀ i j : Fin 8, gmul (1 <<< UInt8.ofNat i.val) (1 <<< UInt8.ofNat j.val) = gmul (1 <<< UInt8.ofNat j.val) (1 <<< UInt8.ofNat i.val) := by decide +kernel
theorem gmul_comm (a b : UInt8) : gmul a b = gmul b a := by
  refine lin_ext (fun x => gmul x b) (fun x => gmul b x) (fun x y => gmul_xor_left x y b) (fun x y => gmul_xor_right b x y) (fun i => ?_) a
  refine lin_ext (fun y => gmul (1 <<< UInt8.ofNat i.val) y) (fun y => gmul y (1 <<< UInt8.ofNat i.val)) (fun x y => gmul_xor_right _ x y) (fun x y => gmul_xor_left x y _) (fun j => ?_) b
  exact basis_comm i j
theorem basis_assoc : ∀ i j k : Fin 8, gmul (1 <<< UInt8.ofNat i.val) (gmul (1 <<< UInt8.ofNat j.val) (1 <<< UInt8.ofNat k.val)) = gmul (gmul (1 <<< UInt8.ofNat i.val) (1 <<< UInt8.ofNat j.val)) (1 <<< UInt8.ofNat k.val) := by decide +kernel
theorem gmul_assoc (a b c : UInt8) : gmul a (gmul b c) = gmul (gmul a b) c := by
  refine lin_ext (fun x => gmul x (gmul b c)) (fun x => gmul (gmul x b) c) (fun x y => gmul_xor_left x y _) (fun x y => by rw [gmul_xor_left, gmul_xor_left]) (fun i => ?_) a
  refine lin_ext (fun x => gmul (1 <<< UInt8.ofNat i.val) (gmul x c)) (fun x => gmul (gmul (1 <<< UInt8.ofNat i.val) x) c) (fun x y => by rw [gmul_xor_left, gmul_xor_right]) (fun x y => by rw [gmul_xor_right, gmul_xor_left]) (fun j => ?_) b
  refine lin_ext (fun x => gmul (1 <<< UInt8.ofNat i.val) (gmul (1 <<< UInt8.ofNat j.val) x)) (fun x => gmul (gmul (1 <<< UInt8.ofNat i.val) (1 <<< UInt8.ofNat j.val)) x) (fun x y => by rw [gmul_xor_right, gmul_xor_right]) (fun x y => by rw [gmul_xor_right]) (fun k => ?_) c
  exact basis_assoc i j k
theorem gmul_one (a : UInt8) : gmul a 1 = a := by revert a; apply u8_all; decide +kernel

/-! The reference's product: it too is linear in each factor. -/
theorem xor_bit (p q k : Nat) : (p ^^^ q) / 2 ^ k % 2 = (p / 2 ^ k % 2 + q / 2 ^ k % 2) % 2 := by
  have h : ∀ n, n / 2 ^ k % 2 = (n.testBit k).toNat := fun n => by rw [Nat.toNat_testBit]
  rw [h, h, h, Nat.testBit_xor]
  cases p.testBit k <;> cases q.testBit k <;> rfl
theorem r2_xor (p q : Nat) (j : Nat) : r2 (p ^^^ q) j = r2 p j ^^^ r2 q j := by
  induction j with
  | zero => rfl
  | succ j ih =>
    simp only [r2, ih, xor_bit]
    rcases Nat.mod_two_eq_zero_or_one (r2 p j / 2 ^ (14 - j)) with h | h <;> rcases Nat.mod_two_eq_zero_or_one (r2 q j / 2 ^ (14 - j)) with k | k <;> rw [h, k]
    · simp
    · simp [Nat.xor_assoc]
    · simp only [if_pos, Nat.zero_ne_one, if_false, Nat.add_zero, Nat.one_mod]
      simp only [Nat.xor_assoc, Nat.xor_comm (r2 q j)]
    · simp only [if_pos, Nat.reduceAdd, Nat.mod_self, Nat.zero_ne_one, if_false]
      simp only [Nat.xor_assoc]
      rw [nlc (283 * 2 ^ (6 - j)) (r2 q j), Nat.xor_self, Nat.xor_zero]
theorem mod256_xor (p q : Nat) : (p ^^^ q) % 256 = (p % 256) ^^^ (q % 256) := by
  have h : (256 : Nat) = 2 ^ 8 := rfl
  rw [h, Nat.xor_mod_two_pow]
/-- One column of the reference's product. -/
def col (a : UInt8) (b k : Nat) : UInt8 := if b / 2 ^ k % 2 = 1 then UInt8.ofNat (r2 (a.toNat * 2 ^ k) 7 % 256) else 0
theorem ofNat_xor (p q : Nat) (hp : p < 256) (hq : q < 256) : UInt8.ofNat (p ^^^ q) = UInt8.ofNat p ^^^ UInt8.ofNat q := by
  apply UInt8.toNat_inj.1
  have : p ^^^ q < 2 ^ 8 := Nat.xor_lt_two_pow hp hq
  rw [UInt8.toNat_xor, UInt8.toNat_ofNat_of_lt' this, UInt8.toNat_ofNat_of_lt' hp, UInt8.toNat_ofNat_of_lt' hq]
theorem r2_zero (j : Nat) : r2 0 j = 0 := by
  have := r2_xor 0 0 j
  rw [Nat.xor_self, Nat.xor_self] at this
  exact this
theorem rmul_cols (a b : UInt8) : ∀ k, UInt8.ofNat (r2 (r1 a.toNat b.toNat k) 7 % 256) = (List.range k).foldl (fun p j => p ^^^ col a b.toNat j) 0 := by
  intro k
  induction k with
  | zero => simp [r1, r2_zero]
  | succ k ih =>
    rw [List.range_succ, List.foldl_append, ← ih]
    simp only [List.foldl_cons, List.foldl_nil, r1, col]
    split
    · rw [r2_xor, mod256_xor, ofNat_xor _ _ (Nat.mod_lt _ (by decide)) (Nat.mod_lt _ (by decide))]
    · simp
theorem col_dbl (a : UInt8) : ∀ k : Fin 8, UInt8.ofNat (r2 (a.toNat * 2 ^ k.val) 7 % 256) = mulF 8 a (1 <<< UInt8.ofNat k.val) 0 := by
  revert a; apply u8_all; decide +kernel
theorem bit_col (b : UInt8) : ∀ k : Fin 8, (if b.toNat / 2 ^ k.val % 2 = 1 then (1 : UInt8) <<< UInt8.ofNat k.val else 0) = bitOf b (UInt8.ofNat k.val) := by
  revert b; apply u8_all; decide +kernel
theorem gmul_zero (a : UInt8) : gmul a 0 = 0 := mulF_zero 8 a 0
theorem col_eq (a b : UInt8) (k : Fin 8) : col a b.toNat k.val = gmul a (bitOf b (UInt8.ofNat k.val)) := by
  rw [← bit_col b k, col]
  split
  · rw [col_dbl]; rfl
  · rw [gmul_zero]
theorem rmul_eq (a b : UInt8) : rmul a b = gmul a b := by
  rw [rmul, rmul_cols, of_bits b]
  simp only [gmul_xor_right]
  rw [← of_bits b]
  have h := col_eq a b
  have h0 := h 0
  have h1 := h 1
  have h2 := h 2
  have h3 := h 3
  have h4 := h 4
  have h5 := h 5
  have h6 := h 6
  have h7 := h 7
  simp only [List.range_succ, List.range_zero, List.nil_append, List.foldl_append, List.foldl_cons, List.foldl_nil]
  have e0 : (0 : UInt8) ^^^ col a b.toNat 0 = gmul a (bitOf b 0) := by rw [UInt8.zero_xor]; exact h0
  exact congr2 _ (congr2 _ (congr2 _ (congr2 _ (congr2 _ (congr2 _ (congr2 _ e0 h1) h2) h3) h4) h5) h6) h7
end Go.Proofs.Ytdgmahgidmjniaa
