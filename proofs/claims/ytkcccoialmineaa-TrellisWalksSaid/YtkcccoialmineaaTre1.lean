/-
  The trellis as a plain law: states and bits as numbers, inputs as lists of bytes; linear; codewords of different inputs differ in at least 6 places.
-/
import Derived.Test.YtkcccoialmineaaBas2
namespace Go.Proofs.Ytkcccoialmineaa
open Go.RowKit

def nx (s b : Nat) : Nat := 4 * ((b + s / 2 + s) % 2) + 2 * (s / 4) + s / 2 % 2
def pr (s b : Nat) : Nat := ((b + s / 2 + s) % 2 + s / 4 + s) % 2
/-- The state behind the inputs l. -/
def stt (s : Nat) : List UInt8 → Nat
  | [] => s
  | x :: r => stt (nx s x.toNat) r
/-- The parity of the inputs l. -/
def par (s : Nat) : List UInt8 → List UInt8
  | [] => []
  | x :: r => UInt8.ofNat (pr s x.toNat) :: par (nx s x.toNat) r
def ub (s : Nat) : Nat := (s / 2 + s) % 2
def tU (s : Nat) : List UInt8 := [UInt8.ofNat (ub s), UInt8.ofNat (ub (nx s (ub s))), UInt8.ofNat (ub (nx (nx s (ub s)) (ub (nx s (ub s)))))]
def tZ (s : Nat) : List UInt8 := par s (tU s)
def wrd (l : List UInt8) : List UInt8 := l ++ par 0 l ++ tU (stt 0 l) ++ tZ (stt 0 l)
/-- Every element is a bit. -/
def okb (l : List UInt8) : Bool := l.all (· ≤ 1)
/-- In how many places two lists differ. -/
def dst : List UInt8 → List UInt8 → Nat
  | a :: p, b :: q => (if a = b then 0 else 1) + dst p q
  | _, _ => 0

theorem stt_append (s : Nat) (l m : List UInt8) : stt s (l ++ m) = stt (stt s l) m := by
  induction l generalizing s with
  | nil => rfl
  | cons x r ih => exact ih _
theorem par_append (s : Nat) (l m : List UInt8) : par s (l ++ m) = par s l ++ par (stt s l) m := by
  induction l generalizing s with
  | nil => rfl
  | cons x r ih => simp only [List.cons_append, par, stt, ih]
theorem par_length (s : Nat) (l : List UInt8) : (par s l).length = l.length := by
  induction l generalizing s with
  | nil => rfl
  | cons x r ih => simp [par, ih]
theorem tU_length (s : Nat) : (tU s).length = 3 := rfl
theorem tZ_length (s : Nat) : (tZ s).length = 3 := rfl
theorem wrd_length (l : List UInt8) : (wrd l).length = 2 * l.length + 6 := by simp [wrd, par_length, tU_length, tZ_length]; omega
theorem take_one (l : List UInt8) (k : Nat) (h : k < l.length) : l.take (k + 1) = l.take k ++ [gd l k] := by
  rw [List.take_succ_eq_append_getElem h]
  simp [gd, h]
theorem stt_take (s : Nat) (l : List UInt8) (k : Nat) (h : k < l.length) : stt s (l.take (k + 1)) = nx (stt s (l.take k)) (gd l k).toNat := by
  rw [take_one l k h, stt_append]; rfl
theorem par_take (s : Nat) (l : List UInt8) (k : Nat) (h : k < l.length) : par s (l.take (k + 1)) = par s (l.take k) ++ [UInt8.ofNat (pr (stt s (l.take k)) (gd l k).toNat)] := by
  rw [take_one l k h, par_append]; rfl
theorem nx_lt (s b : Nat) (h : s < 8) : nx s b < 8 := by unfold nx; omega
theorem pr_lt (s b : Nat) : pr s b < 2 := by unfold pr; omega
theorem ub_lt (s : Nat) : ub s < 2 := by unfold ub; omega
theorem stt_lt (s : Nat) (h : s < 8) (l : List UInt8) : stt s l < 8 := by
  induction l generalizing s with
  | nil => exact h
  | cons x r ih => exact ih _ (nx_lt _ _ h)
theorem okb_get (l : List UInt8) (h : okb l = true) (i : Nat) : (gd l i).toNat < 2 := by
  by_cases hi : i < l.length
  · have := List.all_eq_true.1 h (gd l i) (by simp [gd, hi])
    have h1 : gd l i ≤ 1 := by simpa using this
    have : (gd l i).toNat ≤ 1 := UInt8.le_iff_toNat_le.1 h1
    omega
  · simp [gd, hi]
theorem okb_take (l : List UInt8) (k : Nat) (h : ∀ i, i < k → (gd l i).toNat < 2) : okb (l.take k) = true := by
  rw [okb, List.all_eq_true]
  intro x hx
  obtain ⟨i, hi, rfl⟩ := List.mem_iff_getElem.1 hx
  have hl : i < k ∧ i < l.length := by simp at hi; omega
  have := h i hl.1
  simp only [decide_eq_true_eq, UInt8.le_iff_toNat_le]
  simp only [gd] at this
  simp [hl.2] at this
  simp
  omega
theorem okb_of (l : List UInt8) (h : ∀ i, i < l.length → (gd l i).toNat < 2) : okb l = true := by
  have := okb_take l l.length h
  rwa [List.take_length] at this
theorem okb_not (l : List UInt8) (i : Nat) (hi : i < l.length) (h : ¬ (gd l i).toNat < 2) : okb l = false := by
  cases ho : okb l with
  | false => rfl
  | true => exact absurd (okb_get l ho i) h

/-! ### Differences -/
theorem dst_append : ∀ (p q r s : List UInt8), p.length = q.length → dst (p ++ r) (q ++ s) = dst p q + dst r s
  | [], [], _, _, _ => by simp [dst]
  | a :: p, b :: q, r, s, h => by
    simp only [List.cons_append, dst, dst_append p q r s (by simpa using h)]
    omega
theorem dst_take (p q : List UInt8) (k : Nat) (hp : k < p.length) (hq : k < q.length) : dst (p.take (k + 1)) (q.take (k + 1)) = dst (p.take k) (q.take k) + (if gd p k = gd q k then 0 else 1) := by
  rw [take_one p k hp, take_one q k hq, dst_append _ _ _ _ (by simp; omega)]
  simp [dst]
theorem dst_self : ∀ (p : List UInt8), dst p p = 0
  | [] => rfl
  | a :: p => by simp [dst, dst_self p]

/-- The least weight by which a state is reached from 0 with a 1 among the inputs. -/
def wt (s : Nat) : Nat := [6, 4, 3, 3, 2, 4, 3, 3].getD s 0
theorem wt_step : ∀ s t : Fin 8, ∀ a b : Fin 2, wt (nx s.val a.val ^^^ nx t.val b.val) ≤ wt (s.val ^^^ t.val) + (if a.val = b.val then 0 else 1) + (if pr s.val a.val = pr t.val b.val then 0 else 1) := by decide +kernel
theorem wt_start : ∀ s : Fin 8, ∀ a b : Fin 2, a.val ≠ b.val → wt (nx s.val a.val ^^^ nx s.val b.val) ≤ 1 + (if pr s.val a.val = pr s.val b.val then 0 else 1) := by decide +kernel
theorem wt_end : ∀ s t : Fin 8, 6 ≤ wt (s.val ^^^ t.val) + dst (tU s.val) (tU t.val) + dst (tZ s.val) (tZ t.val) := by decide +kernel
theorem ofNat_inj : ∀ a b : Fin 2, (UInt8.ofNat a.val = UInt8.ofNat b.val ↔ a.val = b.val) := by decide +kernel
theorem okb_cons {a : UInt8} {l : List UInt8} (h : okb (a :: l) = true) : a.toNat < 2 ∧ okb l = true := by
  simp only [okb, List.all_cons, Bool.and_eq_true, decide_eq_true_eq] at h
  exact ⟨by have := UInt8.le_iff_toNat_le.1 h.1; simp at this; omega, h.2⟩
theorem toNat_eq (a b : UInt8) : (a = b) ↔ a.toNat = b.toNat := ⟨fun h => by rw [h], fun h => UInt8.toNat_inj.1 h⟩
theorem far : ∀ (x y : List UInt8) (s t w : Nat), s < 8 → t < 8 → x.length = y.length → okb x = true → okb y = true → wt (s ^^^ t) ≤ w →
    6 ≤ w + dst x y + dst (par s x) (par t y) + dst (tU (stt s x)) (tU (stt t y)) + dst (tZ (stt s x)) (tZ (stt t y))
  | [], [], s, t, w, hs, ht, _, _, _, hw => by
    have := wt_end ⟨s, hs⟩ ⟨t, ht⟩
    simp only [dst, par, stt] at this ⊢
    omega
  | a :: x, b :: y, s, t, w, hs, ht, hl, hx, hy, hw => by
    obtain ⟨ha, hx⟩ := okb_cons hx
    obtain ⟨hb, hy⟩ := okb_cons hy
    have h1 := wt_step ⟨s, hs⟩ ⟨t, ht⟩ ⟨a.toNat, ha⟩ ⟨b.toNat, hb⟩
    have h2 := ofNat_inj ⟨pr s a.toNat, pr_lt _ _⟩ ⟨pr t b.toNat, pr_lt _ _⟩
    simp only [] at h1 h2
    have h3 := far x y (nx s a.toNat) (nx t b.toNat) (w + (if a.toNat = b.toNat then 0 else 1) + (if pr s a.toNat = pr t b.toNat then 0 else 1)) (nx_lt _ _ hs) (nx_lt _ _ ht) (by simpa using hl) hx hy (by omega)
    simp only [dst, par, stt, toNat_eq a b, h2]
    omega
theorem apart : ∀ (x y : List UInt8) (s : Nat), s < 8 → x.length = y.length → okb x = true → okb y = true → x ≠ y →
    6 ≤ dst x y + dst (par s x) (par s y) + dst (tU (stt s x)) (tU (stt s y)) + dst (tZ (stt s x)) (tZ (stt s y))
  | [], [], _, _, _, _, _, h => absurd rfl h
  | a :: x, b :: y, s, hs, hl, hx, hy, h => by
    obtain ⟨ha, hx1⟩ := okb_cons hx
    obtain ⟨hb, hy1⟩ := okb_cons hy
    by_cases e : a = b
    · subst e
      have := apart x y (nx s a.toNat) (nx_lt _ _ hs) (by simpa using hl) hx1 hy1 (fun e => h (by rw [e]))
      simp only [dst, par, stt, if_true]
      omega
    · have e' : a.toNat ≠ b.toNat := fun k => e (UInt8.toNat_inj.1 k)
      have h1 := wt_start ⟨s, hs⟩ ⟨a.toNat, ha⟩ ⟨b.toNat, hb⟩ e'
      have h2 := ofNat_inj ⟨pr s a.toNat, pr_lt _ _⟩ ⟨pr s b.toNat, pr_lt _ _⟩
      simp only [] at h1 h2
      have h3 := far x y (nx s a.toNat) (nx s b.toNat) (1 + (if pr s a.toNat = pr s b.toNat then 0 else 1)) (nx_lt _ _ hs) (nx_lt _ _ hs) (by simpa using hl) hx1 hy1 h1
      simp only [dst, par, stt, if_neg e, h2]
      omega
/-- THE STAGE's THEOREM: codewords of different inputs differ in at least 6 places. -/
theorem wrd_apart (x y : List UInt8) (hl : x.length = y.length) (hx : okb x = true) (hy : okb y = true) (h : x ≠ y) : 6 ≤ dst (wrd x) (wrd y) := by
  have := apart x y 0 (by decide) hl hx hy h
  unfold wrd
  rw [dst_append _ _ _ _ (by simp [par_length, tU_length, hl]), dst_append _ _ _ _ (by simp [par_length, hl]), dst_append _ _ _ _ hl]
  omega

/-! ### Linear -/
def xorL (x y : List UInt8) : List UInt8 := List.zipWith (· ^^^ ·) x y
theorem nx_xor : ∀ s t : Fin 8, ∀ a b : Fin 2, nx (s.val ^^^ t.val) (a.val ^^^ b.val) = nx s.val a.val ^^^ nx t.val b.val := by decide +kernel
theorem pr_xor : ∀ s t : Fin 8, ∀ a b : Fin 2, UInt8.ofNat (pr (s.val ^^^ t.val) (a.val ^^^ b.val)) = UInt8.ofNat (pr s.val a.val) ^^^ UInt8.ofNat (pr t.val b.val) := by decide +kernel
theorem tU_xor : ∀ s t : Fin 8, tU (s.val ^^^ t.val) = xorL (tU s.val) (tU t.val) := by decide +kernel
theorem tZ_xor : ∀ s t : Fin 8, tZ (s.val ^^^ t.val) = xorL (tZ s.val) (tZ t.val) := by decide +kernel
theorem xor_lt8 : ∀ s t : Fin 8, s.val ^^^ t.val < 8 := by decide +kernel
theorem stt_xor : ∀ (x y : List UInt8) (s t : Nat), s < 8 → t < 8 → x.length = y.length → okb x = true → okb y = true → stt (s ^^^ t) (xorL x y) = stt s x ^^^ stt t y
  | [], [], _, _, _, _, _, _, _ => rfl
  | a :: x, b :: y, s, t, hs, ht, hl, hx, hy => by
    obtain ⟨ha, hx⟩ := okb_cons hx
    obtain ⟨hb, hy⟩ := okb_cons hy
    have h1 := nx_xor ⟨s, hs⟩ ⟨t, ht⟩ ⟨a.toNat, ha⟩ ⟨b.toNat, hb⟩
    simp only [] at h1
    show stt (nx (s ^^^ t) (a ^^^ b).toNat) (xorL x y) = _
    rw [UInt8.toNat_xor, h1, stt_xor x y _ _ (nx_lt _ _ hs) (nx_lt _ _ ht) (by simpa using hl) hx hy]
    rfl
theorem par_xor : ∀ (x y : List UInt8) (s t : Nat), s < 8 → t < 8 → x.length = y.length → okb x = true → okb y = true → par (s ^^^ t) (xorL x y) = xorL (par s x) (par t y)
  | [], [], _, _, _, _, _, _, _ => rfl
  | a :: x, b :: y, s, t, hs, ht, hl, hx, hy => by
    obtain ⟨ha, hx⟩ := okb_cons hx
    obtain ⟨hb, hy⟩ := okb_cons hy
    have h1 := nx_xor ⟨s, hs⟩ ⟨t, ht⟩ ⟨a.toNat, ha⟩ ⟨b.toNat, hb⟩
    have h2 := pr_xor ⟨s, hs⟩ ⟨t, ht⟩ ⟨a.toNat, ha⟩ ⟨b.toNat, hb⟩
    simp only [] at h1 h2
    show UInt8.ofNat (pr (s ^^^ t) (a ^^^ b).toNat) :: par (nx (s ^^^ t) (a ^^^ b).toNat) (xorL x y) = _
    rw [UInt8.toNat_xor, h1, h2, par_xor x y _ _ (nx_lt _ _ hs) (nx_lt _ _ ht) (by simpa using hl) hx hy]
    rfl
theorem xorL_append (p q r s : List UInt8) (h : p.length = q.length) : xorL (p ++ r) (q ++ s) = xorL p q ++ xorL r s := by
  unfold xorL; rw [List.zipWith_append h]
theorem wrd_xor (x y : List UInt8) (hl : x.length = y.length) (hx : okb x = true) (hy : okb y = true) : wrd (xorL x y) = xorL (wrd x) (wrd y) := by
  have h1 := stt_xor x y 0 0 (by decide) (by decide) hl hx hy
  have h2 := par_xor x y 0 0 (by decide) (by decide) hl hx hy
  rw [show (0 : Nat) ^^^ 0 = 0 from rfl] at h1 h2
  unfold wrd
  rw [h1, h2, tU_xor ⟨_, stt_lt 0 (by decide) x⟩ ⟨_, stt_lt 0 (by decide) y⟩, tZ_xor ⟨_, stt_lt 0 (by decide) x⟩ ⟨_, stt_lt 0 (by decide) y⟩]
  rw [xorL_append _ _ _ _ (by simp [par_length, tU_length, hl]), xorL_append _ _ _ _ (by simp [par_length, hl]), xorL_append _ _ _ _ hl]
end Go.Proofs.Ytkcccoialmineaa
