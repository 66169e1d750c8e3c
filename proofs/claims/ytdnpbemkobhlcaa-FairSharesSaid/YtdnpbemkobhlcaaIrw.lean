/-
  Rows of integers as functions of the index, in a block; the premise on a comparing closure; the plain law of an insertion sort.
-/
import Derived.Test.YtdnpbemkobhlcaaOrd
import Derived.Test.YtdnpbemkobhlcaaOwn
namespace Go.Proofs.Ytdnpbemkobhlcaa
open Go.RowKit

def rowV (f : Nat → Nat) (n : Nat) : Array Value := ((List.range n).map fun i => Value.int .i64 (f i : Nat)).toArray
theorem rowV_size (f : Nat → Nat) (n : Nat) : (rowV f n).size = n := by simp [rowV]
theorem rowV_get (f : Nat → Nat) (n i : Nat) (h : i < n) : (rowV f n)[i]? = some (.int .i64 (f i : Nat)) := by simp [rowV, h]
theorem rowV_set (f : Nat → Nat) (n i x : Nat) : (rowV f n).setIfInBounds i (.int .i64 (x : Nat)) = rowV (upd f i x) n := by
  apply Array.ext_getElem?
  intro j
  rw [Array.getElem?_setIfInBounds]
  by_cases hj : j < n
  · rw [rowV_get (upd f i x) _ _ hj]
    by_cases hij : i = j
    · subst hij; rw [if_pos rfl, if_pos (by rw [rowV_size]; exact hj)]; unfold upd; rw [if_pos rfl]
    · rw [if_neg hij, rowV_get f _ _ hj]; unfold upd; rw [if_neg (Ne.symm hij)]
  · have e : (rowV (upd f i x) n)[j]? = none := by rw [Array.getElem?_eq_none]; rw [rowV_size]; omega
    rw [e]
    have e2 : (rowV f n)[j]? = none := by rw [Array.getElem?_eq_none]; rw [rowV_size]; omega
    by_cases hij : i = j
    · rw [if_pos hij, if_neg (by rw [rowV_size]; omega)]
    · rw [if_neg hij, e2]
theorem rowV_congr (f g : Nat → Nat) (n : Nat) (h : ∀ i, i < n → f i = g i) : rowV f n = rowV g n := by
  unfold rowV
  congr 1
  apply List.map_congr_left
  intro i hi
  rw [h i (List.mem_range.1 hi)]
theorem Blk.row {w : World} {b t n : Nat} {f : Nat → Nat} (h : Blk w b (rowV f n) t) (i : Nat) (hi : i < n) : w.cell? ⟨b, i, none⟩ = some (.int .i64 (f i : Nat)) := by
  rw [h.cell, rowV_get _ _ _ hi]
section
variable {cl : Nat → Nat → Bool} {lt : Nat → Nat → Prop}
/-- Any two elements of a range, in the order in which they stand, are told apart by the comparison. -/
def Tell (cl : Nat → Nat → Bool) (lt : Nat → Nat → Prop) (f : Nat → Nat) (a b : Nat) : Prop := ∀ i j, a ≤ i → i < j → j < b → (cl (f j) (f i) = true → lt (f j) (f i)) ∧ (cl (f j) (f i) = false → lt (f i) (f j))
theorem Tell.lr {f g : Nat → Nat} {a b i : Nat} (h : Tell cl lt f a b) (hs : Same f g a i) (hi : i < b) : LR cl lt g a i (i + 1) := by
  intro x y h1 h2 h3 h4
  obtain rfl : y = i := by omega
  obtain ⟨z, z1, z2, e⟩ := hs.1 x h1 h2
  rw [e, hs.2.2 y (.inr (Nat.le_refl _))]
  exact h z y z1 z2 hi
/-- One element more is sorted in. -/
theorem isort_step (hS : Strict lt) {f g : Nat → Nat} {a b i j : Nat} (h : Tell cl lt f a b) (hs : Same f g a i) (h1 : Srt lt g a i) (ha : a ≤ j) (hj : j ≤ i) (hi : i < b)
    (hyes : ∀ c, j ≤ c → c < i → cl (g i) (g c) = true) (hno : j = a ∨ cl (g i) (g (j - 1)) = false) : Same f (rot g j i (i + 1)) a (i + 1) ∧ Srt lt (rot g j i (i + 1)) a (i + 1) := by
  have hL := h.lr hs hi
  refine ⟨(hs.mono (Nat.le_refl _) (by omega)).trans ((same_rot g j i (i + 1) hj (by omega)).mono ha (Nat.le_refl _)), merge_right h1 hL ha hj (fun c c1 c2 => ?_) hyes⟩
  rcases hno with e | e
  · omega
  · exact insert_no hS h1 hL (by omega) hj e c c1 c2
end
theorem rot_end (g : Nat → Nat) (i : Nat) : rot g i i (i + 1) = g := rot_same' g i (i + 1)
theorem rot_at (g : Nat → Nat) (j i : Nat) (h : j ≤ i) : rot g j i (i + 1) j = g i := by
  unfold rot; rw [if_pos (by omega)]; congr 1; omega
theorem rot_before (g : Nat → Nat) (j i c : Nat) (h : c < j) : rot g j i (i + 1) c = g c := by
  unfold rot; rw [if_neg (by omega), if_neg (by omega)]
/-- What the exchange of two neighbours makes of the row. -/
theorem rot_swap (g : Nat → Nat) (j i : Nat) (h1 : 0 < j) (h : j ≤ i) : upd (upd (rot g j i (i + 1)) j (g (j - 1))) (j - 1) (g i) = rot g (j - 1) i (i + 1) := by
  have e := rot_right_step g (j - 1) i (by omega)
  rw [Nat.sub_add_cancel h1] at e
  rw [rot_at g j i h, rot_before g j i (j - 1) (by omega)] at e
  exact e
section
variable {P : Program}
/-- What is asked of the comparing closure (function g, bound to lb): in every world that differs from w0 but in block row (and in what is new) it hands back c i k for numbers below N. -/
def CmpAt (P : Program) (g : Nat) (lb : Array Value) (c : Nat → Nat → Int) (N row : Nat) (w0 : World) : Prop :=
  ∀ (W : World) (i k : Nat), But row w0.heap.size w0 W → i < N → k < N → Calls P g (#[.int .i64 (i : Nat), .int .i64 (k : Nat)] ++ lb) W fun e W' => e = .returned (.int .i64 (c i k)) ∧ Below W.heap.size W W'
end
end Go.Proofs.Ytdnpbemkobhlcaa
