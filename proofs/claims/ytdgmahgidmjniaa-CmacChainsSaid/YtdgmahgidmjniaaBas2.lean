/-
  General lemmas, more: a list's byte at an index, behind a name that simp leaves alone.
-/
import Derived.Test.YtdgmahgidmjniaaBase
namespace Go.Proofs.Ytdgmahgidmjniaa
open Go.RowKit

/-- The byte of l at i (0 beyond its end). -/
def gd (l : List UInt8) (i : Nat) : UInt8 := l.getD i 0
theorem Blk.gd {w : World} {b : Nat} {l : List UInt8} {t : TypeId} (h : Blk w b (bytesV l) t) (o : Nat) (ho : o < l.length) : w.cell? ⟨b, o, none⟩ = some (.int .u8 (gd l o).toNat) := h.byte o ho
theorem bytesV_gd (l : List UInt8) (i : Nat) (h : i < l.length) : (bytesV l)[i]? = some (.int .u8 (gd l i).toNat) := by
  rw [bytesV_get]; simp [h, gd, B]
theorem gd_append_left (l m : List UInt8) (i : Nat) (h : i < l.length) : gd (l ++ m) i = gd l i := by
  simp only [gd, List.getD_eq_getElem?_getD, List.getElem?_append_left h]
theorem gd_append_right (l m : List UInt8) (i : Nat) (h : l.length ≤ i) : gd (l ++ m) i = gd m (i - l.length) := by
  simp only [gd, List.getD_eq_getElem?_getD, List.getElem?_append_right h]
theorem gd_take (l : List UInt8) (n i : Nat) (h : i < n) : gd (l.take n) i = gd l i := by
  simp only [gd, List.getD_eq_getElem?_getD, List.getElem?_take_of_lt h]
theorem gd_drop (l : List UInt8) (n i : Nat) : gd (l.drop n) i = gd l (n + i) := by
  simp only [gd, List.getD_eq_getElem?_getD, List.getElem?_drop]
theorem gd_set (l : List UInt8) (i j : Nat) (x : UInt8) (hi : i < l.length) : gd (l.set i x) j = if i = j then x else gd l j := by
  simp only [gd, List.getD_eq_getElem?_getD, List.getElem?_set]
  split
  · rfl
  · rfl
theorem gd_map_range (f : Nat → UInt8) (n i : Nat) (h : i < n) : gd ((List.range n).map f) i = f i := by
  simp [gd, h]
theorem gd_replicate (n i : Nat) : gd (List.replicate n 0) i = 0 := by
  simp only [gd, List.getD_eq_getElem?_getD, List.getElem?_replicate]
  split <;> rfl
theorem ext_gd {l m : List UInt8} (h : l.length = m.length) (k : ∀ i, i < l.length → gd l i = gd m i) : l = m := by
  apply List.ext_getElem h
  intro i h1 h2
  have := k i h1
  simpa [gd, h1, h2] using this
theorem bytesV_toList (l : List UInt8) : (bytesV l).toList = l.map B := by simp [bytesV]
theorem splice_all (z l : List UInt8) (h : z.length = l.length) : splice (bytesV z) 0 (bytesV l).toList = bytesV l := by
  rw [bytesV_toList, splice_bytes _ _ _ (by omega)]
  simp [← h]
end Go.Proofs.Ytdgmahgidmjniaa
