/-
  Rows of the call's own, more: one byte appended; a row just made; the lowest bits of a list.
-/
import Derived.Test.YtdgmahgidmjniaaApp
import Derived.Laws.OwnMore
namespace Go.Proofs.Ytdgmahgidmjniaa
open Go.RowKit

theorem one_new (w : World) (v : Value) (t : TypeId) : ∀ j u, [v][j]? = some u → (w.alloc (.cells #[v] t)).cell? ((⟨w.heap.size, 0, none⟩ : Addr).add j) = some u := by
  intro j u hj
  match j, hj with
  | 0, hj =>
    simp at hj; subst hj
    have := (Blk.new w #[v] t).cell 0
    simp [Addr.add, this]
theorem one_one (k : IntKind) (n : Int) : ∀ u ∈ [Value.int k n], u.oneCell' = true := by
  intro u hu; simp at hu; subst hu; rfl
theorem one_byte (l : List UInt8) (p : Nat) (h : p < 256) : l.map B ++ [.int .u8 (p : Int)] = (l ++ [UInt8.ofNat p]).map B := by
  simp [B, Nat.mod_eq_of_lt h]
theorem le_alloc {w : World} {base : Nat} (h : base ≤ w.heap.size) (o : Obj) : base ≤ (w.alloc o).heap.size := by simp; omega
theorem own_ne {w : World} {base : Nat} {e : TypeId} {v : Value} {n size : Nat} {xs : List Value} {b : Nat} (h : w.ownsRow base e size v n xs) (hb : b < base) : some b ≠ v.ownBlock :=
  fun k => by have := (h.lt b k.symm).1; omega
theorem own_ge {w : World} {base : Nat} {e : TypeId} {v : Value} {n size : Nat} {xs : List Value} (h : w.ownsRow base e size v n xs) : ∀ k, v.ownBlock = some k → base ≤ k := fun k hk => (h.lt k hk).1
theorem pad_set (l : List UInt8) (n k : Nat) (x : UInt8) (hl : l.length = k) (hk : k < n) : (l ++ List.replicate (n - k) 0).set k x = (l ++ [x]) ++ List.replicate (n - (k + 1)) 0 := by
  obtain ⟨m, hm⟩ : ∃ m, n - k = m + 1 := ⟨n - k - 1, by omega⟩
  have h2 : n - (k + 1) = m := by omega
  subst hl
  rw [hm, h2, List.set_append_right _ _ (Nat.le_refl _)]
  simp [List.replicate_succ]
theorem B_of (n : Nat) (h : n < 256) : B (UInt8.ofNat n) = .int .u8 (n : Int) := by
  unfold B
  rw [UInt8.toNat_ofNat', Nat.mod_eq_of_lt h]
theorem made_bytes (n : Nat) : (madeCells (Value.int .u8 0).cells (n * 1)).toList = (List.replicate n (0 : UInt8)).map B := by
  rw [Nat.mul_one]
  exact (toList_madeCells_one _ _).trans (by simp [B])
theorem blk_made {w : World} {base g n : Nat} {t : TypeId} {l : List UInt8} (h : w.ownsRow base t 1 (.slice (some ⟨g, 0, none⟩) n n) n (l.map B)) : Blk w g (bytesV l) t ∧ base ≤ g := by
  obtain ⟨_, ⟨hbad, _⟩ | ⟨g', cap, cur, e, hb, hh, _, _, hs, ht⟩⟩ := h
  · cases hbad
  · simp only [Value.slice.injEq, Option.some.injEq, Addr.mk.injEq, and_true, true_and] at e
    obtain ⟨rfl, rfl⟩ := e
    refine ⟨?_, hb⟩
    have : cur = bytesV l := by
      apply Array.toList_inj.1
      rw [bytesV_toList, ← ht, List.take_of_length_le (by simp [hs])]
    unfold Blk
    rw [hh, this]
theorem bsl_row {w : World} {b : Nat} {l : List UInt8} {t : TypeId} (h : Blk w b (bytesV l) t) (hl : l.length ≤ maxLen) : Bsl w (.slice (some ⟨b, 0, none⟩) l.length l.length) l :=
  ⟨_, _, rfl, Nat.le_refl _, hl, (fun h => nomatch h), fun _ => ⟨b, 0, rfl, h.lt, fun i hi => by rw [Nat.zero_add]; exact h.gd i hi⟩⟩
theorem bsl_lit {w : World} {b n : Nat} {C : Array Value} {t : TypeId} (l : List UInt8) (h : Blk w b C t) (hc : C = bytesV l) (hn : n = l.length) (hl : l.length ≤ maxLen) : Bsl w (.slice (some ⟨b, 0, none⟩) n n) l := by
  subst hc hn; exact bsl_row h hl
theorem bsl_nil (w : World) : Bsl w (.slice none 0 0) [] := ⟨none, 0, rfl, Nat.le_refl _, Nat.zero_le _, fun _ => rfl, Byt.nil _ _⟩
theorem own_empty (w : World) (base : Nat) (hb : base ≤ w.heap.size) : (w.alloc (.cells #[] 5)).ownsRow base 5 1 (.slice (some ⟨w.heap.size, 0, none⟩) 0 0) ([] : List UInt8).length (([] : List UInt8).map B) :=
  World.ownsRow_made w #[] 0 hb (Nat.zero_le _) rfl
/-- Bytes f 0 .. f (k - 1), then zeros up to n. -/
def padF (f : Nat → UInt8) (k n : Nat) : List UInt8 := (List.range k).map f ++ List.replicate (n - k) 0
theorem padF_length (f : Nat → UInt8) (k n : Nat) (h : k ≤ n) : (padF f k n).length = n := by simp [padF]; omega
theorem padF_set (f : Nat → UInt8) (k n : Nat) (h : k < n) : (padF f k n).set k (f k) = padF f (k + 1) n := by
  unfold padF
  rw [pad_set _ n k _ (by simp) h, List.range_succ, List.map_append]
  rfl
theorem padF_end (f : Nat → UInt8) (n : Nat) : padF f n n = (List.range n).map f := by simp [padF]
theorem padF_zero (f : Nat → UInt8) (n : Nat) : List.replicate n (0 : UInt8) = padF f 0 n := by simp [padF]
end Go.Proofs.Ytdgmahgidmjniaa
