/-
  AES, the reference's encryption.
-/
import Derived.Test.YtdgmahgidmjniaaAesE8
namespace Go.Proofs.Ytdgmahgidmjniaa
open Go.RowKit

def xorL (a b : List UInt8) : List UInt8 := (List.range 16).map fun i => x8 (gd a i) (gd b i)
theorem xorL_length (a b : List UInt8) : (xorL a b).length = 16 := by simp [xorL]
theorem xorL_gd (a b : List UInt8) (i : Nat) (hi : i < 16) : gd (xorL a b) i = x8 (gd a i) (gd b i) := by rw [xorL, gd_map_range _ _ _ hi]

set_option maxRecDepth 100000 in
set_option maxHeartbeats 4000000 in
theorem refadd_any (a b : List UInt8) (ha : a.length = 16) (hb : b.length = 16) (w : World) :
    Calls Try.prog 67 #[.agg (bytesV a), .agg (bytesV b)] w fun e w' => e = .returned (.agg (bytesV (xorL a b))) ∧ Below w.heap.size w w' := by
  have z1 : ∀ w, (zeroValue 22).run Try.prog w = .ok (.agg (bytesV Z16)) w := (zero_of_info zero22e).1
  obtain ⟨M, hM⟩ : ∃ M, M = xorL a b := ⟨_, rfl⟩
  have hMl := Lib.hid (show M.length = 16 by rw [hM, xorL_length])
  have hMg : Hid (∀ i, i < 16 → x8 (gd a i) (gd b i) = gd M i) := fun i hi => by rw [hM, xorL_gd _ _ _ hi]
  have HM := Lib.hid hM
  clear hM
  have hx := bits_x8
  obtain ⟨W, hW⟩ : ∃ W, W = ((w.alloc (.cells (bytesV a) 22)).alloc (.cells (bytesV b) 22)).alloc (.cells (bytesV Z16) 22) := ⟨_, rfl⟩
  have b0 : Blk W w.heap.size (bytesV (M.take 0 ++ a.drop 0)) 22 := by rw [hW]; exact ((Blk.new' rfl).alloc _).alloc _
  have b1 : Blk W (w.heap.size + 1) (bytesV b) 22 := by rw [hW]; exact (Blk.new' (by simp)).alloc _
  have b2 : Blk W (w.heap.size + 1 + 1) (bytesV Z16) 22 := by rw [hW]; exact Blk.new' (by simp)
  have hB : Below w.heap.size w W := by rw [hW]; exact (((Below.refl _ _).alloc (Nat.le_refl _) _).alloc (by simp) _).alloc (by simp; omega) _
  have HW := Lib.hid hW
  clear hW
  go_enter Try.func67, Try.ntmps67
  go_wp2_with fail
  rw [← HW.out]
  go_loopw [5] (fun t5 wr => ∃ n : Nat, n ≤ 16 ∧ t5 = .int .i64 n ∧ Blk wr w.heap.size (bytesV (M.take n ++ a.drop n)) 22 ∧ Blk wr (w.heap.size + 1) (bytesV b) 22 ∧ Blk wr (w.heap.size + 1 + 1) (bytesV Z16) 22 ∧ Below w.heap.size w wr) (fun t _ => 16 - (intOf t).toNat)
  case atStart => exact ⟨0, by omega, rfl, b0, b1, b2, hB⟩
  case round =>
    clear b0 b1 b2 hB HW z1
    obtain ⟨n, hn, rfl, b0, b1, b2, hB⟩ := hrel
    by_cases hlt : n < 16
    · have hls : (M.take n ++ a.drop n).length = 16 := by simp [hMl.out, ha]; omega
      have c0 := b0.gd n (by omega)
      have hga : gd (M.take n ++ a.drop n) n = gd a n := by
        rw [gd_append_right _ _ _ (by simp [hMl.out]; omega), gd_drop]
        congr 1; simp [hMl.out]; omega
      rw [hga] at c0
      have c1 := b1.gd n (by omega)
      have hf := b0.frozen n
      have hst : Blk (wr.drew.setCell ⟨w.heap.size, n, none⟩ (.int .u8 (gd M n).toNat)) w.heap.size (bytesV (M.take (n + 1) ++ a.drop (n + 1))) 22 := by
        have h2 := b0.drew.set n (B (gd M n))
        rw [bytesV_set, take_set_succ _ _ _ (by rw [hMl.out]; exact hlt) (by rw [hMl.out, ha]; exact Nat.le_refl _)] at h2
        exact h2
      rw [← hMg.out n hlt] at hst
      clear hga
      go_wp2_with fail
      go_still_tail 8, (by kernel_rfl)
      change wpList _ _ _ _ _ wr.drew
      go_wp2
      first
        | exact ⟨⟨n + 1, by omega, by go_num, hst, b1.drew.set_other (by simp) _, b2.drew.set_other (by simp; omega) _, hB.drew.setCell (Nat.le_refl _) _⟩, by simp [intOf]; omega⟩
        | (refine ⟨?_, by simp [intOf]; omega⟩; (repeat apply Exists.intro); exact ⟨⟨n + 1, by omega, by go_num, hst, b1.drew.set_other (by simp) _, b2.drew.set_other (by simp; omega) _, hB.drew.setCell (Nat.le_refl _) _⟩, rfl⟩)
    · obtain rfl : n = 16 := by omega
      have e1 : M.take 16 ++ a.drop 16 = M := by
        rw [List.take_of_length_le (by rw [hMl.out]; exact Nat.le_refl _), List.drop_eq_nil_of_le (by omega), List.append_nil]
      rw [e1] at b0
      go_wp2_with (first
        | ((with_reducible refine wpList_load_blk rfl 22 (.tmp 2) rfl w.heap.size 0 16 rfl b0 row22 ?_ (bytesV M) ?_ ?_); (rw [bytesV_size, hMl.out]; exact Nat.le_refl _); (exact bytesV_whole _ _ hMl.out))
        | ((with_reducible refine wpList_store_blk rfl 22 (.tmp 4) (.tmp 19) rfl (w.heap.size + 1 + 1) 0 16 (bytesV M) rfl rfl b2 row22 ?_ ?_ (bytesV_one _) ?_); (rw [bytesV_size, hMl.out]); (rw [bytesV_size]; decide); intro w8 hb8 ho8; rw [splice_all _ _ (by rw [hMl.out]; rfl)] at hb8))
      refine bodyPost_ret (results_blk rfl _ _ _ (bytesV M) 22 16 rfl hb8 row22 (by rw [bytesV_size, hMl.out])) rfl ?_
      exact ⟨by rw [HM.out], below_only hB ho8 (by omega)⟩
end Go.Proofs.Ytdgmahgidmjniaa
