/-
  AES, encryption: a closure over the bytes of a block.
-/
import Derived.Test.YtdgmahgidmjniaaAesE1
namespace Go.Proofs.Ytdgmahgidmjniaa
open Go.RowKit

/-- g over the bytes of l. -/
def eachL (g : Nat → UInt8 → UInt8) (l : List UInt8) : List UInt8 := (List.range 16).map fun i => g i (gd l i)
theorem eachL_length (g : Nat → UInt8 → UInt8) (l : List UInt8) : (eachL g l).length = 16 := by simp [eachL]
theorem eachL_gd (g : Nat → UInt8 → UInt8) (l : List UInt8) (i : Nat) (hi : i < 16) : gd (eachL g l) i = g i (gd l i) := by
  rw [eachL, gd_map_range _ _ _ hi]

set_option maxRecDepth 100000 in
set_option maxHeartbeats 4000000 in
theorem each_any (F : Nat) (cap : Array Value) (hcf : ∀ (args : Array Value) (w : World), (callFunc F args).run Try.prog w = .ok (.enter F args) w) (l : List UInt8) (hl : l.length = 16) (g : Nat → UInt8 → UInt8) (w : World)
    (hg : ∀ (i : Nat) (x : UInt8) (w' : World), i < 16 → Below w.heap.size w w' → Calls Try.prog F (#[.int .i64 i, .int .u8 x.toNat] ++ cap) w' (Drawn (.int .u8 (g i x).toNat) w')) :
    Calls Try.prog 78 #[.agg (bytesV l), .func (.func F) #[] cap] w fun e w' => e = .returned (.agg (bytesV (eachL g l))) ∧ Below w.heap.size w w' := by
  have z1 : ∀ w, (zeroValue 56).run Try.prog w = .ok (.agg (bytesV Z16)) w := (zero_of_info zero56).1
  obtain ⟨M, hM⟩ : ∃ M, M = eachL g l := ⟨_, rfl⟩
  have hMl := Lib.hid (show M.length = 16 by rw [hM, eachL_length])
  have hMg : Hid (∀ i, i < 16 → g i (gd l i) = gd M i) := fun i hi => by rw [hM, eachL_gd g l i hi]
  have HM := Lib.hid hM
  clear hM
  obtain ⟨V, hV⟩ : ∃ V, V = bytesV l := ⟨_, rfl⟩
  have hix : Hid (∀ (k : Nat) (w : World), k < 16 → (Instr.index 56 (.agg V) (.int .i64 k)).run Try.prog w = .ok (.int .u8 (gd l k).toNat) w) := fun k w hk => by
    rw [hV]; exact run_index_agg Try.underlying56 Try.underlying5 (by kernel_rfl) _ _ _ k rfl hk _ (by rw [bytesV_gd _ _ (by omega)]) _
  obtain ⟨W, hW⟩ : ∃ W, W = (w.alloc (.cells V 56)).alloc (.cells (bytesV Z16) 56) := ⟨_, rfl⟩
  have b0 : Blk W w.heap.size V 56 := by rw [hW]; exact (Blk.new' rfl).alloc _
  have b1 : Blk W (w.heap.size + 1) (bytesV Z16) 56 := by rw [hW]; exact Blk.new' (by simp)
  have hB : Below w.heap.size w W := by rw [hW]; exact ((Below.refl _ _).alloc (Nat.le_refl _) _).alloc (by simp) _
  have hVs := Lib.hid (show V.size = 16 by rw [hV, bytesV_size, hl])
  have e0 : Hid (V = bytesV (M.take 0 ++ l.drop 0)) := Lib.hid (by rw [hV]; simp)
  have HW := Lib.hid hW
  rw [← hV]
  clear hW hV
  have hgH := Lib.hid hg
  clear hg
  go_enter Try.func78, Try.ntmps78
  go_wp2_with (first
    | ((with_reducible refine wpList_load_blk rfl 56 (.tmp 2) rfl w.heap.size 0 16 rfl (HW.out ▸ b0) row56 ?_ V ?_ ?_); (rw [hVs.out]; exact Nat.le_refl _); (rw [← hVs.out]; simp)))
  rw [e0.out] at b0
  rw [← HW.out]
  go_loopw [8] (fun t8 wr => ∃ n : Nat, n ≤ 16 ∧ t8 = .int .i64 n ∧ Blk wr w.heap.size (bytesV (M.take n ++ l.drop n)) 56 ∧ Blk wr (w.heap.size + 1) (bytesV Z16) 56 ∧ Below w.heap.size w wr) (fun t _ => 16 - (intOf t).toNat)
  case atStart => exact ⟨0, by omega, rfl, b0, b1, hB⟩
  case round =>
    clear b0 b1 hB HW e0 z1
    obtain ⟨n, hn, rfl, b0, b1, hB⟩ := hrel
    by_cases hlt : n < 16
    · have hi := hix.out n wr hlt
      have hls : (M.take n ++ l.drop n).length = 16 := by simp [hMl.out, hl]; omega
      have hgn : Calls Try.prog F (#[.int .i64 n, .int .u8 (gd l n).toNat] ++ cap) wr (Drawn (.int .u8 (gd M n).toNat) wr) := by
        have := hgH.out n (gd l n) wr hlt hB
        rwa [hMg.out n hlt] at this
      have hq : Hid (∀ q, (∃ u, (wr.drewN q).cell? ⟨w.heap.size, n, none⟩ = some u) ∧ (wr.drewN q).frozen? ⟨w.heap.size, n, none⟩ = false) := fun q => ⟨⟨_, b0.gd n (by omega)⟩, b0.frozen n⟩
      go_wp2_with (first
        | ((with_reducible refine hgn.mono ?_); rintro e w' ⟨rfl, q, rfl⟩; obtain ⟨⟨u, hu⟩, hf⟩ := hq.out q))
      have hst : Blk ((wr.drewN q).setCell ⟨w.heap.size, n, none⟩ (.int .u8 (gd M n).toNat)) w.heap.size (bytesV (M.take (n + 1) ++ l.drop (n + 1))) 56 := by
        have h1 : Blk (wr.drewN q) w.heap.size (bytesV (M.take n ++ l.drop n)) 56 := b0
        have h2 := h1.set n (B (gd M n))
        rw [bytesV_set, take_set_succ _ _ _ (by rw [hMl.out]; exact hlt) (by rw [hMl.out, hl]; exact Nat.le_refl _)] at h2
        exact h2
      have b1' : Blk (wr.drewN q) (w.heap.size + 1) (bytesV Z16) 56 := b1
      exact ⟨⟨n + 1, by omega, by go_num, hst, b1'.set_other (by simp) _, (below_drewN hB q).setCell (Nat.le_refl _) _⟩, by simp [intOf]; omega⟩
    · obtain rfl : n = 16 := by omega
      have e1 : M.take 16 ++ l.drop 16 = M := by
        rw [List.take_of_length_le (by rw [hMl.out]; exact Nat.le_refl _), List.drop_eq_nil_of_le (by omega), List.append_nil]
      rw [e1] at b0
      go_wp2_with (first
        | ((with_reducible refine wpList_load_blk rfl 56 (.tmp 2) rfl w.heap.size 0 16 rfl b0 row56 ?_ (bytesV M) ?_ ?_); (rw [bytesV_size, hMl.out]; exact Nat.le_refl _); (exact bytesV_whole _ _ hMl.out))
        | ((with_reducible refine wpList_store_blk rfl 56 (.tmp 4) (.tmp 19) rfl (w.heap.size + 1) 0 16 (bytesV M) rfl rfl b1 row56 ?_ ?_ (bytesV_one _) ?_); (rw [bytesV_size, hMl.out]); (rw [bytesV_size]; decide); intro w8 hb8 ho8; rw [splice_all _ _ (by rw [hMl.out]; rfl)] at hb8))
      refine bodyPost_ret (results_blk rfl _ _ _ (bytesV M) 56 16 rfl hb8 row56 (by rw [bytesV_size, hMl.out])) rfl ?_
      exact ⟨by rw [HM.out], below_only hB ho8 (by omega)⟩
end Go.Proofs.Ytdgmahgidmjniaa
