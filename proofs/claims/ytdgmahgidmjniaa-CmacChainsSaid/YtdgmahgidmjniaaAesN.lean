import Derived.Test.YtdgmahgidmjniaaAesK
import Derived.Deep.RegionHeld3
namespace Go.Proofs.Ytdgmahgidmjniaa
open Go.RowKit

theorem row44 : RowTy Try.prog 44 176 := ⟨⟨_, Try.underlying44, rfl⟩, by kernel_rfl⟩
theorem zero44 : (Try.prog.info? 44).map (fun i => (i.zero, i.size)) = some (some (.agg (bytesV Z176)), 176) := by kernel_rfl
theorem Blk.whole {w : World} {b : Nat} {C : Array Value} {t : TypeId} (h : Blk w b C t) : w.rangeAt b 0 C.toList := by
  have := h.range 0 C.size
  simpa using this
theorem run_loadAt_blk {P : Program} {w : World} {b : Nat} {C : Array Value} {t : TypeId} (hb : Blk w b C t) {ty : TypeId} {n : Nat} (hr : RowTy P ty n) (hn : C.size = n) :
    (Instr.loadAt ty (.pointer (some ⟨b, 0, none⟩))).run P w = .ok (.agg C) w := by
  obtain ⟨⟨d, hu, hd⟩, hi⟩ := hr
  subst hn
  have h := run_loadAt_mid w b 0 ty (C.extract 0 (0 + C.size)).toList d (hb.range 0 C.size) hu hd (by simpa using hi)
  rw [Array.toArray_toList] at h
  rw [h]
  simp

theorem run_index_row {P : Program} {t e : TypeId} {n m : Nat} (hu : P.underlying t = some (.array n e)) (he : RowTy P e m)
    (cs : Array Value) (k : IntKind) (i : Int) (j : Nat) (hij : i = j) (hj : j < n) (w : World) : (Instr.index t (.agg cs) (.int k i)).run P w = .ok (.agg (cs.extract (j * m) (j * m + m))) w := by
  subst hij
  obtain ⟨⟨d, hd, hr⟩, hs⟩ := he
  cases hq : P.info? e with
  | none => simp [hq] at hs
  | some ie =>
    have hs' : ie.size = m := by simpa [hq] using hs
    have hagg : (isAgg e).run P w = .ok true w := by
      unfold isAgg
      rw [Sem.run_bind, run_underlying hd w]
      cases d <;> simp_all
    simp [Instr.index, asIntOf, run_underlying hu, hj, sizeOf, typeInfo, hq, hs', part, hagg]

/-- n rows of 16 of the list K, then zeros. -/
def outK (K : List UInt8) (n : Nat) : List UInt8 := K.take (n * 16) ++ List.replicate (176 - n * 16) 0
theorem outK_length (K : List UInt8) (hK : K.length = 176) (n : Nat) (hn : n ≤ 11) : (outK K n).length = 176 := by
  simp [outK, hK]; omega
theorem outK_zero (K : List UInt8) : outK K 0 = Z176 := by simp [outK, Z176]
theorem outK_end (K : List UInt8) (hK : K.length = 176) : outK K 11 = K := by simp [outK, ← hK]
def rowK (K : List UInt8) (n : Nat) : List UInt8 := (K.drop (n * 16)).take 16
theorem rowK_length (K : List UInt8) (hK : K.length = 176) (n : Nat) (hn : n < 11) : (rowK K n).length = 16 := by
  simp [rowK, hK]; omega
theorem outK_step (K : List UInt8) (hK : K.length = 176) (n : Nat) (hn : n < 11) : splice (bytesV (outK K n)) (n * 16) (bytesV (rowK K n)).toList = bytesV (outK K (n + 1)) := by
  have hr := rowK_length K hK n hn
  rw [bytesV_toList, splice_bytes _ _ _ (by rw [outK_length K hK n (by omega), hr]; omega)]
  congr 1
  have hl : (K.take (n * 16)).length = n * 16 := by simp [hK]; omega
  rw [hr, outK, List.take_append_of_le_length (by omega), List.take_of_length_le (by omega), List.drop_append, hl, List.drop_eq_nil_of_le (by omega : (K.take (n * 16)).length ≤ n * 16 + 16), List.nil_append, List.drop_replicate, outK,
    show (n + 1) * 16 = n * 16 + 16 from by omega, List.take_add, rowK, show 176 - n * 16 - (n * 16 + 16 - n * 16) = 176 - (n * 16 + 16) from by omega]

set_option maxRecDepth 100000 in
set_option maxHeartbeats 4000000 in
theorem keys_any (key : List UInt8) (hk : key.length = 16) (w : World) :
    Calls Try.prog 37 #[.agg (bytesV key)] w fun e w' => e = .returned (.agg (bytesV (ksL key 160))) ∧ Below w.heap.size w w' := by
  have z1 : ∀ w, (zeroValue 44).run Try.prog w = .ok (.agg (bytesV Z176)) w := (zero_of_info zero44).1
  have z2 : ∀ w, (zeroValue 56).run Try.prog w = .ok (.agg (bytesV Z16)) w := (zero_of_info zero56).1
  have hK := Lib.hid hk
  have hl : ∀ w', Blk w' w.heap.size (bytesV key) 22 → (Instr.loadAt 22 (.pointer (some ⟨w.heap.size, 0, none⟩))).run Try.prog w' = .ok (.agg (bytesV key)) w' := fun w' h =>
    run_loadAt_blk h row22 (by rw [bytesV_size, hK.out])
  clear hk
  obtain ⟨W, hW⟩ : ∃ W, W = (w.alloc (.cells (bytesV key) 22)).alloc (.cells (bytesV Z176) 44) := ⟨_, rfl⟩
  have h0 : Blk W w.heap.size (bytesV key) 22 := by rw [hW]; exact (Blk.new' rfl).alloc _
  have h1 : Blk W (w.heap.size + 1) (bytesV Z176) 44 := by rw [hW]; exact Blk.new' (by simp)
  have hB : Below w.heap.size w W := by rw [hW]; exact ((Below.refl _ _).alloc (Nat.le_refl _) _).alloc (by simp) _
  have hsz : W.heap.size = w.heap.size + 2 := by rw [hW]; simp
  have HW := Lib.hid hW
  have Hz := Lib.hid hsz
  clear hW hsz
  go_enter Try.func37, Try.ntmps37
  go_wp2_with fail
  rw [← HW.out]
  have hu22 := Try.underlying22
  have hi22 : (Try.prog.info? 22).map (·.size) = some (bytesV key).toList.length := by rw [Array.length_toList, bytesV_size, hK.out]; exact row22.2
  have s0 : Blk W.drew w.heap.size (bytesV key) 22 ∧ Blk W.drew (w.heap.size + 1) (bytesV Z176) 44 ∧ Below w.heap.size w W.drew ∧ W.drew.rangeAt w.heap.size 0 (bytesV key).toList := ⟨h0.drew, h1.drew, hB.drew, h0.drew.whole⟩
  go_region_held3 (fun w' => Blk w' w.heap.size (bytesV key) 22 ∧ Blk w' (w.heap.size + 1) (bytesV Z176) 44 ∧ Below w.heap.size w w' ∧ w'.rangeAt w.heap.size 0 (bytesV key).toList) (assumption)
    (first
      | (go_at_call 59; refine (subst_any _).mono ?_; rintro e w2 ⟨rfl, hb1⟩; have s2 : Blk w2 w.heap.size (bytesV key) 22 ∧ Blk w2 (w.heap.size + 1) (bytesV Z176) 44 ∧ Below w.heap.size w w2 ∧ w2.rangeAt w.heap.size 0 (bytesV key).toList := ⟨s0.1.below hb1 s0.1.lt, s0.2.1.below hb1 s0.2.1.lt, bnext s0.2.2.1 hb1, (s0.1.below hb1 s0.1.lt).whole⟩)
      | (go_at_call 61; refine (schedule_any key hK.out _).mono ?_; rintro e w3 ⟨rfl, hb1⟩; have s3 : Blk w3 w.heap.size (bytesV key) 22 ∧ Blk w3 (w.heap.size + 1) (bytesV Z176) 44 ∧ Below w.heap.size w w3 ∧ w3.rangeAt w.heap.size 0 (bytesV key).toList := ⟨s2.1.below hb1 s2.1.lt, s2.2.1.below hb1 s2.2.1.lt, bnext s2.2.2.1 hb1, (s2.1.below hb1 s2.1.lt).whole⟩))
  obtain ⟨K, hKK⟩ : ∃ K, K = ksL key 160 := ⟨_, rfl⟩
  have hKl := Lib.hid (show K.length = 176 by rw [hKK, ksL_length key hK.out])
  have HKK := Lib.hid hKK
  rw [← hKK]
  have b1 : Blk w3 (w.heap.size + 1) (bytesV (outK K 0)) 44 := by rw [outK_zero]; exact s3.2.1
  have b2 := s3.2.2.1
  clear s0 s2 s3 h0 h1 hB hu22 hi22 hKK hl z1 Hz HW
  go_wp2
  go_loopw [8] (fun t8 wr => ∃ n : Nat, n ≤ 11 ∧ t8 = .int .i64 n ∧ Blk wr (w.heap.size + 1) (bytesV (outK K n)) 44 ∧ Below w.heap.size w wr) (fun t _ => 11 - (intOf t).toNat)
  case atStart => exact ⟨0, by omega, rfl, b1, b2⟩
  case round =>
    clear b1 b2
    obtain ⟨n, hn, rfl, hb, hB⟩ := hrel
    by_cases hlt : n < 11
    · have hix : ∀ w, (Instr.index 57 (.agg (bytesV K)) (.int .i64 n)).run Try.prog w = .ok (.agg (bytesV (rowK K n))) w := fun w => by
        rw [run_index_row Try.underlying57 row56 (bytesV K) .i64 n n rfl hlt w, bytesV_extract, Nat.add_sub_cancel_left]; rfl
      have hrl := rowK_length K hKl.out n hlt
      have hol := outK_length K hKl.out n hn
      go_wp2_with (first
        | ((with_reducible refine wpList_store_blk rfl 56 (.tmp 4) (.tmp 11) rfl wr.heap.size 0 16 (bytesV (rowK K n)) rfl rfl (C := bytesV Z16) (t := 56) ?_ row56 ?_ ?_ (bytesV_one _) ?_); (exact Blk.new' rfl); (rw [bytesV_size, hrl]); (rw [bytesV_size]; decide); intro w4 hb4 ho4; rw [splice_all _ _ (by rw [hrl]; rfl)] at hb4)
        | ((with_reducible refine wpList_load_blk rfl 56 (.tmp 4) rfl wr.heap.size 0 16 rfl hb4 row56 ?_ (bytesV (rowK K n)) ?_ ?_); (rw [bytesV_size, hrl]; exact Nat.le_refl _); (exact bytesV_whole _ _ hrl))
        | ((with_reducible refine wpList_store_blk rfl 22 (.tmp 14) (.tmp 13) rfl (w.heap.size + 1) (n * 16) 16 (bytesV (rowK K n)) rfl rfl ((hb.alloc _).only ho4 (by have := hb.lt; omega)) row22 ?_ ?_ (bytesV_one _) ?_); (rw [bytesV_size, hrl]); (rw [bytesV_size, hol]; omega); intro w5 hb5 ho5; rw [outK_step K hKl.out n hlt] at hb5))
      exact ⟨⟨n + 1, by omega, by go_num, hb5, below_only (below_only (hB.alloc hB.size _) ho4 hB.size) ho5 (by omega)⟩, by simp [intOf]; omega⟩
    · obtain rfl : n = 11 := by omega
      rw [outK_end K hKl.out] at hb
      go_wp2_with (first
        | ((with_reducible refine wpList_load_blk rfl 44 (.tmp 2) rfl (w.heap.size + 1) 0 176 rfl hb row44 ?_ (bytesV K) ?_ ?_); (rw [bytesV_size, hKl.out]; exact Nat.le_refl _); (exact bytesV_whole _ _ hKl.out))
        | ((with_reducible refine wpList_store_blk rfl 44 (.tmp 2) (.tmp 16) rfl (w.heap.size + 1) 0 176 (bytesV K) rfl rfl hb row44 ?_ ?_ (bytesV_one _) ?_); (rw [bytesV_size, hKl.out]); (rw [bytesV_size, hKl.out]; exact Nat.le_refl _); intro w5 hb5 ho5; rw [splice_all _ _ rfl] at hb5))
      refine bodyPost_ret (results_blk rfl _ _ _ (bytesV K) 44 176 rfl hb5 row44 (by rw [bytesV_size, hKl.out])) rfl ?_
      exact ⟨by rw [← HKK.out], below_only hB ho5 (by omega)⟩
end Go.Proofs.Ytdgmahgidmjniaa
