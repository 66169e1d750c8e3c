/-
  The making of a cipher: where it lies.
-/
import Derived.Test.YtdgmahgidmjniaaAesE5
namespace Go.Proofs.Ytdgmahgidmjniaa
open Go.RowKit
attribute [-go_sem] Instr.build
set_option maxRecDepth 100000 in
set_option maxHeartbeats 4000000 in
theorem new_at (key : List UInt8) (hk : key.length = 16) (w : World) :
    Calls Try.prog 39 #[.agg (bytesV key)] w fun e w' => ∃ b, e = .returned (.pointer (some ⟨b, 0, none⟩)) ∧ Blk w' b (bytesV (cip (ksL key 160))) 59 ∧ Below w.heap.size w w' ∧ w.heap.size ≤ b := by
  have z1 : ∀ w, (zeroValue 55).run Try.prog w = .ok (.agg (bytesV Z512)) w := (zero_of_info zero55).1
  obtain ⟨K, hK⟩ : ∃ K, K = ksL key 160 := ⟨_, rfl⟩
  have hKl := Lib.hid (show K.length = 176 by rw [hK, ksL_length key hk])
  obtain ⟨S, hS⟩ : ∃ S, S = stF 255 := ⟨_, rfl⟩
  have hSl := Lib.hid (show S.length = 512 by rw [hS, stF_length])
  have HS := Lib.hid hS
  have HK := Lib.hid hK
  clear hS hK
  have hbd : ∀ w, (Instr.build 59 #[(0, .agg (bytesV S)), (1, .agg (bytesV K))]).run Try.prog w = .ok (.agg (bytesV (S ++ K))) w := fun w => build59 S K hSl.out hKl.out w
  have b0 : Blk (w.alloc (.cells (bytesV key) 22)) w.heap.size (bytesV key) 22 := Blk.new' rfl
  have hB : Below w.heap.size w (w.alloc (.cells (bytesV key) 22)) := (Below.refl _ _).alloc (Nat.le_refl _) _
  go_enter Try.func39, Try.ntmps39
  go_wp2_with (first
    | (go_at_call 59; refine (subst_any _).mono ?_; rintro e w2 ⟨rfl, hb1⟩; rw [← HS.out]; replace b0 := b0.below hb1 b0.lt; replace hB := bnext hB hb1; have l0 := b0.lt; clear hb1)
    | ((with_reducible refine wpList_store_blk rfl 55 (.tmp 3) (.tmp 4) rfl w2.heap.size 0 512 (bytesV S) rfl rfl (C := bytesV Z512) (t := 55) ?_ row55 ?_ ?_ (bytesV_one _) ?_); (exact Blk.new' rfl); (rw [bytesV_size, hSl.out]); (rw [bytesV_size, Z512, List.length_replicate]; decide); intro w3 b1 ho3; rw [splice_all _ _ (by rw [hSl.out, Z512, List.length_replicate])] at b1; replace b0 := (b0.alloc (.cells (bytesV Z512) 55)).only ho3 (by omega); replace hB := below_only (hB.alloc hB.size (.cells (bytesV Z512) 55)) ho3 hB.size; clear ho3))
  obtain ⟨Sw, hSw⟩ : ∃ Sw : World → Prop, Sw = fun w' => Blk w' w2.heap.size (bytesV S) 55 ∧ Blk w' w.heap.size (bytesV key) 22 ∧ Below w.heap.size w w' := ⟨_, rfl⟩
  have s0 : Sw w3.drew := by rw [hSw]; exact ⟨b1.drew, b0.drew, hB.drew⟩
  have a1 : ∀ w', Sw w' → Blk w' w2.heap.size (bytesV S) 55 := fun w' h => by rw [hSw] at h; exact h.1
  have a2 : ∀ w', Sw w' → Blk w' w.heap.size (bytesV key) 22 := fun w' h => by rw [hSw] at h; exact h.2.1
  have a3 : ∀ w', Sw w' → Below w.heap.size w w' := fun w' h => by rw [hSw] at h; exact h.2.2
  have a4 : ∀ w' w'', Sw w' → Below w'.heap.size w' w'' → Sw w'' := fun w' w'' h hb => by rw [hSw] at h ⊢; exact ⟨h.1.below hb h.1.lt, h.2.1.below hb h.2.1.lt, bnext h.2.2 hb⟩
  clear hSw b0 b1 hB
  refine wp_region_held_drew (S := Sw) (by kernel_rfl) s0 (fun hHeld => ?_)
  refine wpAnyH_take (i := 0) rfl (by kernel_rfl) (by kernel_rfl) (by kernel_rfl) (fun _ _ _ h => h) (yieldsIf_load_blk rfl _ _ rfl w2.heap.size 512 (bytesV S) 55 rfl a1 row55 (by rw [bytesV_size, hSl.out])) (by assumption) ?_
  refine wpAnyH_take (i := 1) rfl (by kernel_rfl) (by kernel_rfl) (by kernel_rfl) (fun _ _ _ h => h) (yieldsIf_load_blk rfl _ _ rfl w2.heap.size 512 (bytesV S) 55 rfl a1 row55 (by rw [bytesV_size, hSl.out])) (by assumption) ?_
  refine wpAnyH_take (i := 2) rfl (by kernel_rfl) (by kernel_rfl) (by kernel_rfl) (fun _ _ _ h => h) (yieldsIf_load_blk rfl _ _ rfl w.heap.size 16 (bytesV key) 22 rfl a2 row22 (by rw [bytesV_size, hk])) (by assumption) ?_
  refine wpAnyH_one 3 rfl (by kernel_rfl) (fun K hK' => ?_)
  go_simp
  (go_at_call 61; rw [HS.out]; refine (schedule_any key hk _).mono ?_; rintro e w4 ⟨rfl, hb1⟩; rw [← HK.out, ← HS.out]; have s4 := a4 _ _ s0 hb1; clear hb1)
  go_wp2
  refine hK'.out _ _ (by assumption) ?_; clear hK' K; try simp only [Act.put, List.setIfInBounds_toArray, List.set_cons_zero, List.set_cons_succ]
  refine wpAnyH_one 4 rfl (by kernel_rfl) (fun K hK' => ?_)
  go_simp
  refine hK'.out _ _ (by assumption) ?_; clear hK' K; try simp only [Act.put, List.setIfInBounds_toArray, List.set_cons_zero, List.set_cons_succ]
  have l4 : Sw (w4.alloc (.cells (bytesV (S ++ K)) 59)) := a4 _ _ s4 ((Below.refl _ _).alloc (Nat.le_refl _) _)
  refine wpAnyH_one 5 rfl (by kernel_rfl) (fun K hK' => ?_)
  go_simp
  refine hK'.out _ _ (by assumption) ?_; clear hK' K; try simp only [Act.put, List.setIfInBounds_toArray, List.set_cons_zero, List.set_cons_succ]
  refine wpAnyH_one 6 rfl (by kernel_rfl) (fun K hK' => ?_)
  go_simp
  refine hK'.out _ _ (by assumption) ?_; clear hK' K; try simp only [Act.put, List.setIfInBounds_toArray, List.set_cons_zero, List.set_cons_succ]
  refine wpAnyH_done (by kernel_rfl) ?_ _
  go_wp2
  go_ret
  refine ⟨_, rfl, ?_, a3 _ l4, (a3 _ s4).size⟩
  rw [cip, ← HS.out, ← HK.out]
  exact Blk.new' rfl
end Go.Proofs.Ytdgmahgidmjniaa
