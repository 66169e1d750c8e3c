/-
  The statement AesKeys, the walk.
-/
import Derived.Test.YtdgmahgidmjniaaAesQ
import Derived.Test.YtdgmahgidmjniaaLaw1
import Derived.Test.YtdgmahgidmjniaaEq
import Derived.Test.YtdgmahgidmjniaaOpen
import Derived.Test.YtdgmahgidmjniaaTail
namespace Go.Proofs.Ytdgmahgidmjniaa
open Go.RowKit

theorem arr22 : ArrTy Try.prog 22 16 := ⟨⟨5, Try.underlying22, Try.underlying5, by kernel_rfl⟩, by kernel_rfl⟩
theorem arr56 : ArrTy Try.prog 56 16 := ⟨⟨5, Try.underlying56, Try.underlying5, by kernel_rfl⟩, by kernel_rfl⟩

set_option maxRecDepth 100000 in
set_option maxHeartbeats 4000000 in
theorem walk_AesKeys (key : List UInt8) (hk : key.length = 16) (w : World) :
    Calls Try.prog 7 #[.agg (bytesV key)] w fun e w' => e = .returned (.bool true) ∧ Below w.heap.size w w' := by
  have hK := Lib.hid hk
  have hl : ∀ w', Blk w' w.heap.size (bytesV key) 22 → (Instr.loadAt 22 (.pointer (some ⟨w.heap.size, 0, none⟩))).run Try.prog w' = .ok (.agg (bytesV key)) w' := fun w' h =>
    run_loadAt_blk h row22 (by rw [bytesV_size, hK.out])
  have heq : ∀ w', (binOp .eql 44 (.agg (bytesV (ksL key 160))) (.agg (bytesV (ksL key 160)))).run Try.prog w' = .ok (.bool true) w' := fun w' => by
    rw [run_eql_rows Try.underlying44 arr22 _ _ (ksL_length key hk 160) (ksL_length key hk 160)]
    rw [decide_self]
  have hgd : Try.prog.eqGuardType Try.prog.depth 44 = false := by kernel_rfl
  clear hk
  obtain ⟨W, hW⟩ : ∃ W, W = w.alloc (.cells (bytesV key) 22) := ⟨_, rfl⟩
  have h0 : Blk W w.heap.size (bytesV key) 22 := by rw [hW]; exact Blk.new' rfl
  have hB : Below w.heap.size w W := by rw [hW]; exact (Below.refl _ _).alloc (Nat.le_refl _) _
  have HW := Lib.hid hW
  clear hW
  go_enter Try.func7, Try.ntmps7
  go_wp2_with fail
  rw [← HW.out]
  have s0 : Blk W.drew w.heap.size (bytesV key) 22 ∧ Below w.heap.size w W.drew := ⟨h0.drew, hB.drew⟩
  refine wp_region_held_drew (S := fun w' => Blk w' w.heap.size (bytesV key) 22 ∧ Below w.heap.size w w') (by kernel_rfl) s0 (fun hHeld => ?_)
  refine wpAnyH_take (i := 0) rfl (by kernel_rfl) (by kernel_rfl) (by kernel_rfl) (fun _ _ _ h => h) (yieldsIf_load_blk rfl _ _ rfl w.heap.size 16 (bytesV key) 22 rfl (fun w h => h.1) row22 (by rw [bytesV_size, hK.out])) (by assumption) ?_
  refine wpAnyH_take (i := 2) rfl (by kernel_rfl) (by kernel_rfl) (by kernel_rfl) (fun _ _ _ h => h) (yieldsIf_load_blk rfl _ _ rfl w.heap.size 16 (bytesV key) 22 rfl (fun w h => h.1) row22 (by rw [bytesV_size, hK.out])) (by assumption) ?_
  refine wpAnyH_one 1 rfl (by kernel_rfl) (fun K hK' => ?_)
  go_simp
  (go_at_call 37; refine (keys_any key hK.out _).mono ?_; rintro e w2 ⟨rfl, hb1⟩; have s2 : Blk w2 w.heap.size (bytesV key) 22 ∧ Below w.heap.size w w2 := ⟨s0.1.below hb1 s0.1.lt, bnext s0.2 hb1⟩; clear hb1)
  go_wp2
  refine hK'.out _ _ (by assumption) ?_; clear hK' K; try simp only [Act.put, List.setIfInBounds_toArray, List.set_cons_zero, List.set_cons_succ]
  refine wpAnyH_one 3 rfl (by kernel_rfl) (fun K hK' => ?_)
  go_simp
  (go_at_call 38; refine (refkeys_any key hK.out _).mono ?_; rintro e w3 ⟨rfl, hb1⟩; have s3 : Blk w3 w.heap.size (bytesV key) 22 ∧ Below w.heap.size w w3 := ⟨s2.1.below hb1 s2.1.lt, bnext s2.2 hb1⟩; clear hb1)
  go_wp2
  refine hK'.out _ _ (by assumption) ?_; clear hK' K; try simp only [Act.put, List.setIfInBounds_toArray, List.set_cons_zero, List.set_cons_succ]
  refine wpAnyH_one 4 rfl (by kernel_rfl) (fun K hK' => ?_)
  go_simp
  refine hK'.out _ _ (by assumption) ?_; clear hK' K; try simp only [Act.put, List.setIfInBounds_toArray, List.set_cons_zero, List.set_cons_succ]
  refine wpAnyH_one 5 rfl (by kernel_rfl) (fun K hK' => ?_)
  go_simp
  refine hK'.out _ _ (by assumption) ?_; clear hK' K; try simp only [Act.put, List.setIfInBounds_toArray, List.set_cons_zero, List.set_cons_succ]
  refine wpAnyH_one 6 rfl (by kernel_rfl) (fun K hK' => ?_)
  go_simp
  (go_at_call 33; refine (known39 _).mono ?_; rintro e w4 ⟨rfl, hb1⟩; have s4 : Blk w4 w.heap.size (bytesV key) 22 ∧ Below w.heap.size w w4 := ⟨s3.1.below hb1 s3.1.lt, bnext s3.2 hb1⟩; clear hb1)
  go_wp2
  refine hK'.out _ _ (by assumption) ?_; clear hK' K; try simp only [Act.put, List.setIfInBounds_toArray, List.set_cons_zero, List.set_cons_succ]
  refine wpAnyH_one 7 rfl (by kernel_rfl) (fun K hK' => ?_)
  go_simp
  refine hK'.out _ _ (by assumption) ?_; clear hK' K; try simp only [Act.put, List.setIfInBounds_toArray, List.set_cons_zero, List.set_cons_succ]
  refine wpAnyH_one 8 rfl (by kernel_rfl) (fun K hK' => ?_)
  go_simp
  refine hK'.out _ _ (by assumption) ?_; clear hK' K; try simp only [Act.put, List.setIfInBounds_toArray, List.set_cons_zero, List.set_cons_succ]
  refine wpAnyH_done (by kernel_rfl) ?_ _
  go_wp2
  go_ret
  exact ⟨rfl, s4.2⟩
end Go.Proofs.Ytdgmahgidmjniaa
