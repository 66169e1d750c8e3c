/-
  The statements AesApart and AesBack, the walks.
-/
import Derived.Test.YtdgmahgidmjniaaAesE8
import Derived.Test.YtdgmahgidmjniaaHeld
import Derived.Test.YtdgmahgidmjniaaLaw1
namespace Go.Proofs.Ytdgmahgidmjniaa
open Go.RowKit

theorem guard22' : Try.prog.eqGuardType Try.prog.depth 22 = false := by kernel_rfl
theorem run_eql22 (l m : List UInt8) (hl : l.length = 16) (hm : m.length = 16) (w : World) : (binOp .eql 22 (.agg (bytesV l)) (.agg (bytesV m))).run Try.prog w = .ok (.bool (decide (l = m))) w := run_eql_arr arr22 l m hl hm w

set_option maxRecDepth 100000 in
set_option maxHeartbeats 8000000 in
theorem walk_AesApart (key : List UInt8) (hk : key.length = 16) (a : List UInt8) (ha : a.length = 16) (b : List UInt8) (hb : b.length = 16) (w : World) :
    Calls Try.prog 9 #[.agg (bytesV key), .agg (bytesV a), .agg (bytesV b)] w fun e w' => e = .returned (.bool true) ∧ Below w.heap.size w w' := by
  obtain ⟨K, hK⟩ : ∃ K, K = ksL key 160 := ⟨_, rfl⟩
  have hKl := Lib.hid (show K.length = 176 by rw [hK, ksL_length key hk])
  obtain ⟨X, hX⟩ : ∃ X, X = encR K a 10 := ⟨_, rfl⟩
  obtain ⟨Y, hY⟩ : ∃ Y, Y = encR K b 10 := ⟨_, rfl⟩
  have e1 : ∀ w, (binOp .eql 22 (.agg (bytesV X)) (.agg (bytesV Y))).run Try.prog w = .ok (.bool (decide (a = b))) w := fun w => by
    rw [run_eql22 _ _ (by rw [hX, encR_length]) (by rw [hY, encR_length])]
    have : (X = Y) = (a = b) := by rw [hX, hY]; exact propext (encF_inj K a b ha hb)
    simp only [this]
  have hg := guard22'
  have HK := Lib.hid hK
  have HX := Lib.hid hX
  have HY := Lib.hid hY
  clear hK hX hY
  obtain ⟨W, hW⟩ : ∃ W, W = ((w.alloc (.cells (bytesV key) 22)).alloc (.cells (bytesV a) 22)).alloc (.cells (bytesV b) 22) := ⟨_, rfl⟩
  have b0 : Blk W w.heap.size (bytesV key) 22 := by rw [hW]; exact ((Blk.new' rfl).alloc _).alloc _
  have b1 : Blk W (w.heap.size + 1) (bytesV a) 22 := by rw [hW]; exact (Blk.new' (by simp)).alloc _
  have b2 : Blk W (w.heap.size + 1 + 1) (bytesV b) 22 := by rw [hW]; exact Blk.new' (by simp)
  have hB : Below w.heap.size w W := by rw [hW]; exact (((Below.refl _ _).alloc (Nat.le_refl _) _).alloc (by simp) _).alloc (by simp; omega) _
  have HW := Lib.hid hW
  clear hW
  go_enter Try.func9, Try.ntmps9
  go_wp2_with (first
    | ((with_reducible refine wpList_load_blk rfl 22 (.tmp 3) rfl w.heap.size 0 16 rfl (HW.out ▸ b0) row22 ?_ (bytesV key) ?_ ?_); (rw [bytesV_size, hk]; exact Nat.le_refl _); (exact bytesV_whole _ _ hk))
    | (go_at_call 39; rw [← HW.out]; refine (new_any key hk _).mono ?_; rintro e w2 ⟨bC, rfl, hC, hb1⟩; rw [← HK.out] at hC; replace b1 := b1.below hb1 b1.lt; replace b2 := b2.below hb1 b2.lt; replace hB := bnext hB hb1; clear hb1 b0))
  obtain ⟨Sw, hSw⟩ : ∃ Sw : World → Prop, Sw = fun w' => Blk w' (w.heap.size + 1) (bytesV a) 22 ∧ Blk w' (w.heap.size + 1 + 1) (bytesV b) 22 ∧ Blk w' bC (bytesV (cip K)) 59 ∧ Below w.heap.size w w' := ⟨_, rfl⟩
  have s0 : Sw w2.drew := by rw [hSw]; exact ⟨b1.drew, b2.drew, hC.drew, hB.drew⟩
  have a1 : ∀ w', Sw w' → Blk w' (w.heap.size + 1) (bytesV a) 22 := fun w' h => by rw [hSw] at h; exact h.1
  have a2 : ∀ w', Sw w' → Blk w' (w.heap.size + 1 + 1) (bytesV b) 22 := fun w' h => by rw [hSw] at h; exact h.2.1
  have a3 : ∀ w', Sw w' → Recv w' (.pointer (some ⟨bC, 0, none⟩)) K := fun w' h => by rw [hSw] at h; exact .inl ⟨bC, rfl, h.2.2.1⟩
  have a5 : ∀ w', Sw w' → Below w.heap.size w w' := fun w' h => by rw [hSw] at h; exact h.2.2.2
  have a4 : ∀ w' w'', Sw w' → Below w'.heap.size w' w'' → Sw w'' := fun w' w'' h hb => by rw [hSw] at h ⊢; exact ⟨h.1.below hb h.1.lt, h.2.1.below hb h.2.1.lt, h.2.2.1.below hb h.2.2.1.lt, bnext h.2.2.2 hb⟩
  clear hSw b1 b2 hC hB
  refine wp_region_held_drew (S := Sw) (by kernel_rfl) s0 (fun hHeld => ?_)
  refine wpAnyH_one 0 rfl (by kernel_rfl) (fun K' hK' => ?_)
  go_simp
  refine hK'.out _ _ (by assumption) ?_; clear hK' K'; try simp only [Act.put, List.setIfInBounds_toArray, List.set_cons_zero, List.set_cons_succ]
  refine wpAnyH_one 1 rfl (by kernel_rfl) (fun K' hK' => ?_)
  go_simp
  refine hK'.out _ _ (by assumption) ?_; clear hK' K'; try simp only [Act.put, List.setIfInBounds_toArray, List.set_cons_zero, List.set_cons_succ]
  refine wpAnyH_one 2 rfl (by kernel_rfl) (fun K' hK' => ?_)
  go_simp
  refine hK'.out _ _ (by assumption) ?_; clear hK' K'; try simp only [Act.put, List.setIfInBounds_toArray, List.set_cons_zero, List.set_cons_succ]
  refine wpAnyH_take (i := 3) rfl (by kernel_rfl) (by kernel_rfl) (by kernel_rfl) (fun _ _ _ h => h) (yieldsIf_move rfl _ rfl (.pointer (some ⟨bC, 0, none⟩)) rfl) (by assumption) ?_
  refine wpAnyH_take (i := 4) rfl (by kernel_rfl) (by kernel_rfl) (by kernel_rfl) (fun _ _ _ h => h) (yieldsIf_load_blk rfl _ _ rfl (w.heap.size + 1) 16 (bytesV a) 22 rfl a1 row22 (by rw [bytesV_size, ha])) (by assumption) ?_
  refine wpAnyH_take (i := 6) rfl (by kernel_rfl) (by kernel_rfl) (by kernel_rfl) (fun _ _ _ h => h) (yieldsIf_move rfl _ rfl (.pointer (some ⟨bC, 0, none⟩)) rfl) (by assumption) ?_
  refine wpAnyH_take (i := 7) rfl (by kernel_rfl) (by kernel_rfl) (by kernel_rfl) (fun _ _ _ h => h) (yieldsIf_load_blk rfl _ _ rfl (w.heap.size + 1 + 1) 16 (bytesV b) 22 rfl a2 row22 (by rw [bytesV_size, hb])) (by assumption) ?_
  refine wpAnyH_take (i := 10) rfl (by kernel_rfl) (by kernel_rfl) (by kernel_rfl) (fun _ _ _ h => h) (yieldsIf_load_blk rfl _ _ rfl (w.heap.size + 1) 16 (bytesV a) 22 rfl a1 row22 (by rw [bytesV_size, ha])) (by assumption) ?_
  refine wpAnyH_take (i := 11) rfl (by kernel_rfl) (by kernel_rfl) (by kernel_rfl) (fun _ _ _ h => h) (yieldsIf_load_blk rfl _ _ rfl (w.heap.size + 1 + 1) 16 (bytesV b) 22 rfl a2 row22 (by rw [bytesV_size, hb])) (by assumption) ?_
  refine wpAnyH_take (i := 12) rfl (by kernel_rfl) (by kernel_rfl) (by kernel_rfl) (fun _ _ _ h => h) (yieldsIf_eql rfl _ _ _ _ rfl arr22 guard22' a b rfl rfl ha hb) (by assumption) ?_
  refine wpAnyH_one 5 rfl (by kernel_rfl) (fun K' hK' => ?_)
  go_simp
  (go_at_call 40; refine (encrypt_any K hKl.out a ha _ _ (a3 _ s0)).mono ?_; rintro e w5 ⟨rfl, hb1⟩; rw [← HX.out]; have s5 := a4 _ _ s0 hb1; clear hb1)
  go_wp2
  refine hK'.out _ _ (by assumption) ?_; clear hK' K'; try simp only [Act.put, List.setIfInBounds_toArray, List.set_cons_zero, List.set_cons_succ]
  refine wpAnyH_one 8 rfl (by kernel_rfl) (fun K' hK' => ?_)
  go_simp
  (go_at_call 40; refine (encrypt_any K hKl.out b hb _ _ (a3 _ s5)).mono ?_; rintro e w8 ⟨rfl, hb1⟩; rw [← HY.out]; have s8 := a4 _ _ s5 hb1; clear hb1)
  go_wp2
  refine hK'.out _ _ (by assumption) ?_; clear hK' K'; try simp only [Act.put, List.setIfInBounds_toArray, List.set_cons_zero, List.set_cons_succ]
  refine wpAnyH_one 9 rfl (by kernel_rfl) (fun K' hK' => ?_)
  go_simp
  refine hK'.out _ _ (by assumption) ?_; clear hK' K'; try simp only [Act.put, List.setIfInBounds_toArray, List.set_cons_zero, List.set_cons_succ]
  refine wpAnyH_one 13 rfl (by kernel_rfl) (fun K' hK' => ?_)
  go_simp
  refine hK'.out _ _ (by assumption) ?_; clear hK' K'; try simp only [Act.put, List.setIfInBounds_toArray, List.set_cons_zero, List.set_cons_succ]
  refine wpAnyH_one 14 rfl (by kernel_rfl) (fun K' hK' => ?_)
  go_simp
  refine hK'.out _ _ (by assumption) ?_; clear hK' K'; try simp only [Act.put, List.setIfInBounds_toArray, List.set_cons_zero, List.set_cons_succ]
  refine wpAnyH_one 15 rfl (by kernel_rfl) (fun K' hK' => ?_)
  go_simp
  refine hK'.out _ _ (by assumption) ?_; clear hK' K'; try simp only [Act.put, List.setIfInBounds_toArray, List.set_cons_zero, List.set_cons_succ]
  refine wpAnyH_one 16 rfl (by kernel_rfl) (fun K' hK' => ?_)
  go_simp
  (go_at_call 33; refine (known39 _).mono ?_; rintro e w9 ⟨rfl, hb1⟩; have s9 := a4 _ _ s8 hb1; clear hb1)
  go_wp2
  refine hK'.out _ _ (by assumption) ?_; clear hK' K'; try simp only [Act.put, List.setIfInBounds_toArray, List.set_cons_zero, List.set_cons_succ]
  refine wpAnyH_one 17 rfl (by kernel_rfl) (fun K' hK' => ?_)
  go_simp
  refine hK'.out _ _ (by assumption) ?_; clear hK' K'; try simp only [Act.put, List.setIfInBounds_toArray, List.set_cons_zero, List.set_cons_succ]
  refine wpAnyH_one 18 rfl (by kernel_rfl) (fun K' hK' => ?_)
  go_simp
  refine hK'.out _ _ (by assumption) ?_; clear hK' K'; try simp only [Act.put, List.setIfInBounds_toArray, List.set_cons_zero, List.set_cons_succ]
  refine wpAnyH_done (by kernel_rfl) ?_ _
  go_wp2
  go_ret
  exact ⟨rfl, a5 _ s9⟩
end Go.Proofs.Ytdgmahgidmjniaa
