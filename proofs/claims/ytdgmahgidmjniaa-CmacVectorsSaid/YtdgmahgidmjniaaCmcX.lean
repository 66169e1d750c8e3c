/-
  CMAC: the law on the published vectors.
-/
import Derived.Test.YtdgmahgidmjniaaCmcU
import Derived.Test.YtdgmahgidmjniaaCmcI
set_option linter.unusedSimpArgs false
set_option linter.unusedVariables false
namespace Go.Proofs.Ytdgmahgidmjniaa
open Go.RowKit
attribute [-go_sem] Instr.build

theorem buildM (w : World) : (Instr.build 22 #[(0, .int .u8 43), (1, .int .u8 126), (2, .int .u8 21), (3, .int .u8 22), (4, .int .u8 40), (5, .int .u8 174), (6, .int .u8 210), (7, .int .u8 166), (8, .int .u8 171), (9, .int .u8 247), (10, .int .u8 21), (11, .int .u8 136), (12, .int .u8 9), (13, .int .u8 207), (14, .int .u8 79), (15, .int .u8 60)]).run Try.prog w = .ok (.agg (bytesV keyM)) w := run_build w 22 _ _ (by kernel_rfl)
theorem buildP (w : World) : (Instr.build 22 #[(0, .int .u8 187), (1, .int .u8 29), (2, .int .u8 105), (3, .int .u8 41), (4, .int .u8 233), (5, .int .u8 89), (6, .int .u8 55), (7, .int .u8 40), (8, .int .u8 127), (9, .int .u8 163), (10, .int .u8 125), (11, .int .u8 18), (12, .int .u8 155), (13, .int .u8 117), (14, .int .u8 103), (15, .int .u8 70)]).run Try.prog w = .ok (.agg (bytesV mP_10)) w := run_build w 22 _ _ (by kernel_rfl)
theorem buildQ (w : World) : (Instr.build 22 #[(0, .int .u8 7), (1, .int .u8 10), (2, .int .u8 22), (3, .int .u8 180), (4, .int .u8 107), (5, .int .u8 77), (6, .int .u8 65), (7, .int .u8 68), (8, .int .u8 247), (9, .int .u8 155), (10, .int .u8 221), (11, .int .u8 157), (12, .int .u8 208), (13, .int .u8 74), (14, .int .u8 40), (15, .int .u8 124)]).run Try.prog w = .ok (.agg (bytesV mQ_10)) w := run_build w 22 _ _ (by kernel_rfl)
set_option maxRecDepth 100000 in
set_option maxHeartbeats 8000000 in
theorem walk_CmacVectors (key : List UInt8) (hk : key.length = 16) (w : World) :
    Calls Try.prog 23 #[.agg (bytesV key)] w fun e w' => e = .returned (.bool true) ∧ Below w.heap.size w w' := by
  have z2 : ∀ w, (zeroValue 22).run Try.prog w = .ok (.agg (bytesV Z16)) w := (zero_of_info zero22).1
  have bM := buildM
  have bP := buildP
  have bQ := buildQ
  obtain ⟨KM, hKM⟩ : ∃ K, K = keyM := ⟨_, rfl⟩
  obtain ⟨MM, hMM⟩ : ∃ K, K = msgM := ⟨_, rfl⟩
  have lKM := Lib.hid (show KM.length = 16 by rw [hKM]; rfl)
  have HMM := Lib.hid hMM
  have hsum1 := fun w => cmacsum_ok KM lKM.out (.slice none 0 0) [] w (bsl_nil w) (by decide)
  have hsum2 := fun v w h => cmacsum_ok KM lKM.out v MM w h (by rw [hMM]; decide)
  have hsum3 := fun w => cmacsum_ok key hk (.slice none 0 0) [] w (bsl_nil w) (by decide)
  have hsub := fun w => subkeys_any key hk w
  obtain ⟨C1, hC1⟩ : ∃ C, C = cmacL KM [] := ⟨_, rfl⟩
  obtain ⟨C2, hC2⟩ : ∃ C, C = cmacL KM MM := ⟨_, rfl⟩
  obtain ⟨C3, hC3⟩ : ∃ C, C = cmacL key [] := ⟨_, rfl⟩
  have l1 := Lib.hid (show C1.length = 16 by rw [hC1, cmacL_length])
  have l2 := Lib.hid (show C2.length = 16 by rw [hC2, cmacL_length])
  have l3 := Lib.hid (show C3.length = 16 by rw [hC3, cmacL_length])
  rw [← hC1] at hsum1
  rw [← hC2] at hsum2
  rw [← hC3] at hsum3
  rw [show mP_10 = C1 by rw [hC1, hKM, macM_nil]] at bP
  rw [show mQ_10 = C2 by rw [hC2, hKM, hMM, macM_msg]] at bQ
  rw [← hKM] at bM
  obtain ⟨S1, hS1⟩ : ∃ C, C = sub1 key := ⟨_, rfl⟩
  obtain ⟨S2, hS2⟩ : ∃ C, C = sub2 key := ⟨_, rfl⟩
  have lS1 := Lib.hid (show S1.length = 16 by rw [hS1, sub1_length])
  have lS2 := Lib.hid (show S2.length = 16 by rw [hS2, sub2_length])
  rw [← hS1, ← hS2] at hsub
  obtain ⟨S9, hS9⟩ : ∃ C, C = S2.set 0 (x8 (gd S2 0) 0x80) := ⟨_, rfl⟩
  have lS9 := Lib.hid (show S9.length = 16 by rw [hS9, List.length_set]; exact lS2.out)
  have HS9 := Lib.hid hS9
  have hC39 : C3 = encR (ksL key 160) S9 10 := by rw [hC3, mac_nil, hS9, hS2]
  obtain ⟨K, hK⟩ : ∃ K, K = ksL key 160 := ⟨_, rfl⟩
  have lK := Lib.hid (show K.length = 176 by rw [hK, ksL_length key hk])
  have hnew := fun w => new_any key hk w
  rw [← hK] at hnew hC39
  have henc := Lib.hid (fun (v : World) (b : Nat) (h : Blk v b (bytesV (cip K)) 59) => encrypt_any K lK.out S9 lS9.out (.pointer (some ⟨b, 0, none⟩)) v (.inl ⟨b, rfl, h⟩))
  rw [← hC39] at henc
  replace henc := henc.out
  clear hKM hMM hC1 hC2 hC3 hS1 hS2 hS9 hC39 hK
  have e1 : ∀ w, (binOp .eql 22 (.agg (bytesV C1)) (.agg (bytesV C1))).run Try.prog w = .ok (.bool true) w := fun w => by rw [run_eql22 _ _ l1.out l1.out, decide_self]
  have e2 : ∀ w, (binOp .eql 22 (.agg (bytesV C2)) (.agg (bytesV C2))).run Try.prog w = .ok (.bool true) w := fun w => by rw [run_eql22 _ _ l2.out l2.out, decide_self]
  have e3 : ∀ w, (binOp .eql 22 (.agg (bytesV C3)) (.agg (bytesV C3))).run Try.prog w = .ok (.bool true) w := fun w => by rw [run_eql22 _ _ l3.out l3.out, decide_self]
  have hg := guard22'
  have hx8 : bits .xor .u8 ((gd S2 0).toNat : Int) 128 = ((x8 (gd S2 0) 0x80).toNat : Int) := bits_x8 _ 0x80
  have b0 : Blk (w.alloc (.cells (bytesV key) 22)) w.heap.size (bytesV key) 22 := Blk.new' rfl
  have hB : Below w.heap.size w (w.alloc (.cells (bytesV key) 22)) := (Below.refl _ _).alloc (Nat.le_refl _) _
  go_enter Try.func23, Try.ntmps23
  go_wp2_with (first
    | ((with_reducible refine wpList_store_blk rfl 22 (.tmp 3) (.tmp 12) rfl (w.heap.size + 1) 0 16 (bytesV KM) rfl rfl (C := bytesV Z16) (t := 22) ?_ row22 ?_ ?_ (bytesV_one _) ?_); (exact Blk.new' (by simp)); (rw [bytesV_size, lKM.out]); (rw [bytesV_size]; decide); intro w3 b3 ho2; rw [splice_all _ _ (by rw [lKM.out]; rfl)] at b3; have hb2 := below_only ((Below.refl (w.heap.size + 1) (w.alloc (.cells (bytesV key) 22))).alloc (by simp) (.cells (bytesV Z16) 22)) ho2 (Nat.le_refl _); replace b0 := b0.below hb2 (Nat.lt_succ_self _); replace hB := hB.trans (hb2.mono (Nat.le_succ _)); clear hb2 ho2)
    | ((with_reducible refine wpList_load_blk rfl 22 (.tmp 3) rfl (w.heap.size + 1) 0 16 rfl b3 row22 ?_ (bytesV KM) ?_ ?_); (rw [bytesV_size, lKM.out]; exact Nat.le_refl _); (exact bytesV_whole _ _ lKM.out))
    | (go_at_call 52; (with_reducible refine (hsum1 _).mono ?_); rintro e w4 ⟨rfl, hb1⟩; replace b0 := b0.below hb1 b0.lt; replace b3 := b3.below hb1 b3.lt; replace hB := bnext hB hb1; clear hb1)
    | ((with_reducible refine wpList_store_blk rfl 22 (.tmp 4) (.tmp 16) rfl w4.heap.size 0 16 (bytesV C1) rfl rfl (C := bytesV Z16) (t := 22) ?_ row22 ?_ ?_ (bytesV_one _) ?_); (exact Blk.new' rfl); (rw [bytesV_size, l1.out]); (rw [bytesV_size]; decide); intro w5 c4 ho2; rw [splice_all _ _ (by rw [l1.out]; rfl)] at c4; have hb2 := below_only ((Below.refl w4.heap.size w4).alloc (Nat.le_refl _) (.cells (bytesV Z16) 22)) ho2 (Nat.le_refl _); replace b0 := b0.below hb2 b0.lt; replace b3 := b3.below hb2 b3.lt; replace hB := bnext hB hb2; clear hb2 ho2)
    | (go_at_call 52; (with_reducible refine (hsum2 _ _ ?_).mono ?_); (exact bsl_lit MM (Blk.new' rfl) (by rw [HMM.out]; rfl) (by rw [HMM.out]; rfl) (by rw [HMM.out]; decide)); rintro e w6 ⟨rfl, hb1⟩; replace hb1 := ((Below.refl w5.heap.size w5).alloc (Nat.le_refl _) _).trans (hb1.mono (by simp)); replace b0 := b0.below hb1 b0.lt; replace b3 := b3.below hb1 b3.lt; replace c4 := c4.below hb1 c4.lt; replace hB := bnext hB hb1; clear hb1)
    | ((with_reducible refine wpList_store_blk rfl 22 (.tmp 6) (.tmp 22) rfl w6.heap.size 0 16 (bytesV C2) rfl rfl (C := bytesV Z16) (t := 22) ?_ row22 ?_ ?_ (bytesV_one _) ?_); (exact Blk.new' rfl); (rw [bytesV_size, l2.out]); (rw [bytesV_size]; decide); intro w7 c6 ho2; rw [splice_all _ _ (by rw [l2.out]; rfl)] at c6; have hb2 := below_only ((Below.refl w6.heap.size w6).alloc (Nat.le_refl _) (.cells (bytesV Z16) 22)) ho2 (Nat.le_refl _); replace b0 := b0.below hb2 b0.lt; replace b3 := b3.below hb2 b3.lt; replace c4 := c4.below hb2 c4.lt; replace hB := bnext hB hb2; clear hb2 ho2)
    | (obtain ⟨X5, hX5⟩ : ∃ X5, X5 = w10.setCell ⟨w8.heap.size + 1, 0, none⟩ (.int .u8 ((x8 (gd S2 0) 0x80).toNat : Int)) := ⟨_, rfl⟩; rw [← hX5]; replace b0 : Blk X5 w.heap.size (bytesV key) 22 := (by rw [hX5]; exact b0.set_other (by simp; omega) _); replace c4 : Blk X5 w4.heap.size (bytesV C1) 22 := (by rw [hX5]; exact c4.set_other (by simp; omega) _); replace c6 : Blk X5 w6.heap.size (bytesV C2) 22 := (by rw [hX5]; exact c6.set_other (by simp; omega) _); replace c9 : Blk X5 (w8.heap.size + 1) (bytesV S9) 22 := (by rw [hX5, HS9.out, ← bytesV_set]; exact c9.set 0 _); replace hB : Below w.heap.size w X5 := (by rw [hX5]; exact hB.setCell (p := ⟨w8.heap.size + 1, 0, none⟩) (show w.heap.size ≤ w8.heap.size + 1 by omega) _); clear hX5 y0 y1; (with_reducible refine wpList_load_blk rfl 22 (.tmp 1) rfl w.heap.size 0 16 rfl b0 row22 ?_ (bytesV key) ?_ ?_); (rw [bytesV_size, hk]; exact Nat.le_refl _); (exact bytesV_whole _ _ hk))
    | ((with_reducible refine wpList_load_blk rfl 22 (.tmp 1) rfl w.heap.size 0 16 rfl b0 row22 ?_ (bytesV key) ?_ ?_); (rw [bytesV_size, hk]; exact Nat.le_refl _); (exact bytesV_whole _ _ hk))
    | (go_at_call 49; (with_reducible refine (hsub _).mono ?_); rintro e w8 ⟨rfl, hb1⟩; replace b0 := b0.below hb1 b0.lt; replace b3 := b3.below hb1 b3.lt; replace c4 := c4.below hb1 c4.lt; replace c6 := c6.below hb1 c6.lt; replace hB := bnext hB hb1; clear hb1; (obtain ⟨V, hV⟩ : ∃ V, V = (w8.alloc (.cells (bytesV Z16) 22)).alloc (.cells (bytesV Z16) 22) := ⟨_, rfl⟩); have z8 : Blk V w8.heap.size (bytesV Z16) 22 := (by rw [hV]; exact (Blk.new' rfl).alloc _); have z9 : Blk V (w8.heap.size + 1) (bytesV Z16) 22 := (by rw [hV]; exact Blk.new' (by simp)); have hbV : Below w8.heap.size w8 V := (by rw [hV]; exact ((Below.refl _ _).alloc (Nat.le_refl _) _).alloc (by simp) _); have HV := Lib.hid hV; clear hV; have hw8 := hB.size; have n0 := b0.lt; have n4 := c4.lt; have n6 := c6.lt; replace b0 := b0.below hbV b0.lt; replace b3 := b3.below hbV b3.lt; replace c4 := c4.below hbV c4.lt; replace c6 := c6.below hbV c6.lt; replace hB := bnext hB hbV; clear hbV)
    | (rw [← HV.out]; (with_reducible refine wpList_store_blk rfl 22 (.tmp 8) (.tmp 27) rfl w8.heap.size 0 16 (bytesV S1) rfl rfl z8 row22 ?_ ?_ (bytesV_one _) ?_); (rw [bytesV_size, lS1.out]); (rw [bytesV_size]; decide); intro w9 d8 o3; clear d8; replace z9 := z9.only o3 (by omega); replace b0 := b0.only o3 (by omega); replace c4 := c4.only o3 (by omega); replace c6 := c6.only o3 (by omega); replace hB := below_only hB o3 (by omega); clear o3 z8)
    | ((with_reducible refine wpList_store_blk rfl 22 (.tmp 9) (.tmp 28) rfl (w8.heap.size + 1) 0 16 (bytesV S2) rfl rfl z9 row22 ?_ ?_ (bytesV_one _) ?_); (rw [bytesV_size, lS2.out]); (rw [bytesV_size]; decide); intro w10 c9 o4; rw [splice_all _ _ (by rw [lS2.out]; rfl)] at c9; replace b0 := b0.only o4 (by omega); replace c4 := c4.only o4 (by omega); replace c6 := c6.only o4 (by omega); replace hB := below_only hB o4 (by omega); clear o4 z9; have y0 := c9.gd 0 (by rw [lS2.out]; decide); have y1 := c9.frozen 0)
    | (go_at_call 52; (with_reducible refine (hsum3 _).mono ?_); rintro e w11 ⟨rfl, hb1⟩; replace b0 := b0.below hb1 b0.lt; replace c4 := c4.below hb1 c4.lt; replace c6 := c6.below hb1 c6.lt; replace c9 := c9.below hb1 c9.lt; replace hB := bnext hB hb1; clear hb1)
    | ((with_reducible refine wpList_store_blk rfl 22 (.tmp 10) (.tmp 36) rfl w11.heap.size 0 16 (bytesV C3) rfl rfl (C := bytesV Z16) (t := 22) ?_ row22 ?_ ?_ (bytesV_one _) ?_); (exact Blk.new' rfl); (rw [bytesV_size, l3.out]); (rw [bytesV_size]; decide); intro w12 c10 ho2; rw [splice_all _ _ (by rw [l3.out]; rfl)] at c10; have hb2 := below_only ((Below.refl w11.heap.size w11).alloc (Nat.le_refl _) (.cells (bytesV Z16) 22)) ho2 (Nat.le_refl _); replace b0 := b0.below hb2 b0.lt; replace c4 := c4.below hb2 c4.lt; replace c6 := c6.below hb2 c6.lt; replace c9 := c9.below hb2 c9.lt; replace hB := bnext hB hb2; clear hb2 ho2)
    | fail)
  obtain ⟨Sw, hSw⟩ : ∃ Sw : World → Prop, Sw = fun w' => Blk w' w.heap.size (bytesV key) 22 ∧ Blk w' w4.heap.size (bytesV C1) 22 ∧ Blk w' w6.heap.size (bytesV C2) 22 ∧ Blk w' (w8.heap.size + 1) (bytesV S9) 22 ∧ Blk w' w11.heap.size (bytesV C3) 22 ∧ Below w.heap.size w w' := ⟨_, rfl⟩
  have s0 : Sw w12.drew := by rw [hSw]; exact ⟨b0.drew, c4.drew, c6.drew, c9.drew, c10.drew, hB.drew⟩
  have a0 : ∀ w', Sw w' → Blk w' w.heap.size (bytesV key) 22 := fun w' h => by rw [hSw] at h; exact h.1
  have a4 : ∀ w', Sw w' → Blk w' w4.heap.size (bytesV C1) 22 := fun w' h => by rw [hSw] at h; exact h.2.1
  have a6 : ∀ w', Sw w' → Blk w' w6.heap.size (bytesV C2) 22 := fun w' h => by rw [hSw] at h; exact h.2.2.1
  have a9 : ∀ w', Sw w' → Blk w' (w8.heap.size + 1) (bytesV S9) 22 := fun w' h => by rw [hSw] at h; exact h.2.2.2.1
  have a10 : ∀ w', Sw w' → Blk w' w11.heap.size (bytesV C3) 22 := fun w' h => by rw [hSw] at h; exact h.2.2.2.2.1
  have ab : ∀ w', Sw w' → Below w.heap.size w w' := fun w' h => by rw [hSw] at h; exact h.2.2.2.2.2
  have a7 : ∀ w' w'', Sw w' → Below w'.heap.size w' w'' → Sw w'' := fun w' w'' h k => by
    rw [hSw] at h ⊢
    exact ⟨h.1.below k h.1.lt, h.2.1.below k h.2.1.lt, h.2.2.1.below k h.2.2.1.lt, h.2.2.2.1.below k h.2.2.2.1.lt, h.2.2.2.2.1.below k h.2.2.2.2.1.lt, bnext h.2.2.2.2.2 k⟩
  clear hSw b0 c4 c6 c9 c10 hB hsum1 hsum2 hsum3 hsub

  refine wp_region_held_drew (S := Sw) (by kernel_rfl) s0 (fun hHeld => ?_)
  refine wpAnyH_takeD 0 (some 38) (v := (.int .i64 0)) rfl rfl (by kernel_rfl) (by kernel_rfl) (by kernel_rfl) (fun _ _ _ h => h) (yieldsIf_calc rfl (fun w => by unfold execOp; go_simp)) (by assumption) ?_; try simp only [Act.put, List.setIfInBounds_toArray, List.set_cons_zero, List.set_cons_succ, Array.toArray_toList]
  refine wpAnyH_takeD 1 (some 39) (v := (.bool true)) rfl rfl (by kernel_rfl) (by kernel_rfl) (by kernel_rfl) (fun _ _ _ h => h) (yieldsIf_calc rfl (fun w => by unfold execOp; go_simp)) (by assumption) ?_; try simp only [Act.put, List.setIfInBounds_toArray, List.set_cons_zero, List.set_cons_succ, Array.toArray_toList]
  refine wpAnyH_takeD 2 (some 40) (v := (.bool true)) rfl rfl (by kernel_rfl) (by kernel_rfl) (by kernel_rfl) (fun _ _ _ h => h) (yieldsIf_calc rfl (fun w => by unfold execOp; go_simp)) (by assumption) ?_; try simp only [Act.put, List.setIfInBounds_toArray, List.set_cons_zero, List.set_cons_succ, Array.toArray_toList]
  refine wpAnyH_takeD 3 (some 41) (v := (.agg (bytesV C1))) rfl rfl (by kernel_rfl) (by kernel_rfl) (by kernel_rfl) (fun _ _ _ h => h) (yieldsIf_load_blk rfl 22 _ rfl (w4.heap.size) 16 (bytesV C1) 22 rfl (fun _ h => (a4 _ h)) row22 (by rw [bytesV_size, l1.out])) (by assumption) ?_; try simp only [Act.put, List.setIfInBounds_toArray, List.set_cons_zero, List.set_cons_succ, Array.toArray_toList]
  refine wpAnyH_takeD 4 (some 42) (v := (.agg (bytesV C1))) rfl rfl (by kernel_rfl) (by kernel_rfl) (by kernel_rfl) (fun _ _ _ h => h) (yieldsIf_calc rfl (fun w => by unfold execOp; go_simp)) (by assumption) ?_; try simp only [Act.put, List.setIfInBounds_toArray, List.set_cons_zero, List.set_cons_succ, Array.toArray_toList]
  refine wpAnyH_takeD 5 (some 43) (v := (.bool true)) rfl rfl (by kernel_rfl) (by kernel_rfl) (by kernel_rfl) (fun _ _ _ h => h) (yieldsIf_calc rfl (fun w => by unfold execOp; go_simp)) (by assumption) ?_; try simp only [Act.put, List.setIfInBounds_toArray, List.set_cons_zero, List.set_cons_succ, Array.toArray_toList]
  refine wpAnyH_takeD 6 (some 44) (v := (.bool true)) rfl rfl (by kernel_rfl) (by kernel_rfl) (by kernel_rfl) (fun _ _ _ h => h) (yieldsIf_calc rfl (fun w => by unfold execOp; go_simp)) (by assumption) ?_; try simp only [Act.put, List.setIfInBounds_toArray, List.set_cons_zero, List.set_cons_succ, Array.toArray_toList]
  refine wpAnyH_takeD 7 (some 45) (v := (.bool true)) rfl rfl (by kernel_rfl) (by kernel_rfl) (by kernel_rfl) (fun _ _ _ h => h) (yieldsIf_calc rfl (fun w => by unfold execOp; go_simp)) (by assumption) ?_; try simp only [Act.put, List.setIfInBounds_toArray, List.set_cons_zero, List.set_cons_succ, Array.toArray_toList]
  refine wpAnyH_takeD 8 (some 46) (v := (.int .i64 0)) rfl rfl (by kernel_rfl) (by kernel_rfl) (by kernel_rfl) (fun _ _ _ h => h) (yieldsIf_calc rfl (fun w => by unfold execOp; go_simp)) (by assumption) ?_; try simp only [Act.put, List.setIfInBounds_toArray, List.set_cons_zero, List.set_cons_succ, Array.toArray_toList]
  refine wpAnyH_takeD 9 (some 47) (v := (.bool true)) rfl rfl (by kernel_rfl) (by kernel_rfl) (by kernel_rfl) (fun _ _ _ h => h) (yieldsIf_calc rfl (fun w => by unfold execOp; go_simp)) (by assumption) ?_; try simp only [Act.put, List.setIfInBounds_toArray, List.set_cons_zero, List.set_cons_succ, Array.toArray_toList]
  refine wpAnyH_takeD 10 (some 48) (v := (.bool true)) rfl rfl (by kernel_rfl) (by kernel_rfl) (by kernel_rfl) (fun _ _ _ h => h) (yieldsIf_calc rfl (fun w => by unfold execOp; go_simp)) (by assumption) ?_; try simp only [Act.put, List.setIfInBounds_toArray, List.set_cons_zero, List.set_cons_succ, Array.toArray_toList]
  refine wpAnyH_takeD 11 (some 49) (v := (.bool true)) rfl rfl (by kernel_rfl) (by kernel_rfl) (by kernel_rfl) (fun _ _ _ h => h) (yieldsIf_calc rfl (fun w => by unfold execOp; go_simp)) (by assumption) ?_; try simp only [Act.put, List.setIfInBounds_toArray, List.set_cons_zero, List.set_cons_succ, Array.toArray_toList]
  refine wpAnyH_takeD 12 (some 50) (v := (.agg (bytesV C2))) rfl rfl (by kernel_rfl) (by kernel_rfl) (by kernel_rfl) (fun _ _ _ h => h) (yieldsIf_load_blk rfl 22 _ rfl (w6.heap.size) 16 (bytesV C2) 22 rfl (fun _ h => (a6 _ h)) row22 (by rw [bytesV_size, l2.out])) (by assumption) ?_; try simp only [Act.put, List.setIfInBounds_toArray, List.set_cons_zero, List.set_cons_succ, Array.toArray_toList]
  refine wpAnyH_takeD 13 (some 51) (v := (.agg (bytesV C2))) rfl rfl (by kernel_rfl) (by kernel_rfl) (by kernel_rfl) (fun _ _ _ h => h) (yieldsIf_calc rfl (fun w => by unfold execOp; go_simp)) (by assumption) ?_; try simp only [Act.put, List.setIfInBounds_toArray, List.set_cons_zero, List.set_cons_succ, Array.toArray_toList]
  refine wpAnyH_takeD 14 (some 52) (v := (.bool true)) rfl rfl (by kernel_rfl) (by kernel_rfl) (by kernel_rfl) (fun _ _ _ h => h) (yieldsIf_calc rfl (fun w => by unfold execOp; go_simp)) (by assumption) ?_; try simp only [Act.put, List.setIfInBounds_toArray, List.set_cons_zero, List.set_cons_succ, Array.toArray_toList]
  refine wpAnyH_takeD 15 (some 53) (v := (.bool true)) rfl rfl (by kernel_rfl) (by kernel_rfl) (by kernel_rfl) (fun _ _ _ h => h) (yieldsIf_calc rfl (fun w => by unfold execOp; go_simp)) (by assumption) ?_; try simp only [Act.put, List.setIfInBounds_toArray, List.set_cons_zero, List.set_cons_succ, Array.toArray_toList]
  refine wpAnyH_takeD 16 (some 54) (v := (.bool true)) rfl rfl (by kernel_rfl) (by kernel_rfl) (by kernel_rfl) (fun _ _ _ h => h) (yieldsIf_calc rfl (fun w => by unfold execOp; go_simp)) (by assumption) ?_; try simp only [Act.put, List.setIfInBounds_toArray, List.set_cons_zero, List.set_cons_succ, Array.toArray_toList]
  refine wpAnyH_takeD 17 (some 55) (v := (.int .i64 0)) rfl rfl (by kernel_rfl) (by kernel_rfl) (by kernel_rfl) (fun _ _ _ h => h) (yieldsIf_calc rfl (fun w => by unfold execOp; go_simp)) (by assumption) ?_; try simp only [Act.put, List.setIfInBounds_toArray, List.set_cons_zero, List.set_cons_succ, Array.toArray_toList]
  refine wpAnyH_takeD 18 (some 56) (v := (.bool true)) rfl rfl (by kernel_rfl) (by kernel_rfl) (by kernel_rfl) (fun _ _ _ h => h) (yieldsIf_calc rfl (fun w => by unfold execOp; go_simp)) (by assumption) ?_; try simp only [Act.put, List.setIfInBounds_toArray, List.set_cons_zero, List.set_cons_succ, Array.toArray_toList]
  refine wpAnyH_takeD 19 (some 57) (v := (.bool true)) rfl rfl (by kernel_rfl) (by kernel_rfl) (by kernel_rfl) (fun _ _ _ h => h) (yieldsIf_calc rfl (fun w => by unfold execOp; go_simp)) (by assumption) ?_; try simp only [Act.put, List.setIfInBounds_toArray, List.set_cons_zero, List.set_cons_succ, Array.toArray_toList]
  refine wpAnyH_takeD 20 (some 58) (v := (.bool true)) rfl rfl (by kernel_rfl) (by kernel_rfl) (by kernel_rfl) (fun _ _ _ h => h) (yieldsIf_calc rfl (fun w => by unfold execOp; go_simp)) (by assumption) ?_; try simp only [Act.put, List.setIfInBounds_toArray, List.set_cons_zero, List.set_cons_succ, Array.toArray_toList]
  refine wpAnyH_takeD 21 (some 59) (v := (.agg (bytesV C3))) rfl rfl (by kernel_rfl) (by kernel_rfl) (by kernel_rfl) (fun _ _ _ h => h) (yieldsIf_load_blk rfl 22 _ rfl (w11.heap.size) 16 (bytesV C3) 22 rfl (fun _ h => (a10 _ h)) row22 (by rw [bytesV_size, l3.out])) (by assumption) ?_; try simp only [Act.put, List.setIfInBounds_toArray, List.set_cons_zero, List.set_cons_succ, Array.toArray_toList]
  refine wpAnyH_takeD 22 (some 60) (v := (.agg (bytesV key))) rfl rfl (by kernel_rfl) (by kernel_rfl) (by kernel_rfl) (fun _ _ _ h => h) (yieldsIf_load_blk rfl 22 _ rfl (w.heap.size) 16 (bytesV key) 22 rfl (fun _ h => (a0 _ h)) row22 (by rw [bytesV_size, hk])) (by assumption) ?_; try simp only [Act.put, List.setIfInBounds_toArray, List.set_cons_zero, List.set_cons_succ, Array.toArray_toList]
  refine wpAnyH_takeD 24 (some 62) (v := (.agg (bytesV S9))) rfl rfl (by kernel_rfl) (by kernel_rfl) (by kernel_rfl) (fun _ _ _ h => h) (yieldsIf_load_blk rfl 22 _ rfl ((w8.heap.size + 1)) 16 (bytesV S9) 22 rfl (fun _ h => (a9 _ h)) row22 (by rw [bytesV_size, lS9.out])) (by assumption) ?_; try simp only [Act.put, List.setIfInBounds_toArray, List.set_cons_zero, List.set_cons_succ, Array.toArray_toList]
  refine wpAnyH_one 23 rfl (by kernel_rfl) (fun K' hK' => ?_)
  go_simp
  (go_at_call 39; (with_reducible refine (hnew _).mono ?_); rintro e v1 ⟨bC, rfl, hbC, hb1⟩; have s1 := a7 _ _ s0 hb1; clear hb1)
  go_wp2
  refine hK'.out _ _ (s1) ?_; clear hK' K'; try simp only [Act.put, List.setIfInBounds_toArray, List.set_cons_zero, List.set_cons_succ, Array.toArray_toList]
  refine wpAnyH_one 25 rfl (by kernel_rfl) (fun K' hK' => ?_)
  go_simp
  (go_at_call 40; (with_reducible refine (henc _ _ hbC).mono ?_); rintro e v2 ⟨rfl, hb1⟩; have s2 := a7 _ _ s1 hb1; clear hb1)
  go_wp2
  refine hK'.out _ _ (s2) ?_; clear hK' K'; try simp only [Act.put, List.setIfInBounds_toArray, List.set_cons_zero, List.set_cons_succ, Array.toArray_toList]
  refine wpAnyH_takeD 26 (some 64) (v := (.bool true)) rfl rfl (by kernel_rfl) (by kernel_rfl) (by kernel_rfl) (fun _ _ _ h => h) (yieldsIf_calc rfl (fun w => by unfold execOp; go_simp)) (by assumption) ?_; try simp only [Act.put, List.setIfInBounds_toArray, List.set_cons_zero, List.set_cons_succ, Array.toArray_toList]
  refine wpAnyH_takeD 27 (some 65) (v := (.bool true)) rfl rfl (by kernel_rfl) (by kernel_rfl) (by kernel_rfl) (fun _ _ _ h => h) (yieldsIf_calc rfl (fun w => by unfold execOp; go_simp)) (by assumption) ?_; try simp only [Act.put, List.setIfInBounds_toArray, List.set_cons_zero, List.set_cons_succ, Array.toArray_toList]
  refine wpAnyH_takeD 28 (some 66) (v := (.bool true)) rfl rfl (by kernel_rfl) (by kernel_rfl) (by kernel_rfl) (fun _ _ _ h => h) (yieldsIf_calc rfl (fun w => by unfold execOp; go_simp)) (by assumption) ?_; try simp only [Act.put, List.setIfInBounds_toArray, List.set_cons_zero, List.set_cons_succ, Array.toArray_toList]
  refine wpAnyH_one 29 rfl (by kernel_rfl) (fun K' hK' => ?_)
  go_simp
  (go_at_call 51; refine (known41 _).mono ?_; rintro e v3 ⟨rfl, hb1⟩; have s3 := a7 _ _ s2 hb1; clear hb1)
  go_wp2
  refine hK'.out _ _ (s3) ?_; clear hK' K'; try simp only [Act.put, List.setIfInBounds_toArray, List.set_cons_zero, List.set_cons_succ, Array.toArray_toList]
  refine wpAnyH_takeD 30 (some 68) (v := (.bool true)) rfl rfl (by kernel_rfl) (by kernel_rfl) (by kernel_rfl) (fun _ _ _ h => h) (yieldsIf_calc rfl (fun w => by unfold execOp; go_simp)) (by assumption) ?_; try simp only [Act.put, List.setIfInBounds_toArray, List.set_cons_zero, List.set_cons_succ, Array.toArray_toList]
  refine wpAnyH_takeD 31 (some 2) (v := (.bool true)) rfl rfl (by kernel_rfl) (by kernel_rfl) (by kernel_rfl) (fun _ _ _ h => h) (yieldsIf_calc rfl (fun w => by unfold execOp; go_simp)) (by assumption) ?_; try simp only [Act.put, List.setIfInBounds_toArray, List.set_cons_zero, List.set_cons_succ, Array.toArray_toList]
  refine wpAnyH_done (by kernel_rfl) ?_ _
  go_wp2
  go_ret
  exact ⟨rfl, ab _ s3⟩
end Go.Proofs.Ytdgmahgidmjniaa
