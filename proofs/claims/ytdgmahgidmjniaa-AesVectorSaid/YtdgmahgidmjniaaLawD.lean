/-
  The statement AesVector, the walk.
-/
import Derived.Test.YtdgmahgidmjniaaVecL
import Derived.Test.YtdgmahgidmjniaaHeld
import Derived.Test.YtdgmahgidmjniaaLaw1
namespace Go.Proofs.Ytdgmahgidmjniaa
open Go.RowKit
attribute [-go_sem] Instr.build

def plainV : List UInt8 := [0, 17, 34, 51, 68, 85, 102, 119, 136, 153, 170, 187, 204, 221, 238, 255]
def wantV : List UInt8 := [105, 196, 224, 216, 106, 123, 4, 48, 216, 205, 183, 128, 112, 180, 197, 90]
theorem enc_vec : encR (ksL keyV 160) plainV 10 = wantV := encV
theorem dec_vec : decF (ksL keyV 160) wantV = plainV := by rw [← enc_vec]; exact decF_encF _ plainV rfl
def kAt (k : Nat) : List UInt8 := keyV.take k ++ List.replicate (16 - k) 0
def pAt (k : Nat) : List UInt8 := plainV.take k ++ List.replicate (16 - k) 0
theorem kAt_set : ∀ k : Fin 16, (kAt k.val).set k.val (UInt8.ofNat k.val) = kAt (k.val + 1) := by decide +kernel
theorem pAt_set : ∀ k : Fin 16, (pAt k.val).set k.val (UInt8.ofNat (17 * k.val)) = pAt (k.val + 1) := by decide +kernel
theorem kAt_length (k : Nat) (h : k ≤ 16) : (kAt k).length = 16 := by simp [kAt, keyV]; omega
theorem pAt_length (k : Nat) (h : k ≤ 16) : (pAt k).length = 16 := by simp [pAt, plainV]; omega
theorem B_of (n : Nat) (h : n < 256) : B (UInt8.ofNat n) = .int .u8 (n : Int) := by
  unfold B
  rw [UInt8.toNat_ofNat', Nat.mod_eq_of_lt h]
theorem guard22d : Try.prog.eqGuardType Try.prog.depth 22 = false := by kernel_rfl
theorem neq22d (l : List UInt8) (hl : l.length = 16) (w : World) : (binOp .neq 22 (.agg (bytesV l)) (.agg (bytesV l))).run Try.prog w = .ok (.bool false) w := by
  rw [run_neq_arr arr22 l l hl hl, decide_self]; rfl
theorem eql22d (l : List UInt8) (hl : l.length = 16) (w : World) : (binOp .eql 22 (.agg (bytesV l)) (.agg (bytesV l))).run Try.prog w = .ok (.bool true) w := by
  rw [run_eql_arr arr22 l l hl hl, decide_self]
theorem build22w (w : World) : (Instr.build 22 #[(0, .int .u8 105), (1, .int .u8 196), (2, .int .u8 224), (3, .int .u8 216), (4, .int .u8 106), (5, .int .u8 123), (6, .int .u8 4), (7, .int .u8 48), (8, .int .u8 216), (9, .int .u8 205), (10, .int .u8 183), (11, .int .u8 128), (12, .int .u8 112), (13, .int .u8 180), (14, .int .u8 197), (15, .int .u8 90)]).run Try.prog w = .ok (.agg (bytesV wantV)) w := run_build w 22 _ _ (by kernel_rfl)
theorem build22z (w : World) : (Instr.build 22 #[]).run Try.prog w = .ok (.agg (bytesV Z16)) w := run_build w 22 _ _ (by kernel_rfl)
theorem build59z (w : World) : (Instr.build 59 #[]).run Try.prog w = .ok (.agg (bytesV Z688)) w := run_build w 59 _ _ (by kernel_rfl)

set_option maxRecDepth 100000 in
set_option maxHeartbeats 8000000 in
theorem walk_AesVector (a : List UInt8) (ha : a.length = 16) (w : World) :
    Calls Try.prog 11 #[.agg (bytesV a)] w fun e w' => e = .returned (.bool true) ∧ Below w.heap.size w w' := by
  obtain ⟨K, hK⟩ : ∃ K, K = ksL keyV 160 := ⟨_, rfl⟩
  have hKl := Lib.hid (show K.length = 176 by rw [hK, ksL_length keyV rfl])
  obtain ⟨L, hL⟩ : ∃ K, K = K0 := ⟨_, rfl⟩
  have hLl := Lib.hid (show L.length = 176 by rw [hL]; exact K0_length)
  obtain ⟨PT, hPT⟩ : ∃ K, K = plainV := ⟨_, rfl⟩
  obtain ⟨CT, hCT⟩ : ∃ K, K = wantV := ⟨_, rfl⟩
  have lPT := Lib.hid (show PT.length = 16 by rw [hPT]; rfl)
  have lCT := Lib.hid (show CT.length = 16 by rw [hCT]; rfl)
  have hv1 := Lib.hid (show encR K PT 10 = CT by rw [hK, hPT, hCT]; exact enc_vec)
  have hv2 := Lib.hid (show decF K CT = PT by rw [hK, hPT, hCT]; exact dec_vec)
  obtain ⟨X, hX⟩ : ∃ X, X = encR L a 10 := ⟨_, rfl⟩
  obtain ⟨Y, hY⟩ : ∃ Y, Y = decF L a := ⟨_, rfl⟩
  have lX := Lib.hid (show X.length = 16 by rw [hX, encR_length])
  have lY := Lib.hid (show Y.length = 16 by rw [hY, decF_length])
  have n1 := neq22d CT lCT.out
  have n2 := neq22d PT lPT.out
  have e1 := eql22d X lX.out
  have e2 := eql22d Y lY.out
  have hg := guard22d
  have hbw := build22w
  have hbz := build22z
  have hb59 := build59z
  have z1 : ∀ w, (zeroValue 22).run Try.prog w = .ok (.agg (bytesV Z16)) w := (zero_of_info zero22e).1
  have HK := Lib.hid hK
  have HL := Lib.hid hL
  have HP := Lib.hid hPT
  have HC := Lib.hid hCT
  have HX := Lib.hid hX
  have HY := Lib.hid hY
  rw [← hCT] at hbw
  clear hK hL hPT hCT hX hY
  obtain ⟨W, hW⟩ : ∃ W, W = ((w.alloc (.cells (bytesV a) 22)).alloc (.cells (bytesV Z16) 22)).alloc (.cells (bytesV Z16) 22) := ⟨_, rfl⟩
  have b0 : Blk W w.heap.size (bytesV a) 22 := by rw [hW]; exact ((Blk.new' rfl).alloc _).alloc _
  have b1 : Blk W (w.heap.size + 1) (bytesV (kAt 0)) 22 := by rw [hW]; exact (Blk.new' (by simp)).alloc _
  have b2 : Blk W (w.heap.size + 1 + 1) (bytesV (pAt 0)) 22 := by rw [hW]; exact Blk.new' (by simp)
  have hB : Below w.heap.size w W := by rw [hW]; exact (((Below.refl _ _).alloc (Nat.le_refl _) _).alloc (by simp) _).alloc (by simp; omega) _
  have HW := Lib.hid hW
  clear hW
  go_enter Try.func11, Try.ntmps11
  go_wp2
  rw [← HW.out]
  go_loopw [5] (fun t wr => ∃ k : Nat, k ≤ 16 ∧ t = .int .i64 k ∧ Blk wr w.heap.size (bytesV a) 22 ∧ Blk wr (w.heap.size + 1) (bytesV (kAt k)) 22 ∧ Blk wr (w.heap.size + 1 + 1) (bytesV (pAt k)) 22 ∧ Below w.heap.size w wr) (fun t _ => 16 - (intOf t).toNat)
  case atStart => exact ⟨0, by omega, rfl, b0, b1, b2, hB⟩
  case round =>
    clear b0 b1 b2 hB
    obtain ⟨k, hk, rfl, b0, b1, b2, hB⟩ := hrel
    by_cases hlt : k < 16
    · have hs1 := kAt_set ⟨k, hlt⟩
      have hs2 := pAt_set ⟨k, hlt⟩
      have l1 := kAt_length k hk
      have l2 := pAt_length k hk
      have c1 := b1.gd k (by omega)
      have c2 := b2.gd k (by omega)
      have f1 := b1.frozen k
      have f2 := b2.frozen k
      have r1 := (b1.set k (B (UInt8.ofNat k))).set_other (p := ⟨w.heap.size + 1 + 1, k, none⟩) (by simp) (B (UInt8.ofNat (17 * k)))
      have r2 := (b2.set_other (p := ⟨w.heap.size + 1, k, none⟩) (by simp) (B (UInt8.ofNat k))).set k (B (UInt8.ofNat (17 * k)))
      rw [bytesV_set, hs1, B_of k (by omega), B_of (17 * k) (by omega)] at r1
      rw [bytesV_set, hs2, B_of k (by omega), B_of (17 * k) (by omega)] at r2
      rw [show ((17 * k : Nat) : Int) = 17 * (k : Int) by omega] at r1 r2
      have k1 : IntKind.u8.wrap (k : Int) = (k : Int) := wrap_u8 k (by omega)
      have k2 : IntKind.u8.wrap (17 * (k : Int)) = 17 * (k : Int) := wrap_u8 (17 * k) (by omega)
      clear hs1 hs2
      go_wp2
      exact ⟨⟨k + 1, by omega, by go_num, (b0.set_other (by simp <;> omega) _).set_other (by simp <;> omega) _, r1, r2, (hB.setCell (by simp <;> omega) _).setCell (by simp <;> omega) _⟩, by simp [intOf]; omega⟩
    · obtain rfl : k = 16 := by omega
      rw [show kAt 16 = keyV from rfl] at b1
      rw [show pAt 16 = plainV from rfl, ← HP.out] at b2
      go_wp2_with (first
        | ((with_reducible refine wpList_store_blk rfl 22 (.tmp 6) (.tmp 24) rfl wr.heap.size 0 16 (bytesV CT) rfl rfl (Blk.new' rfl) row22 ?_ ?_ (bytesV_one _) ?_); (rw [bytesV_size, lCT.out]); (exact Nat.le_refl 16); intro w3 b3 o3; rw [splice_all Z16 CT lCT.out.symm] at b3; have hC : Below wr.heap.size wr w3 := below_only ((Below.refl _ _).alloc (Nat.le_refl _) _) o3 (Nat.le_refl _); replace b0 := b0.below hC b0.lt; replace b1 := b1.below hC b1.lt; replace b2 := b2.below hC b2.lt; replace hB := bnext hB hC; clear hC)
        | ((with_reducible refine wpList_load_blk rfl 22 (.tmp 3) rfl (w.heap.size + 1) 0 16 rfl b1 row22 ?_ (bytesV keyV) ?_ ?_); (exact Nat.le_refl 16); (exact bytesV_whole _ _ rfl))
        | (go_at_call 39; (with_reducible refine (new_any keyV rfl _).mono ?_); rintro e w4 ⟨bC, rfl, hC, hb1⟩; rw [← HK.out] at hC; replace b0 := b0.below hb1 b0.lt; replace b1 := b1.below hb1 b1.lt; replace b2 := b2.below hb1 b2.lt; replace b3 := b3.below hb1 b3.lt; replace hB := bnext hB hb1; clear hb1)
        | (go_at_call 39; (with_reducible refine (new_zero _).mono ?_); rintro e w5 ⟨bD, rfl, hD, hb1⟩; rw [← HL.out] at hD; have hk := (Below.refl w4.heap.size w4).alloc (Nat.le_refl _) (.cells (bytesV Z688) 59); have hE : Blk w5 w4.heap.size (bytesV Z688) 59 := (Blk.new' rfl).below hb1 (by simp); replace hb1 := bnext hk hb1; replace b0 := b0.below hb1 b0.lt; replace b1 := b1.below hb1 b1.lt; replace b2 := b2.below hb1 b2.lt; replace b3 := b3.below hb1 b3.lt; replace hC := hC.below hb1 hC.lt; replace hB := bnext hB hb1; clear hb1 hk))
      clear b1 hbw hbz hb59 z1
      obtain ⟨bE, hbE⟩ : ∃ b, b = w4.heap.size := ⟨_, rfl⟩
      rw [← hbE] at hE ⊢
      clear hbE
      obtain ⟨Sw, hSw⟩ : ∃ Sw : World → Prop, Sw = fun w' => Blk w' w.heap.size (bytesV a) 22 ∧ Blk w' (w.heap.size + 1 + 1) (bytesV PT) 22 ∧ Blk w' wr.heap.size (bytesV CT) 22 ∧ Blk w' bC (bytesV (cip K)) 59 ∧ Blk w' bD (bytesV (cip L)) 59 ∧ Blk w' bE (bytesV Z688) 59 ∧ Below w.heap.size w w' := ⟨_, rfl⟩
      have s0 : Sw w5.drew := by rw [hSw]; exact ⟨b0.drew, b2.drew, b3.drew, hC.drew, hD.drew, hE.drew, hB.drew⟩
      have p0 : ∀ w', Sw w' → Blk w' w.heap.size (bytesV a) 22 := fun w' h => by rw [hSw] at h; exact h.1
      have p2 : ∀ w', Sw w' → Blk w' (w.heap.size + 1 + 1) (bytesV PT) 22 := fun w' h => by rw [hSw] at h; exact h.2.1
      have p3 : ∀ w', Sw w' → Blk w' wr.heap.size (bytesV CT) 22 := fun w' h => by rw [hSw] at h; exact h.2.2.1
      have rC : ∀ w', Sw w' → Recv w' (.pointer (some ⟨bC, 0, none⟩)) K := fun w' h => by rw [hSw] at h; exact .inl ⟨bC, rfl, h.2.2.2.1⟩
      have rD : ∀ w', Sw w' → Recv w' (.pointer (some ⟨bD, 0, none⟩)) L := fun w' h => by rw [hSw] at h; exact .inl ⟨bD, rfl, h.2.2.2.2.1⟩
      have rN : ∀ w', Sw w' → Recv w' (.pointer none) L := fun w' h => .inr ⟨HL.out, .inl rfl⟩
      have rE : ∀ w', Sw w' → Recv w' (.pointer (some ⟨bE, 0, none⟩)) L := fun w' h => by rw [hSw] at h; exact .inr ⟨HL.out, .inr ⟨bE, rfl, h.2.2.2.2.2.1⟩⟩
      have a5 : ∀ w', Sw w' → Below w.heap.size w w' := fun w' h => by rw [hSw] at h; exact h.2.2.2.2.2.2
      have a6 : ∀ w', Sw w' → Sw w'.drew := fun w' h => by rw [hSw] at h ⊢; exact ⟨h.1.drew, h.2.1.drew, h.2.2.1.drew, h.2.2.2.1.drew, h.2.2.2.2.1.drew, h.2.2.2.2.2.1.drew, h.2.2.2.2.2.2.drew⟩
      have a4 : ∀ w' w'', Sw w' → Below w'.heap.size w' w'' → Sw w'' := fun w' w'' h hb => by rw [hSw] at h ⊢; exact ⟨h.1.below hb h.1.lt, h.2.1.below hb h.2.1.lt, h.2.2.1.below hb h.2.2.1.lt, h.2.2.2.1.below hb h.2.2.2.1.lt, h.2.2.2.2.1.below hb h.2.2.2.2.1.lt, h.2.2.2.2.2.1.below hb h.2.2.2.2.2.1.lt, bnext h.2.2.2.2.2.2 hb⟩
      clear hSw b0 b2 b3 hC hD hE hB
      refine wp_region_held_drew (S := Sw) (by kernel_rfl) s0 (fun hHeld => ?_)
      refine wpAnyH_one 0 rfl (by kernel_rfl) (fun K' hK' => ?_)
      go_simp
      refine hK'.out _ _ (by assumption) ?_; clear hK' K'; try simp only [Act.put, List.setIfInBounds_toArray, List.set_cons_zero, List.set_cons_succ]
      refine wpAnyH_one 1 rfl (by kernel_rfl) (fun K' hK' => ?_)
      go_simp
      refine hK'.out _ _ (by assumption) ?_; clear hK' K'; try simp only [Act.put, List.setIfInBounds_toArray, List.set_cons_zero, List.set_cons_succ]
      refine wpAnyH_one 2 rfl (by kernel_rfl) (fun K' hK' => ?_)
      go_simp
      refine hK'.out _ _ (by assumption) ?_; clear hK' K'; try simp only [Act.put, List.setIfInBounds_toArray, List.set_cons_zero, List.set_cons_succ]
      refine wpAnyH_one 3 rfl (by kernel_rfl) (fun K' hK' => ?_)
      go_simp
      refine hK'.out _ _ (by assumption) ?_; clear hK' K'; try simp only [Act.put, List.setIfInBounds_toArray, List.set_cons_zero, List.set_cons_succ]
      refine wpAnyH_one 4 rfl (by kernel_rfl) (fun K' hK' => ?_)
      go_simp
      refine hK'.out _ _ (by assumption) ?_; clear hK' K'; try simp only [Act.put, List.setIfInBounds_toArray, List.set_cons_zero, List.set_cons_succ]
      refine wpAnyH_one 5 rfl (by kernel_rfl) (fun K' hK' => ?_)
      go_simp
      refine hK'.out _ _ (by assumption) ?_; clear hK' K'; try simp only [Act.put, List.setIfInBounds_toArray, List.set_cons_zero, List.set_cons_succ]
      refine wpAnyH_one 6 rfl (by kernel_rfl) (fun K' hK' => ?_)
      go_simp
      refine hK'.out _ _ (by assumption) ?_; clear hK' K'; try simp only [Act.put, List.setIfInBounds_toArray, List.set_cons_zero, List.set_cons_succ]
      refine wpAnyH_take (i := 7) rfl (by kernel_rfl) (by kernel_rfl) (by kernel_rfl) (fun _ _ _ h => h) (yieldsIf_move rfl _ rfl (.pointer (some ⟨bC, 0, none⟩)) rfl) (by assumption) ?_
      refine wpAnyH_take (i := 8) rfl (by kernel_rfl) (by kernel_rfl) (by kernel_rfl) (fun _ _ _ h => h) (yieldsIf_load_blk rfl _ _ rfl (w.heap.size + 1 + 1) 16 (bytesV PT) 22 rfl p2 row22 (by rw [bytesV_size, lPT.out])) (by assumption) ?_
      refine wpAnyH_take (i := 10) rfl (by kernel_rfl) (by kernel_rfl) (by kernel_rfl) (fun _ _ _ h => h) (yieldsIf_load_blk rfl _ _ rfl (wr.heap.size) 16 (bytesV CT) 22 rfl p3 row22 (by rw [bytesV_size, lCT.out])) (by assumption) ?_
      refine wpAnyH_one 9 rfl (by kernel_rfl) (fun K' hK' => ?_)
      go_simp
      (go_at_call 40; refine (encrypt_any K hKl.out PT lPT.out _ _ (rC _ s0)).mono ?_; rintro e w6 ⟨rfl, hb1⟩; rw [hv1.out]; have s6 := a4 _ _ s0 hb1; clear hb1)
      go_wp2
      refine hK'.out _ _ (by assumption) ?_; clear hK' K'; try simp only [Act.put, List.setIfInBounds_toArray, List.set_cons_zero, List.set_cons_succ]
      refine wpAnyH_one 11 rfl (by kernel_rfl) (fun K' hK' => ?_)
      go_simp
      refine hK'.out _ _ (by assumption) ?_; clear hK' K'; try simp only [Act.put, List.setIfInBounds_toArray, List.set_cons_zero, List.set_cons_succ]
      refine wpAnyH_one 12 rfl (by kernel_rfl) (fun K' hK' => ?_)
      go_simp
      refine hK'.out _ _ (by assumption) ?_; clear hK' K'; try simp only [Act.put, List.setIfInBounds_toArray, List.set_cons_zero, List.set_cons_succ]
      refine wpAnyH_one 13 rfl (by kernel_rfl) (fun K' hK' => ?_)
      go_simp
      refine hK'.out _ _ (by assumption) ?_; clear hK' K'; try simp only [Act.put, List.setIfInBounds_toArray, List.set_cons_zero, List.set_cons_succ]
      refine wpAnyH_take (i := 14) rfl (by kernel_rfl) (by kernel_rfl) (by kernel_rfl) (fun _ _ _ h => h) (yieldsIf_move rfl _ rfl (.pointer (some ⟨bC, 0, none⟩)) rfl) (by assumption) ?_
      refine wpAnyH_take (i := 15) rfl (by kernel_rfl) (by kernel_rfl) (by kernel_rfl) (fun _ _ _ h => h) (yieldsIf_load_blk rfl _ _ rfl (wr.heap.size) 16 (bytesV CT) 22 rfl p3 row22 (by rw [bytesV_size, lCT.out])) (by assumption) ?_
      refine wpAnyH_take (i := 17) rfl (by kernel_rfl) (by kernel_rfl) (by kernel_rfl) (fun _ _ _ h => h) (yieldsIf_load_blk rfl _ _ rfl (w.heap.size + 1 + 1) 16 (bytesV PT) 22 rfl p2 row22 (by rw [bytesV_size, lPT.out])) (by assumption) ?_
      refine wpAnyH_one 16 rfl (by kernel_rfl) (fun K' hK' => ?_)
      go_simp
      (go_at_call 42; refine (decrypt_any K hKl.out CT lCT.out _ _ (rC _ s6)).mono ?_; rintro e w7 ⟨rfl, hb1⟩; rw [hv2.out]; have s7 := a4 _ _ s6 hb1; clear hb1)
      go_wp2
      refine hK'.out _ _ (by assumption) ?_; clear hK' K'; try simp only [Act.put, List.setIfInBounds_toArray, List.set_cons_zero, List.set_cons_succ]
      refine wpAnyH_one 18 rfl (by kernel_rfl) (fun K' hK' => ?_)
      go_simp
      refine hK'.out _ _ (by assumption) ?_; clear hK' K'; try simp only [Act.put, List.setIfInBounds_toArray, List.set_cons_zero, List.set_cons_succ]
      refine wpAnyH_one 19 rfl (by kernel_rfl) (fun K' hK' => ?_)
      go_simp
      refine hK'.out _ _ (by assumption) ?_; clear hK' K'; try simp only [Act.put, List.setIfInBounds_toArray, List.set_cons_zero, List.set_cons_succ]
      refine wpAnyH_done (by kernel_rfl) ?_ _
      go_wp2_with fail
      have s8 := a6 _ s7
      refine wp_region_held_drew (S := Sw) (by kernel_rfl) s8 (fun hHeld => ?_)
      refine wpAnyH_take (i := 0) rfl (by kernel_rfl) (by kernel_rfl) (by kernel_rfl) (fun _ _ _ h => h) (yieldsIf_move rfl _ rfl (.pointer none) rfl) (by assumption) ?_
      refine wpAnyH_take (i := 1) rfl (by kernel_rfl) (by kernel_rfl) (by kernel_rfl) (fun _ _ _ h => h) (yieldsIf_load_blk rfl _ _ rfl (w.heap.size) 16 (bytesV a) 22 rfl p0 row22 (by rw [bytesV_size, ha])) (by assumption) ?_
      refine wpAnyH_take (i := 3) rfl (by kernel_rfl) (by kernel_rfl) (by kernel_rfl) (fun _ _ _ h => h) (yieldsIf_move rfl _ rfl (.pointer (some ⟨bD, 0, none⟩)) rfl) (by assumption) ?_
      refine wpAnyH_take (i := 4) rfl (by kernel_rfl) (by kernel_rfl) (by kernel_rfl) (fun _ _ _ h => h) (yieldsIf_load_blk rfl _ _ rfl (w.heap.size) 16 (bytesV a) 22 rfl p0 row22 (by rw [bytesV_size, ha])) (by assumption) ?_
      refine wpAnyH_one 2 rfl (by kernel_rfl) (fun K' hK' => ?_)
      go_simp
      (go_at_call 40; refine (encrypt_any L hLl.out a ha _ _ (rN _ s8)).mono ?_; rintro e w9 ⟨rfl, hb1⟩; rw [← HX.out]; have s9 := a4 _ _ s8 hb1; clear hb1)
      go_wp2
      refine hK'.out _ _ (by assumption) ?_; clear hK' K'; try simp only [Act.put, List.setIfInBounds_toArray, List.set_cons_zero, List.set_cons_succ]
      refine wpAnyH_one 5 rfl (by kernel_rfl) (fun K' hK' => ?_)
      go_simp
      (go_at_call 40; refine (encrypt_any L hLl.out a ha _ _ (rD _ s9)).mono ?_; rintro e w10 ⟨rfl, hb1⟩; rw [← HX.out]; have s10 := a4 _ _ s9 hb1; clear hb1)
      go_wp2
      refine hK'.out _ _ (by assumption) ?_; clear hK' K'; try simp only [Act.put, List.setIfInBounds_toArray, List.set_cons_zero, List.set_cons_succ]
      refine wpAnyH_one 6 rfl (by kernel_rfl) (fun K' hK' => ?_)
      go_simp
      refine hK'.out _ _ (by assumption) ?_; clear hK' K'; try simp only [Act.put, List.setIfInBounds_toArray, List.set_cons_zero, List.set_cons_succ]
      refine wpAnyH_one 7 rfl (by kernel_rfl) (fun K' hK' => ?_)
      go_simp
      refine hK'.out _ _ (by assumption) ?_; clear hK' K'; try simp only [Act.put, List.setIfInBounds_toArray, List.set_cons_zero, List.set_cons_succ]
      refine wpAnyH_take (i := 8) rfl (by kernel_rfl) (by kernel_rfl) (by kernel_rfl) (fun _ _ _ h => h) (yieldsIf_move rfl _ rfl (.pointer (some ⟨bE, 0, none⟩)) rfl) (by assumption) ?_
      refine wpAnyH_take (i := 9) rfl (by kernel_rfl) (by kernel_rfl) (by kernel_rfl) (fun _ _ _ h => h) (yieldsIf_load_blk rfl _ _ rfl (w.heap.size) 16 (bytesV a) 22 rfl p0 row22 (by rw [bytesV_size, ha])) (by assumption) ?_
      refine wpAnyH_take (i := 11) rfl (by kernel_rfl) (by kernel_rfl) (by kernel_rfl) (fun _ _ _ h => h) (yieldsIf_move rfl _ rfl (.pointer (some ⟨bD, 0, none⟩)) rfl) (by assumption) ?_
      refine wpAnyH_take (i := 12) rfl (by kernel_rfl) (by kernel_rfl) (by kernel_rfl) (fun _ _ _ h => h) (yieldsIf_load_blk rfl _ _ rfl (w.heap.size) 16 (bytesV a) 22 rfl p0 row22 (by rw [bytesV_size, ha])) (by assumption) ?_
      refine wpAnyH_one 10 rfl (by kernel_rfl) (fun K' hK' => ?_)
      go_simp
      (go_at_call 40; refine (encrypt_any L hLl.out a ha _ _ (rE _ s10)).mono ?_; rintro e w11 ⟨rfl, hb1⟩; rw [← HX.out]; have s11 := a4 _ _ s10 hb1; clear hb1)
      go_wp2
      refine hK'.out _ _ (by assumption) ?_; clear hK' K'; try simp only [Act.put, List.setIfInBounds_toArray, List.set_cons_zero, List.set_cons_succ]
      refine wpAnyH_one 13 rfl (by kernel_rfl) (fun K' hK' => ?_)
      go_simp
      (go_at_call 40; refine (encrypt_any L hLl.out a ha _ _ (rD _ s11)).mono ?_; rintro e w12 ⟨rfl, hb1⟩; rw [← HX.out]; have s12 := a4 _ _ s11 hb1; clear hb1)
      go_wp2
      refine hK'.out _ _ (by assumption) ?_; clear hK' K'; try simp only [Act.put, List.setIfInBounds_toArray, List.set_cons_zero, List.set_cons_succ]
      refine wpAnyH_one 14 rfl (by kernel_rfl) (fun K' hK' => ?_)
      go_simp
      refine hK'.out _ _ (by assumption) ?_; clear hK' K'; try simp only [Act.put, List.setIfInBounds_toArray, List.set_cons_zero, List.set_cons_succ]
      refine wpAnyH_one 15 rfl (by kernel_rfl) (fun K' hK' => ?_)
      go_simp
      refine hK'.out _ _ (by assumption) ?_; clear hK' K'; try simp only [Act.put, List.setIfInBounds_toArray, List.set_cons_zero, List.set_cons_succ]
      refine wpAnyH_one 16 rfl (by kernel_rfl) (fun K' hK' => ?_)
      go_simp
      refine hK'.out _ _ (by assumption) ?_; clear hK' K'; try simp only [Act.put, List.setIfInBounds_toArray, List.set_cons_zero, List.set_cons_succ]
      refine wpAnyH_take (i := 17) rfl (by kernel_rfl) (by kernel_rfl) (by kernel_rfl) (fun _ _ _ h => h) (yieldsIf_move rfl _ rfl (.pointer none) rfl) (by assumption) ?_
      refine wpAnyH_take (i := 18) rfl (by kernel_rfl) (by kernel_rfl) (by kernel_rfl) (fun _ _ _ h => h) (yieldsIf_load_blk rfl _ _ rfl (w.heap.size) 16 (bytesV a) 22 rfl p0 row22 (by rw [bytesV_size, ha])) (by assumption) ?_
      refine wpAnyH_take (i := 20) rfl (by kernel_rfl) (by kernel_rfl) (by kernel_rfl) (fun _ _ _ h => h) (yieldsIf_move rfl _ rfl (.pointer (some ⟨bD, 0, none⟩)) rfl) (by assumption) ?_
      refine wpAnyH_take (i := 21) rfl (by kernel_rfl) (by kernel_rfl) (by kernel_rfl) (fun _ _ _ h => h) (yieldsIf_load_blk rfl _ _ rfl (w.heap.size) 16 (bytesV a) 22 rfl p0 row22 (by rw [bytesV_size, ha])) (by assumption) ?_
      refine wpAnyH_one 19 rfl (by kernel_rfl) (fun K' hK' => ?_)
      go_simp
      (go_at_call 42; refine (decrypt_any L hLl.out a ha _ _ (rN _ s12)).mono ?_; rintro e w13 ⟨rfl, hb1⟩; rw [← HY.out]; have s13 := a4 _ _ s12 hb1; clear hb1)
      go_wp2
      refine hK'.out _ _ (by assumption) ?_; clear hK' K'; try simp only [Act.put, List.setIfInBounds_toArray, List.set_cons_zero, List.set_cons_succ]
      refine wpAnyH_one 22 rfl (by kernel_rfl) (fun K' hK' => ?_)
      go_simp
      (go_at_call 42; refine (decrypt_any L hLl.out a ha _ _ (rD _ s13)).mono ?_; rintro e w14 ⟨rfl, hb1⟩; rw [← HY.out]; have s14 := a4 _ _ s13 hb1; clear hb1)
      go_wp2
      refine hK'.out _ _ (by assumption) ?_; clear hK' K'; try simp only [Act.put, List.setIfInBounds_toArray, List.set_cons_zero, List.set_cons_succ]
      refine wpAnyH_one 23 rfl (by kernel_rfl) (fun K' hK' => ?_)
      go_simp
      refine hK'.out _ _ (by assumption) ?_; clear hK' K'; try simp only [Act.put, List.setIfInBounds_toArray, List.set_cons_zero, List.set_cons_succ]
      refine wpAnyH_one 24 rfl (by kernel_rfl) (fun K' hK' => ?_)
      go_simp
      refine hK'.out _ _ (by assumption) ?_; clear hK' K'; try simp only [Act.put, List.setIfInBounds_toArray, List.set_cons_zero, List.set_cons_succ]
      refine wpAnyH_one 25 rfl (by kernel_rfl) (fun K' hK' => ?_)
      go_simp
      refine hK'.out _ _ (by assumption) ?_; clear hK' K'; try simp only [Act.put, List.setIfInBounds_toArray, List.set_cons_zero, List.set_cons_succ]
      refine wpAnyH_take (i := 26) rfl (by kernel_rfl) (by kernel_rfl) (by kernel_rfl) (fun _ _ _ h => h) (yieldsIf_move rfl _ rfl (.pointer (some ⟨bE, 0, none⟩)) rfl) (by assumption) ?_
      refine wpAnyH_take (i := 27) rfl (by kernel_rfl) (by kernel_rfl) (by kernel_rfl) (fun _ _ _ h => h) (yieldsIf_load_blk rfl _ _ rfl (w.heap.size) 16 (bytesV a) 22 rfl p0 row22 (by rw [bytesV_size, ha])) (by assumption) ?_
      refine wpAnyH_take (i := 29) rfl (by kernel_rfl) (by kernel_rfl) (by kernel_rfl) (fun _ _ _ h => h) (yieldsIf_move rfl _ rfl (.pointer (some ⟨bD, 0, none⟩)) rfl) (by assumption) ?_
      refine wpAnyH_take (i := 30) rfl (by kernel_rfl) (by kernel_rfl) (by kernel_rfl) (fun _ _ _ h => h) (yieldsIf_load_blk rfl _ _ rfl (w.heap.size) 16 (bytesV a) 22 rfl p0 row22 (by rw [bytesV_size, ha])) (by assumption) ?_
      refine wpAnyH_one 28 rfl (by kernel_rfl) (fun K' hK' => ?_)
      go_simp
      (go_at_call 42; refine (decrypt_any L hLl.out a ha _ _ (rE _ s14)).mono ?_; rintro e w15 ⟨rfl, hb1⟩; rw [← HY.out]; have s15 := a4 _ _ s14 hb1; clear hb1)
      go_wp2
      refine hK'.out _ _ (by assumption) ?_; clear hK' K'; try simp only [Act.put, List.setIfInBounds_toArray, List.set_cons_zero, List.set_cons_succ]
      refine wpAnyH_one 31 rfl (by kernel_rfl) (fun K' hK' => ?_)
      go_simp
      (go_at_call 42; refine (decrypt_any L hLl.out a ha _ _ (rD _ s15)).mono ?_; rintro e w16 ⟨rfl, hb1⟩; rw [← HY.out]; have s16 := a4 _ _ s15 hb1; clear hb1)
      go_wp2
      refine hK'.out _ _ (by assumption) ?_; clear hK' K'; try simp only [Act.put, List.setIfInBounds_toArray, List.set_cons_zero, List.set_cons_succ]
      refine wpAnyH_one 32 rfl (by kernel_rfl) (fun K' hK' => ?_)
      go_simp
      refine hK'.out _ _ (by assumption) ?_; clear hK' K'; try simp only [Act.put, List.setIfInBounds_toArray, List.set_cons_zero, List.set_cons_succ]
      refine wpAnyH_one 33 rfl (by kernel_rfl) (fun K' hK' => ?_)
      go_simp
      refine hK'.out _ _ (by assumption) ?_; clear hK' K'; try simp only [Act.put, List.setIfInBounds_toArray, List.set_cons_zero, List.set_cons_succ]
      refine wpAnyH_one 34 rfl (by kernel_rfl) (fun K' hK' => ?_)
      go_simp
      refine hK'.out _ _ (by assumption) ?_; clear hK' K'; try simp only [Act.put, List.setIfInBounds_toArray, List.set_cons_zero, List.set_cons_succ]
      refine wpAnyH_one 35 rfl (by kernel_rfl) (fun K' hK' => ?_)
      go_simp
      (go_at_call 33; refine (known39 _).mono ?_; rintro e w17 ⟨rfl, hb1⟩; have s17 := a4 _ _ s16 hb1; clear hb1)
      go_wp2
      refine hK'.out _ _ (by assumption) ?_; clear hK' K'; try simp only [Act.put, List.setIfInBounds_toArray, List.set_cons_zero, List.set_cons_succ]
      refine wpAnyH_one 36 rfl (by kernel_rfl) (fun K' hK' => ?_)
      go_simp
      refine hK'.out _ _ (by assumption) ?_; clear hK' K'; try simp only [Act.put, List.setIfInBounds_toArray, List.set_cons_zero, List.set_cons_succ]
      refine wpAnyH_one 37 rfl (by kernel_rfl) (fun K' hK' => ?_)
      go_simp
      refine hK'.out _ _ (by assumption) ?_; clear hK' K'; try simp only [Act.put, List.setIfInBounds_toArray, List.set_cons_zero, List.set_cons_succ]
      refine wpAnyH_done (by kernel_rfl) ?_ _
      go_wp2
      go_ret
      exact ⟨rfl, a5 _ s17⟩
end Go.Proofs.Ytdgmahgidmjniaa
