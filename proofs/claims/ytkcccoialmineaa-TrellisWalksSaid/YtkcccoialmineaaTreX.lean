/-
  The trellis, walks: the reference's tail; the statement TrellisSteps.
-/
import Derived.Test.YtkcccoialmineaaTreW
namespace Go.Proofs.Ytkcccoialmineaa
open Go.RowKit
attribute [-go_sem] Instr.build

set_option maxHeartbeats 1000000 in
theorem rtail_ok (s : Nat) (hs : s < 8) (w : World) :
    Calls Try.prog 14 #[.int .i64 s] w fun e w' => e = .returned (.tuple #[.agg (bytesV (tU s)), .agg (bytesV (tZ s))]) ∧ Below w.heap.size w w' := by
  have z1 : ∀ w, (zeroValue 25).run Try.prog w = .ok (.agg (bytesV Z3)) w := (zero_of_info zero25).1
  obtain ⟨W, hW⟩ : ∃ W, W = (((w.alloc (.cells (bytesV Z3) 25)).alloc (.cells (bytesV Z3) 25)).alloc (.cells (bytesV Z3) 25)).alloc (.cells (bytesV Z3) 25) := ⟨_, rfl⟩
  have b0 : Blk W w.heap.size (bytesV Z3) 25 := by rw [hW]; exact (((Blk.new' rfl).alloc _).alloc _).alloc _
  have b1 : Blk W (w.heap.size + 1) (bytesV Z3) 25 := by rw [hW]; exact ((Blk.new' (by simp)).alloc _).alloc _
  have b2 : Blk W (w.heap.size + 1 + 1) (bytesV (uK s 0)) 25 := by rw [hW]; exact (Blk.new' (by simp)).alloc _
  have b3 : Blk W (w.heap.size + 1 + 1 + 1) (bytesV (zK s 0)) 25 := by rw [hW]; exact Blk.new' (by simp)
  have hB : Below w.heap.size w W := by rw [hW]; exact ((((Below.refl _ _).alloc (Nat.le_refl _) _).alloc (by simp) _).alloc (by simp; omega) _).alloc (by simp; omega) _
  have HW := Lib.hid hW
  clear hW z1
  have z1 : ∀ w, (zeroValue 25).run Try.prog w = .ok (.agg (bytesV Z3)) w := (zero_of_info zero25).1
  go_enter Try.func14, Try.ntmps14
  go_wp2
  rw [← HW.out]
  go_loopw [0, 6] (fun x t wr => ∃ k : Nat, k ≤ 3 ∧ t = .int .i64 k ∧ x = .int .i64 (stt s ((tU s).take k)) ∧ Blk wr w.heap.size (bytesV Z3) 25 ∧ Blk wr (w.heap.size + 1) (bytesV Z3) 25 ∧ Blk wr (w.heap.size + 1 + 1) (bytesV (uK s k)) 25 ∧ Blk wr (w.heap.size + 1 + 1 + 1) (bytesV (zK s k)) 25 ∧ Below w.heap.size w wr) (fun _ t _ => 3 - (intOf t).toNat)
  case atStart => exact ⟨0, by omega, rfl, rfl, b0, b1, b2, b3, hB⟩
  case round =>
    clear b0 b1 b2 b3 hB
    obtain ⟨k, hk, rfl, rfl, b0, b1, b2, b3, hB⟩ := hrel
    by_cases hlt : k < 3
    · have hst := stt_lt s hs ((tU s).take k)
      have hub := ub_lt (stt s ((tU s).take k))
      have hU := uK_set s k hlt
      have hZ := zK_set s k hlt
      have hN := st_next s k hlt
      have hlu := uK_length s k hk
      have hlz := zK_length s k hk
      obtain ⟨q, hq⟩ : ∃ q, q = stt s ((tU s).take k) := ⟨_, rfl⟩
      rw [← hq] at hst hub hU hZ hN
      have hu2 : (((q : Int) / 2 + (q : Int)) % 2) = (ub q : Nat) := by unfold ub; omega
      obtain ⟨u, hu⟩ : ∃ u, u = ub q := ⟨_, rfl⟩
      rw [← hu] at hub hU hZ hN hu2
      obtain ⟨p, hp⟩ : ∃ p, p = pr q u := ⟨_, rfl⟩
      have hp2 := pr_lt q u
      rw [← hp] at hZ hp2
      have HU := Lib.hid hU
      have HZ := Lib.hid hZ
      have HN := Lib.hid hN
      have Hp := Lib.hid hp
      have Hu2 := Lib.hid hu2
      rw [← hq]
      clear hU hZ hN hq hu hp hu2
      have k1 : IntKind.u8.wrap (p : Int) = (p : Int) := wrap_u8 p (by omega)
      have k2 : IntKind.u8.wrap (u : Int) = (u : Int) := wrap_u8 u (by omega)
      have c0 := b2.gd k (by omega)
      have c1 := b3.gd k (by omega)
      have f0 := b2.frozen k
      have f1 := b3.frozen k
      go_wp2_with (first
        | (go_at_call 16; rw [Hu2.out]; (with_reducible refine (rstep_ok q u hst hub _).mono ?_); rintro e w' ⟨rfl, hw⟩; subst w'; rw [← Hp.out]))
      have r2 := (b2.set k (B (UInt8.ofNat u))).set_other (p := ⟨w.heap.size + 1 + 1 + 1, k, none⟩) (by simp) (B (UInt8.ofNat p))
      have r3 := (b3.set_other (p := ⟨w.heap.size + 1 + 1, k, none⟩) (by simp) (B (UInt8.ofNat u))).set k (B (UInt8.ofNat p))
      rw [bytesV_set, HU.out, B_of u (by omega), B_of p (by omega)] at r2
      rw [bytesV_set, HZ.out, B_of u (by omega), B_of p (by omega)] at r3
      exact ⟨⟨k + 1, by omega, by go_num, by rw [HN.out], (b0.set_other (by simp <;> omega) _).set_other (by simp <;> omega) _, (b1.set_other (by simp <;> omega) _).set_other (by simp <;> omega) _, r2, r3, (hB.setCell (by simp <;> omega) _).setCell (by simp <;> omega) _⟩, by simp [intOf]; omega⟩
    · obtain rfl : k = 3 := by omega
      have eu : uK s 3 = tU s := by unfold uK; rw [List.take_of_length_le (by rw [tU_length]; exact Nat.le_refl _)]; simp
      have ez : zK s 3 = tZ s := by unfold zK tZ; rw [List.take_of_length_le (by rw [tU_length]; exact Nat.le_refl _)]; simp
      rw [eu] at b2
      rw [ez] at b3
      obtain ⟨x0, x1, x2, hx⟩ := three (tU s) (tU_length s)
      obtain ⟨y0, y1, y2, hy⟩ := three (tZ s) (tZ_length s)
      have c0 : wr.cell? ⟨w.heap.size + 1 + 1, 0, none⟩ = some (B x0) := by rw [b2.cell, hx]; rfl
      have c1 : wr.cell? ⟨w.heap.size + 1 + 1, 1, none⟩ = some (B x1) := by rw [b2.cell, hx]; rfl
      have c2 : wr.cell? ⟨w.heap.size + 1 + 1, 2, none⟩ = some (B x2) := by rw [b2.cell, hx]; rfl
      have d0 : wr.cell? ⟨w.heap.size + 1 + 1 + 1, 0, none⟩ = some (B y0) := by rw [b3.cell, hy]; rfl
      have d1 : wr.cell? ⟨w.heap.size + 1 + 1 + 1, 1, none⟩ = some (B y1) := by rw [b3.cell, hy]; rfl
      have d2 : wr.cell? ⟨w.heap.size + 1 + 1 + 1, 2, none⟩ = some (B y2) := by rw [b3.cell, hy]; rfl
      have e0 : wr.cell? ⟨w.heap.size, 0, none⟩ = some (.int .u8 0) := b0.cell 0
      have fe0 := b0.frozen 0
      have e1 : wr.cell? ⟨w.heap.size, 1, none⟩ = some (.int .u8 0) := b0.cell 1
      have fe1 := b0.frozen 1
      have e2 : wr.cell? ⟨w.heap.size, 2, none⟩ = some (.int .u8 0) := b0.cell 2
      have fe2 := b0.frozen 2
      have g0 : wr.cell? ⟨w.heap.size + 1, 0, none⟩ = some (.int .u8 0) := b1.cell 0
      have fg0 := b1.frozen 0
      have g1 : wr.cell? ⟨w.heap.size + 1, 1, none⟩ = some (.int .u8 0) := b1.cell 1
      have fg1 := b1.frozen 1
      have g2 : wr.cell? ⟨w.heap.size + 1, 2, none⟩ = some (.int .u8 0) := b1.cell 2
      have fg2 := b1.frozen 2
      have r0 := ((((((b0.set 0 (B x0)).set 1 (B x1)).set 2 (B x2)).set_other (p := ⟨w.heap.size + 1, 0, none⟩) (by simp) (B y0)).set_other (p := ⟨w.heap.size + 1, 1, none⟩) (by simp) (B y1)).set_other (p := ⟨w.heap.size + 1, 2, none⟩) (by simp) (B y2)).drew
      have r1 := ((((((b1.set_other (p := ⟨w.heap.size, 0, none⟩) (by simp) (B x0)).set_other (p := ⟨w.heap.size, 1, none⟩) (by simp) (B x1)).set_other (p := ⟨w.heap.size, 2, none⟩) (by simp) (B x2)).set 0 (B y0)).set 1 (B y1)).set 2 (B y2)).drew
      rw [show (((bytesV Z3).setIfInBounds 0 (B x0)).setIfInBounds 1 (B x1)).setIfInBounds 2 (B x2) = bytesV [x0, x1, x2] from rfl] at r0
      rw [show (((bytesV Z3).setIfInBounds 0 (B y0)).setIfInBounds 1 (B y1)).setIfInBounds 2 (B y2) = bytesV [y0, y1, y2] from rfl] at r1
      unfold B at c0 c1 c2 d0 d1 d2 r0 r1
      go_wp2_with fail
      go_region
      go_wp2
      refine bodyPost_ret (results_blk2 rfl _ _ _ _ (bytesV [x0, x1, x2]) (bytesV [y0, y1, y2]) 25 3 rfl rfl r0 r1 row25 rfl rfl) rfl ?_
      rw [hx, hy]
      exact ⟨rfl, ((((((hB.setCell (Nat.le_refl _) _).setCell (Nat.le_refl _) _).setCell (Nat.le_refl _) _).setCell (Nat.le_succ _) _).setCell (Nat.le_succ _) _).setCell (Nat.le_succ _) _).drew⟩

theorem wf64 {a : Int} (h : (Lit.int .i64 a).wf = true) : -9223372036854775808 ≤ a ∧ a ≤ 9223372036854775807 := by
  have hmin : IntKind.i64.min = -9223372036854775808 := rfl
  have hmax : IntKind.i64.max = 9223372036854775807 := rfl
  simp only [Lit.wf, Bool.and_eq_true, decide_eq_true_eq] at h
  omega
theorem z3len : Z3.length = 3 := rfl
theorem n25 (l : List UInt8) (hl : l.length = 3) (w : World) : (binOp .neq 25 (.agg (bytesV l)) (.agg (bytesV l))).run Try.prog w = .ok (.bool false) w := by
  rw [run_neq_arr arr25 l l hl hl, decide_self]; rfl

set_option maxRecDepth 100000 in
set_option maxHeartbeats 2000000 in
theorem walk_TrellisSteps (s : Int) (ws : (Lit.int .i64 s).wf = true) (b : Int) (wb : (Lit.int .i64 b).wf = true) (w : World) :
    Calls Try.prog 3 #[.int .i64 s, .int .i64 b] w fun e w' => e = .returned (.bool true) ∧ Below w.heap.size w w' := by
  have z1 : ∀ w, (zeroValue 25).run Try.prog w = .ok (.agg (bytesV Z3)) w := (zero_of_info zero25).1
  have hbz : ∀ w, (Instr.build 25 #[]).run Try.prog w = .ok (.agg (bytesV Z3)) w := fun w => run_build w 25 _ _ (by kernel_rfl)
  have g1 := guard25
  have e0 := e25 Z3 rfl
  by_cases hs : 0 ≤ s ∧ s < 8
  · obtain ⟨n, rfl⟩ : ∃ n : Nat, s = n := ⟨s.toNat, by omega⟩
    have hn : n < 8 := by omega
    have hv : decide (0 ≤ (n : Int) ∧ (n : Int) < 8) = true := decide_eq_true hs
    have e1 := n25 (tU n) (tU_length n)
    have e2 := n25 (tZ n) (tZ_length n)
    obtain ⟨U, hU⟩ : ∃ U, U = tU n := ⟨_, rfl⟩
    obtain ⟨Z, hZ⟩ : ∃ U, U = tZ n := ⟨_, rfl⟩
    have lU : U.length = 3 := by rw [hU, tU_length]
    have lZ : Z.length = 3 := by rw [hZ, tZ_length]
    rw [← hU] at e1
    rw [← hZ] at e2
    have HU := Lib.hid hU
    have HZ := Lib.hid hZ
    have LU := Lib.hid lU
    have LZ := Lib.hid lZ
    clear hU hZ lU lZ
    by_cases hb : 0 ≤ b ∧ b < 2
    · obtain ⟨m, rfl⟩ : ∃ n : Nat, b = n := ⟨b.toNat, by omega⟩
      have hm : m < 2 := by omega
      have q1 : ¬ (m : Int) < 0 := by omega
      have q2 : ¬ (1 : Int) < (m : Int) := by omega
      go_enter Try.func3, Try.ntmps3
      go_wp2_with (first
        | (go_at_call 10; (with_reducible refine (step_ok n m hn hm _).mono ?_); rintro e w1 ⟨rfl, hB⟩)
        | (go_at_call 11; (with_reducible refine (tail_ok n hn _).mono ?_); rintro e w2 ⟨rfl, hb1⟩; rw [← HU.out, ← HZ.out]; replace hB := bnext hB hb1; have hB0 := hB.size; clear hb1)
        | ((with_reducible refine wpList_store_blk rfl 25 (.tmp 8) (.tmp 25) rfl w2.heap.size 0 3 (bytesV U) rfl rfl ((Blk.new' rfl).alloc _) row25 ?_ ?_ (bytesV_one _) ?_); (rw [bytesV_size, LU.out]); (exact Nat.le_refl 3); intro w3 t8 o3; rw [splice_all Z3 U (LU.out).symm] at t8; have t9 := (Blk.new (w2.alloc (.cells (bytesV Z3) 25)) (bytesV Z3) 25).only o3 (by simp); replace hB := below_only ((hB.alloc hB.size _).alloc (by have := hB.size; simp; omega) _) o3 hB.size)
        | ((with_reducible refine wpList_store_blk rfl 25 (.tmp 9) (.tmp 26) rfl (w2.heap.size + 1) 0 3 (bytesV Z) rfl rfl (by simpa using t9) row25 ?_ ?_ (bytesV_one _) ?_); (rw [bytesV_size, LZ.out]); (exact Nat.le_refl 3); intro w4 t9' o4; rw [splice_all Z3 Z (LZ.out).symm] at t9'; clear t9; replace t8 := t8.only o4 (by omega); replace hB := below_only hB o4 (Nat.le_trans hB0 (Nat.le_succ _)))
        | (go_at_call 12; (with_reducible refine (rvalid_any _ _).mono ?_); rintro e w' ⟨rfl, hw⟩; subst w'; rw [hv])
        | (go_at_call 15; (with_reducible refine (num_any _ _).mono ?_); rintro e w' ⟨rfl, hw⟩; subst w')
        | (go_at_call 13; (with_reducible refine (works_any _).mono ?_); rintro e w9 ⟨rfl, hb1⟩; replace hB := bnext hB hb1; clear hb1)
        | (go_at_call 14; (with_reducible refine (rtail_ok n hn _).mono ?_); rintro e w5 ⟨rfl, hb1⟩; rw [← HU.out, ← HZ.out]; replace hB := bnext hB hb1; replace t8 := t8.below hb1 t8.lt; replace t9' := t9'.below hb1 t9'.lt; clear hb1)
        | ((with_reducible refine wpList_store_blk rfl 25 (.tmp 11) (.tmp 61) rfl w5.heap.size 0 3 (bytesV U) rfl rfl ((Blk.new' rfl).alloc _) row25 ?_ ?_ (bytesV_one _) ?_); (rw [bytesV_size, LU.out]); (exact Nat.le_refl 3); intro w6 t11 o6; rw [splice_all Z3 U LU.out.symm] at t11; have t12 := (Blk.new (w5.alloc (.cells (bytesV Z3) 25)) (bytesV Z3) 25).only o6 (by simp); have q8 := t8.lt; have q9 := t9'.lt; replace t8 := ((t8.alloc (.cells (bytesV Z3) 25)).alloc (.cells (bytesV Z3) 25)).only o6 (by omega); replace t9' := ((t9'.alloc (.cells (bytesV Z3) 25)).alloc (.cells (bytesV Z3) 25)).only o6 (by omega); have hS := hB.size; replace hB := below_only ((hB.alloc hB.size _).alloc (by simp; omega) _) o6 hB.size)
        | ((with_reducible refine wpList_store_blk rfl 25 (.tmp 12) (.tmp 62) rfl (w5.heap.size + 1) 0 3 (bytesV Z) rfl rfl (by simpa using t12) row25 ?_ ?_ (bytesV_one _) ?_); (rw [bytesV_size, LZ.out]); (exact Nat.le_refl 3); intro w7 t12' o7; rw [splice_all Z3 Z LZ.out.symm] at t12'; clear t12; replace t8 := t8.only o7 (by omega); replace t9' := t9'.only o7 (by omega); replace t11 := t11.only o7 (by omega); replace hB := below_only hB o7 (by omega))
        | ((with_reducible refine wpList_load_blk_g 25 (.tmp 8) rfl (w2.heap.size) 0 3 rfl t8 row25 ?_ ?_ (bytesV U) ?_ ?_); (rfl); (rw [bytesV_size, LU.out]; exact Nat.le_refl _); (exact bytesV_whole _ _ (LU.out)))
        | ((with_reducible refine wpList_load_blk_g 25 (.tmp 9) rfl (w2.heap.size + 1) 0 3 rfl t9' row25 ?_ ?_ (bytesV Z) ?_ ?_); (rfl); (rw [bytesV_size, LZ.out]; exact Nat.le_refl _); (exact bytesV_whole _ _ (LZ.out)))
        | ((with_reducible refine wpList_load_blk_g 25 (.tmp 11) rfl (w5.heap.size) 0 3 rfl t11 row25 ?_ ?_ (bytesV U) ?_ ?_); (rfl); (rw [bytesV_size, LU.out]; exact Nat.le_refl _); (exact bytesV_whole _ _ (LU.out)))
        | ((with_reducible refine wpList_load_blk_g 25 (.tmp 12) rfl (w5.heap.size + 1) 0 3 rfl t12' row25 ?_ ?_ (bytesV Z) ?_ ?_); (rfl); (rw [bytesV_size, LZ.out]; exact Nat.le_refl _); (exact bytesV_whole _ _ (LZ.out)))
        | (go_at_call 16; (with_reducible refine (rstep_ok n m hn hm _).mono ?_); rintro e w' ⟨rfl, hw⟩; subst w'))
      go_ret
      exact ⟨rfl, hB⟩
    · go_enter Try.func3, Try.ntmps3
      have hb2 : b < 0 ∨ (0 ≤ b ∧ 1 < b) := by omega
      rcases hb2 with q1 | ⟨q1, q2⟩
      all_goals
        go_wp2_with (first
          | (go_at_call 10; (with_reducible refine (step_err n b (by omega) _).mono ?_); rintro e w1 ⟨rfl, hB⟩)
          | (go_at_call 11; (with_reducible refine (tail_ok n hn _).mono ?_); rintro e w2 ⟨rfl, hb1⟩; rw [← HU.out, ← HZ.out]; replace hB := bnext hB hb1; have hB0 := hB.size; clear hb1)
          | ((with_reducible refine wpList_store_blk rfl 25 (.tmp 8) (.tmp 25) rfl w2.heap.size 0 3 (bytesV U) rfl rfl ((Blk.new' rfl).alloc _) row25 ?_ ?_ (bytesV_one _) ?_); (rw [bytesV_size, LU.out]); (exact Nat.le_refl 3); intro w3 t8 o3; rw [splice_all Z3 U (LU.out).symm] at t8; have t9 := (Blk.new (w2.alloc (.cells (bytesV Z3) 25)) (bytesV Z3) 25).only o3 (by simp); replace hB := below_only ((hB.alloc hB.size _).alloc (by have := hB.size; simp; omega) _) o3 hB.size)
          | ((with_reducible refine wpList_store_blk rfl 25 (.tmp 9) (.tmp 26) rfl (w2.heap.size + 1) 0 3 (bytesV Z) rfl rfl (by simpa using t9) row25 ?_ ?_ (bytesV_one _) ?_); (rw [bytesV_size, LZ.out]); (exact Nat.le_refl 3); intro w4 t9' o4; rw [splice_all Z3 Z (LZ.out).symm] at t9'; clear t9; replace t8 := t8.only o4 (by omega); replace hB := below_only hB o4 (Nat.le_trans hB0 (Nat.le_succ _)))
          | (go_at_call 12; (with_reducible refine (rvalid_any _ _).mono ?_); rintro e w' ⟨rfl, hw⟩; subst w'; rw [hv])
          | (go_at_call 15; (with_reducible refine (num_any _ _).mono ?_); rintro e w' ⟨rfl, hw⟩; subst w')
          | (go_at_call 13; (with_reducible refine (works_any _).mono ?_); rintro e w9 ⟨rfl, hb1⟩; replace hB := bnext hB hb1; clear hb1)
          | (go_at_call 14; (with_reducible refine (rtail_ok n hn _).mono ?_); rintro e w5 ⟨rfl, hb1⟩; rw [← HU.out, ← HZ.out]; replace hB := bnext hB hb1; replace t8 := t8.below hb1 t8.lt; replace t9' := t9'.below hb1 t9'.lt; clear hb1)
          | ((with_reducible refine wpList_store_blk rfl 25 (.tmp 11) (.tmp 61) rfl w5.heap.size 0 3 (bytesV U) rfl rfl ((Blk.new' rfl).alloc _) row25 ?_ ?_ (bytesV_one _) ?_); (rw [bytesV_size, LU.out]); (exact Nat.le_refl 3); intro w6 t11 o6; rw [splice_all Z3 U LU.out.symm] at t11; have t12 := (Blk.new (w5.alloc (.cells (bytesV Z3) 25)) (bytesV Z3) 25).only o6 (by simp); have q8 := t8.lt; have q9 := t9'.lt; replace t8 := ((t8.alloc (.cells (bytesV Z3) 25)).alloc (.cells (bytesV Z3) 25)).only o6 (by omega); replace t9' := ((t9'.alloc (.cells (bytesV Z3) 25)).alloc (.cells (bytesV Z3) 25)).only o6 (by omega); have hS := hB.size; replace hB := below_only ((hB.alloc hB.size _).alloc (by simp; omega) _) o6 hB.size)
          | ((with_reducible refine wpList_store_blk rfl 25 (.tmp 12) (.tmp 62) rfl (w5.heap.size + 1) 0 3 (bytesV Z) rfl rfl (by simpa using t12) row25 ?_ ?_ (bytesV_one _) ?_); (rw [bytesV_size, LZ.out]); (exact Nat.le_refl 3); intro w7 t12' o7; rw [splice_all Z3 Z LZ.out.symm] at t12'; clear t12; replace t8 := t8.only o7 (by omega); replace t9' := t9'.only o7 (by omega); replace t11 := t11.only o7 (by omega); replace hB := below_only hB o7 (by omega))
          | ((with_reducible refine wpList_load_blk_g 25 (.tmp 8) rfl (w2.heap.size) 0 3 rfl t8 row25 ?_ ?_ (bytesV U) ?_ ?_); (rfl); (rw [bytesV_size, LU.out]; exact Nat.le_refl _); (exact bytesV_whole _ _ (LU.out)))
          | ((with_reducible refine wpList_load_blk_g 25 (.tmp 9) rfl (w2.heap.size + 1) 0 3 rfl t9' row25 ?_ ?_ (bytesV Z) ?_ ?_); (rfl); (rw [bytesV_size, LZ.out]; exact Nat.le_refl _); (exact bytesV_whole _ _ (LZ.out)))
          | ((with_reducible refine wpList_load_blk_g 25 (.tmp 11) rfl (w5.heap.size) 0 3 rfl t11 row25 ?_ ?_ (bytesV U) ?_ ?_); (rfl); (rw [bytesV_size, LU.out]; exact Nat.le_refl _); (exact bytesV_whole _ _ (LU.out)))
          | ((with_reducible refine wpList_load_blk_g 25 (.tmp 12) rfl (w5.heap.size + 1) 0 3 rfl t12' row25 ?_ ?_ (bytesV Z) ?_ ?_); (rfl); (rw [bytesV_size, LZ.out]; exact Nat.le_refl _); (exact bytesV_whole _ _ (LZ.out)))
          | fail)
        go_ret
        exact ⟨rfl, hB⟩
  · have hv : decide (0 ≤ s ∧ s < 8) = false := decide_eq_false hs
    go_enter Try.func3, Try.ntmps3
    go_wp2_with (first
      | (go_at_call 10; (with_reducible refine (step_err s b (by omega) _).mono ?_); rintro e w1 ⟨rfl, hB⟩)
      | (go_at_call 11; (with_reducible refine (tail_err s (by omega) _).mono ?_); rintro e w2 ⟨rfl, hb1⟩; replace hB := bnext hB hb1; have hB0 := hB.size; clear hb1)
      | ((with_reducible refine wpList_store_blk rfl 25 (.tmp 8) (.tmp 25) rfl w2.heap.size 0 3 (bytesV Z3) rfl rfl ((Blk.new' rfl).alloc _) row25 ?_ ?_ (bytesV_one _) ?_); (rw [bytesV_size, z3len]); (exact Nat.le_refl 3); intro w3 t8 o3; rw [splice_all Z3 Z3 (z3len).symm] at t8; have t9 := (Blk.new (w2.alloc (.cells (bytesV Z3) 25)) (bytesV Z3) 25).only o3 (by simp); replace hB := below_only ((hB.alloc hB.size _).alloc (by have := hB.size; simp; omega) _) o3 hB.size)
      | ((with_reducible refine wpList_store_blk rfl 25 (.tmp 9) (.tmp 26) rfl (w2.heap.size + 1) 0 3 (bytesV Z3) rfl rfl (by simpa using t9) row25 ?_ ?_ (bytesV_one _) ?_); (rw [bytesV_size, z3len]); (exact Nat.le_refl 3); intro w4 t9' o4; rw [splice_all Z3 Z3 (z3len).symm] at t9'; clear t9; replace t8 := t8.only o4 (by omega); replace hB := below_only hB o4 (Nat.le_trans hB0 (Nat.le_succ _)))
      | (go_at_call 12; (with_reducible refine (rvalid_any _ _).mono ?_); rintro e w' ⟨rfl, hw⟩; subst w'; rw [hv])
      | (go_at_call 15; (with_reducible refine (num_any _ _).mono ?_); rintro e w' ⟨rfl, hw⟩; subst w')
      | (go_at_call 13; (with_reducible refine (works_any _).mono ?_); rintro e w9 ⟨rfl, hb1⟩; replace hB := bnext hB hb1; clear hb1)
      | ((with_reducible refine wpList_load_blk_g 25 (.tmp 8) rfl (w2.heap.size) 0 3 rfl t8 row25 ?_ ?_ (bytesV Z3) ?_ ?_); (rfl); (rw [bytesV_size, z3len]; exact Nat.le_refl _); (exact bytesV_whole _ _ (z3len)))
      | ((with_reducible refine wpList_load_blk_g 25 (.tmp 9) rfl (w2.heap.size + 1) 0 3 rfl t9' row25 ?_ ?_ (bytesV Z3) ?_ ?_); (rfl); (rw [bytesV_size, z3len]; exact Nat.le_refl _); (exact bytesV_whole _ _ (z3len)))
      | fail)
    go_ret
    exact ⟨rfl, hB⟩
end Go.Proofs.Ytkcccoialmineaa
