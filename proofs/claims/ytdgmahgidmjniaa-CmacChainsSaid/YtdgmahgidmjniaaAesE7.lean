/-
  AES: decryption.
-/
import Derived.Test.YtdgmahgidmjniaaAesE6
namespace Go.Proofs.Ytdgmahgidmjniaa
open Go.RowKit
attribute [-go_sem] Instr.build

def decPart (K : List UInt8) (n : Nat) (b : List UInt8) : Nat → List UInt8
  | 0 => b
  | 1 => addL K n b
  | 2 => mixN F2 n (addL K n b)
  | 3 => unshiftL (mixN F2 n (addL K n b))
  | _ => unsubL (unshiftL (mixN F2 n (addL K n b)))
def decR (K l : List UInt8) : Nat → List UInt8
  | 0 => l
  | m + 1 => decPart K (10 - m) (decR K l m) 4
set_option maxRecDepth 100000 in
theorem decPart_length (K : List UInt8) (n : Nat) (b : List UInt8) (hb : b.length = 16) (k : Nat) : (decPart K n b k).length = 16 := by
  match k with
  | 0 => exact hb
  | 1 =>
    show (addL K n b).length = 16
    rw [addL, eachL_length]
  | 2 =>
    show (mixN F2 n (addL K n b)).length = 16
    exact mixN_length _ _ _ (by rw [addL, eachL_length])
  | 3 =>
    show (unshiftL (mixN F2 n (addL K n b))).length = 16
    rw [unshiftL, eachL_length]
  | k + 4 =>
    show (unsubL (unshiftL (mixN F2 n (addL K n b)))).length = 16
    rw [unsubL, eachL_length]
set_option maxRecDepth 100000 in
theorem decR_length (K l : List UInt8) (hl : l.length = 16) (n : Nat) : (decR K l n).length = 16 := by
  induction n with
  | zero => exact hl
  | succ n ih => exact decPart_length K (10 - n) _ ih 4
/-- Decryption. -/
def decF (K l : List UInt8) : List UInt8 := addL K 0 (decR K l 10)
def GV : Array Value := #[.func (.func 63) #[] #[], .func (.func 68) #[] #[], .func (.func 69) #[] #[], .func (.func 70) #[] #[]]
theorem gv_0 (w : World) : (Instr.index 93 (.agg GV) (.int .i64 0)).run Try.prog w = .ok (.func (.func 63) #[] #[]) w := by kernel_rfl
theorem gv_1 (w : World) : (Instr.index 93 (.agg GV) (.int .i64 1)).run Try.prog w = .ok (.func (.func 68) #[] #[]) w := by kernel_rfl
theorem gv_2 (w : World) : (Instr.index 93 (.agg GV) (.int .i64 2)).run Try.prog w = .ok (.func (.func 69) #[] #[]) w := by kernel_rfl
theorem gv_3 (w : World) : (Instr.index 93 (.agg GV) (.int .i64 3)).run Try.prog w = .ok (.func (.func 70) #[] #[]) w := by kernel_rfl

set_option maxRecDepth 100000 in
set_option maxHeartbeats 8000000 in
theorem decrypt_any (K : List UInt8) (hK : K.length = 176) (l : List UInt8) (hl : l.length = 16) (p : Value) (w : World) (hp : Recv w p K) :
    Calls Try.prog 42 #[p, .agg (bytesV l)] w fun e w' => e = .returned (.agg (bytesV (decF K l))) ∧ Below w.heap.size w w' := by
  have z1 : ∀ w, (zeroValue 22).run Try.prog w = .ok (.agg (bytesV Z16)) w := (zero_of_info zero22e).1
  have z2 : ∀ w, (zeroValue 56).run Try.prog w = .ok (.agg (bytesV Z16)) w := (zero_of_info zero56).1
  have z3 : ∀ w, (zeroValue 93).run Try.prog w = .ok (.agg #[.nilFunc, .nilFunc, .nilFunc, .nilFunc]) w := (zero_of_info zero93).1
  have u1 : ∀ w, (Instr.build 93 #[(0, .func (.func 63) #[] #[]), (1, .func (.func 68) #[] #[]), (2, .func (.func 69) #[] #[]), (3, .func (.func 70) #[] #[])]).run Try.prog w = .ok (.agg GV) w := fun w => run_build w 93 _ _ (by kernel_rfl)
  obtain ⟨V, hV⟩ : ∃ V, V = GV := ⟨_, rfl⟩
  have hVs := Lib.hid (show V.size = 4 by rw [hV]; rfl)
  have hV1 := Lib.hid (show V.all (·.oneCell') = true by rw [hV]; kernel_rfl)
  have hf0 : Hid (∀ w, (Instr.index 93 (.agg V) (.int .i64 0)).run Try.prog w = .ok (.func (.func 63) #[] #[]) w) := by rw [hV]; exact gv_0
  have hf1 : Hid (∀ w, (Instr.index 93 (.agg V) (.int .i64 1)).run Try.prog w = .ok (.func (.func 68) #[] #[]) w) := by rw [hV]; exact gv_1
  have hf2 : Hid (∀ w, (Instr.index 93 (.agg V) (.int .i64 2)).run Try.prog w = .ok (.func (.func 69) #[] #[]) w) := by rw [hV]; exact gv_2
  have hf3 : Hid (∀ w, (Instr.index 93 (.agg V) (.int .i64 3)).run Try.prog w = .ok (.func (.func 70) #[] #[]) w) := by rw [hV]; exact gv_3
  rw [← hV] at u1
  clear hV
  have b3 : Blk ((w.alloc (.cells (bytesV l) 22)).alloc (.cells (bytesV Z16) 22)) w.heap.size (bytesV l) 22 := (Blk.new' rfl).alloc _
  have b4 : Blk ((w.alloc (.cells (bytesV l) 22)).alloc (.cells (bytesV Z16) 22)) (w.heap.size + 1) (bytesV Z16) 22 := Blk.new' (by simp)
  have hB : Below w.heap.size w ((w.alloc (.cells (bytesV l) 22)).alloc (.cells (bytesV Z16) 22)) := ((Below.refl _ _).alloc (Nat.le_refl _) _).alloc (by simp) _
  have hp' : Recv ((w.alloc (.cells (bytesV l) 22)).alloc (.cells (bytesV Z16) 22)) p K := hp.below hB
  clear hp
  go_enter Try.func42, Try.ntmps42
  go_wp2_with (first
    | (go_at_call 62; refine (own_recv p K _ hp').mono ?_; rintro e w2 ⟨bC, rfl, hC, hb1⟩; replace b3 := b3.below hb1 b3.lt; replace b4 := b4.below hb1 b4.lt; replace hB := bnext hB hb1; have l4 := b4.lt; have lC := hC.lt; clear hb1 hp')
    | ((with_reducible refine wpList_load_blk rfl 22 (.tmp 3) rfl w.heap.size 0 16 rfl b3 row22 ?_ (bytesV l) ?_ ?_); (rw [bytesV_size, hl]; exact Nat.le_refl _); (exact bytesV_whole _ _ hl))
    | ((with_reducible refine wpList_store_blk rfl 56 (.tmp 5) (.tmp 12) rfl w2.heap.size 0 16 (bytesV l) rfl rfl (C := bytesV Z16) (t := 56) ?_ row56 ?_ ?_ (bytesV_one _) ?_); (exact Blk.new' rfl); (rw [bytesV_size]; exact hl); (rw [bytesV_size]; decide); intro w3 b5 ho3; rw [splice_all _ _ (by rw [hl]; rfl)] at b5; replace b4 := (b4.alloc (.cells (bytesV Z16) 56)).only ho3 (by omega); replace hC := (hC.alloc (.cells (bytesV Z16) 56)).only ho3 (by omega); replace hB := below_only (hB.alloc hB.size (.cells (bytesV Z16) 56)) ho3 hB.size; have l5 := b5.lt; clear ho3)
    | ((with_reducible refine wpList_store_blk rfl 93 (.tmp 6) (.tmp 13) rfl w3.heap.size 0 4 V rfl rfl (C := #[.nilFunc, .nilFunc, .nilFunc, .nilFunc]) (t := 93) ?_ row93 ?_ ?_ hV1.out ?_); (exact Blk.new' rfl); (exact hVs.out); (decide); intro w4 b6 ho4))
  have e6 : splice #[.nilFunc, .nilFunc, .nilFunc, .nilFunc] 0 V.toList = V := by
    have h4 := hVs.out
    obtain ⟨vl⟩ := V
    match vl, h4 with
    | [a, b, c, d], _ => rfl
  rw [e6] at b6
  replace b4 := (b4.alloc (.cells #[.nilFunc, .nilFunc, .nilFunc, .nilFunc] 93)).only ho4 (by omega)
  replace b5 := (b5.alloc (.cells #[.nilFunc, .nilFunc, .nilFunc, .nilFunc] 93)).only ho4 (by omega)
  replace hC := (hC.alloc (.cells #[.nilFunc, .nilFunc, .nilFunc, .nilFunc] 93)).only ho4 (by omega)
  replace hB := below_only (hB.alloc hB.size (.cells #[.nilFunc, .nilFunc, .nilFunc, .nilFunc] 93)) ho4 hB.size
  have q0 : w.heap.size + 1 < w2.heap.size := by omega
  have q1 : w2.heap.size < w3.heap.size := by omega
  have q2 : bC < w2.heap.size := by omega
  obtain ⟨A4, hA4⟩ : ∃ A, A = w.heap.size + 1 := ⟨_, rfl⟩
  obtain ⟨A5, hA5⟩ : ∃ A, A = w2.heap.size := ⟨_, rfl⟩
  obtain ⟨A6, hA6⟩ : ∃ A, A = w3.heap.size := ⟨_, rfl⟩
  rw [← hA4] at b4 q0 ⊢
  rw [← hA5] at b5 q0 q1 q2 ⊢
  rw [← hA6] at b6 q1 ⊢
  have q3 : w.heap.size < A4 := by omega
  clear hA4 hA5 hA6 ho4 l4 lC l5 e6 z1 z2 z3 u1
  go_loopw [7] (fun t7 wr => ∃ n : Nat, n ≤ 10 ∧ t7 = .int .i64 ((10 - n : Nat) : Int) ∧ Blk wr A4 (bytesV Z16) 22 ∧ Blk wr A5 (bytesV (decR K l n)) 56 ∧ Blk wr A6 V 93 ∧ Blk wr bC (bytesV (cip K)) 59 ∧ Below w.heap.size w wr) (fun t _ => (intOf t).toNat)
  case atStart => exact ⟨0, by omega, rfl, b4, b5, b6, hC, hB⟩
  case round =>
    clear b4 b5 b6 hC hB
    obtain ⟨n, hn, rfl, b4, b5, b6, hC, hB⟩ := hrel
    by_cases hlt : n < 10
    · obtain ⟨m, hm⟩ : ∃ m, m = 10 - n := ⟨_, rfl⟩
      have hm1 : 1 ≤ m := by omega
      have hm2 : m ≤ 10 := by omega
      have k1 : (1 : Int) ≤ (m : Int) := by omega
      have hm3 := Lib.hid hm
      rw [← hm]
      clear hm
      go_wp2_with (first
        | ((with_reducible refine wpList_load_blk rfl 93 (.tmp 6) rfl A6 0 4 rfl b6 row93 ?_ V ?_ ?_); (rw [hVs.out]; exact Nat.le_refl _); (rw [← hVs.out]; simp)))
      go_loopw [19] (fun t19 wr => ∃ k : Nat, k ≤ 4 ∧ t19 = .int .i64 k ∧ Blk wr A4 (bytesV Z16) 22 ∧ Blk wr A5 (bytesV (decPart K m (decR K l n) k)) 56 ∧ Blk wr A6 V 93 ∧ Blk wr bC (bytesV (cip K)) 59 ∧ Below w.heap.size w wr) (fun t _ => 4 - (intOf t).toNat)
      case atStart => exact ⟨0, by omega, rfl, b4, b5, b6, hC, hB⟩
      case round =>
        clear b4 b5 b6 hC hB
        obtain ⟨k, hk, rfl, b4, b5, b6, hC, hB⟩ := hrel
        by_cases hk4 : k < 4
        · have hk' : k = 0 ∨ k = 1 ∨ k = 2 ∨ k = 3 := by omega
          rcases hk' with rfl | rfl | rfl | rfl
          · have hf := hf0.out
            have hlk := (decPart_length K m (decR K l n) (decR_length K l hl n) 0)
            have hlk' := (decPart_length K m (decR K l n) (decR_length K l hl n) 1)
            obtain ⟨X, hX⟩ : ∃ X, X = decPart K m (decR K l n) 0 := ⟨_, rfl⟩
            obtain ⟨Y, hY⟩ : ∃ Y, Y = decPart K m (decR K l n) 1 := ⟨_, rfl⟩
            rw [← hX] at b5 hlk
            rw [← hY] at hlk'
            have hct : ∀ w, Blk w bC (bytesV (cip K)) 59 → Calls Try.prog 63 #[.pointer (some ⟨bC, 0, none⟩), .agg (bytesV X), .int .i64 (m : Int)] w fun e w' => e = .returned (.agg (bytesV Y)) ∧ Below w.heap.size w w' := fun w hC => by
              rw [hX, hY]; exact addS_any K hK m hm2 _ (decPart_length K m (decR K l n) (decR_length K l hl n) 0) bC w hC
            have HX := Lib.hid hX
            have HY := Lib.hid hY
            replace hct := Lib.hid hct
            clear hX hY
            go_wp2_with (first
              | ((with_reducible refine wpList_load_blk rfl 56 (.tmp 5) rfl A5 0 16 rfl b5 row56 ?_ (bytesV X) ?_ ?_); (rw [bytesV_size, hlk]; exact Nat.le_refl _); (exact bytesV_whole _ _ hlk))
              | (go_at_call 63; (with_reducible refine (hct.out _ hC).mono ?_); rintro e w7 ⟨rfl, hb1⟩; replace b4 := b4.below hb1 b4.lt; replace b5 := b5.below hb1 b5.lt; replace b6 := b6.below hb1 b6.lt; replace hC := hC.below hb1 hC.lt; replace hB := bnext hB hb1; clear hb1)
              | ((with_reducible refine wpList_store_blk rfl 56 (.tmp 5) (.tmp 26) rfl A5 0 16 (bytesV Y) rfl rfl b5 row56 ?_ ?_ (bytesV_one _) ?_); (rw [bytesV_size, hlk']); (rw [bytesV_size, hlk]; exact Nat.le_refl _); intro w8 c5 ho8; rw [splice_all _ _ (by rw [hlk, hlk'])] at c5))
            rw [HY.out] at c5
            exact ⟨⟨1, by omega, by go_num, b4.only ho8 (by omega), c5, b6.only ho8 (by omega), hC.only ho8 (by omega), below_only hB ho8 (by omega)⟩, by simp [intOf]⟩
          · have hf := hf1.out
            have hlk := (decPart_length K m (decR K l n) (decR_length K l hl n) 1)
            have hlk' := (decPart_length K m (decR K l n) (decR_length K l hl n) 2)
            obtain ⟨X, hX⟩ : ∃ X, X = decPart K m (decR K l n) 1 := ⟨_, rfl⟩
            obtain ⟨Y, hY⟩ : ∃ Y, Y = decPart K m (decR K l n) 2 := ⟨_, rfl⟩
            rw [← hX] at b5 hlk
            rw [← hY] at hlk'
            have hct : ∀ w, Blk w bC (bytesV (cip K)) 59 → Calls Try.prog 68 #[.pointer (some ⟨bC, 0, none⟩), .agg (bytesV X), .int .i64 (m : Int)] w fun e w' => e = .returned (.agg (bytesV Y)) ∧ Below w.heap.size w w' := fun w hC => by
              rw [hX, hY]; exact unmixS_any _ m _ (decPart_length K m (decR K l n) (decR_length K l hl n) 1) w
            have HX := Lib.hid hX
            have HY := Lib.hid hY
            replace hct := Lib.hid hct
            clear hX hY
            go_wp2_with (first
              | ((with_reducible refine wpList_load_blk rfl 56 (.tmp 5) rfl A5 0 16 rfl b5 row56 ?_ (bytesV X) ?_ ?_); (rw [bytesV_size, hlk]; exact Nat.le_refl _); (exact bytesV_whole _ _ hlk))
              | (go_at_call 68; (with_reducible refine (hct.out _ hC).mono ?_); rintro e w7 ⟨rfl, hb1⟩; replace b4 := b4.below hb1 b4.lt; replace b5 := b5.below hb1 b5.lt; replace b6 := b6.below hb1 b6.lt; replace hC := hC.below hb1 hC.lt; replace hB := bnext hB hb1; clear hb1)
              | ((with_reducible refine wpList_store_blk rfl 56 (.tmp 5) (.tmp 26) rfl A5 0 16 (bytesV Y) rfl rfl b5 row56 ?_ ?_ (bytesV_one _) ?_); (rw [bytesV_size, hlk']); (rw [bytesV_size, hlk]; exact Nat.le_refl _); intro w8 c5 ho8; rw [splice_all _ _ (by rw [hlk, hlk'])] at c5))
            rw [HY.out] at c5
            exact ⟨⟨2, by omega, by go_num, b4.only ho8 (by omega), c5, b6.only ho8 (by omega), hC.only ho8 (by omega), below_only hB ho8 (by omega)⟩, by simp [intOf]⟩
          · have hf := hf2.out
            have hlk := (decPart_length K m (decR K l n) (decR_length K l hl n) 2)
            have hlk' := (decPart_length K m (decR K l n) (decR_length K l hl n) 3)
            obtain ⟨X, hX⟩ : ∃ X, X = decPart K m (decR K l n) 2 := ⟨_, rfl⟩
            obtain ⟨Y, hY⟩ : ∃ Y, Y = decPart K m (decR K l n) 3 := ⟨_, rfl⟩
            rw [← hX] at b5 hlk
            rw [← hY] at hlk'
            have hct : ∀ w, Blk w bC (bytesV (cip K)) 59 → Calls Try.prog 69 #[.pointer (some ⟨bC, 0, none⟩), .agg (bytesV X), .int .i64 (m : Int)] w fun e w' => e = .returned (.agg (bytesV Y)) ∧ Below w.heap.size w w' := fun w hC => by
              rw [hX, hY]; exact unshiftS_any _ _ _ (decPart_length K m (decR K l n) (decR_length K l hl n) 2) w
            have HX := Lib.hid hX
            have HY := Lib.hid hY
            replace hct := Lib.hid hct
            clear hX hY
            go_wp2_with (first
              | ((with_reducible refine wpList_load_blk rfl 56 (.tmp 5) rfl A5 0 16 rfl b5 row56 ?_ (bytesV X) ?_ ?_); (rw [bytesV_size, hlk]; exact Nat.le_refl _); (exact bytesV_whole _ _ hlk))
              | (go_at_call 69; (with_reducible refine (hct.out _ hC).mono ?_); rintro e w7 ⟨rfl, hb1⟩; replace b4 := b4.below hb1 b4.lt; replace b5 := b5.below hb1 b5.lt; replace b6 := b6.below hb1 b6.lt; replace hC := hC.below hb1 hC.lt; replace hB := bnext hB hb1; clear hb1)
              | ((with_reducible refine wpList_store_blk rfl 56 (.tmp 5) (.tmp 26) rfl A5 0 16 (bytesV Y) rfl rfl b5 row56 ?_ ?_ (bytesV_one _) ?_); (rw [bytesV_size, hlk']); (rw [bytesV_size, hlk]; exact Nat.le_refl _); intro w8 c5 ho8; rw [splice_all _ _ (by rw [hlk, hlk'])] at c5))
            rw [HY.out] at c5
            exact ⟨⟨3, by omega, by go_num, b4.only ho8 (by omega), c5, b6.only ho8 (by omega), hC.only ho8 (by omega), below_only hB ho8 (by omega)⟩, by simp [intOf]⟩
          · have hf := hf3.out
            have hlk := (decPart_length K m (decR K l n) (decR_length K l hl n) 3)
            have hlk' := (decPart_length K m (decR K l n) (decR_length K l hl n) 4)
            obtain ⟨X, hX⟩ : ∃ X, X = decPart K m (decR K l n) 3 := ⟨_, rfl⟩
            obtain ⟨Y, hY⟩ : ∃ Y, Y = decPart K m (decR K l n) 4 := ⟨_, rfl⟩
            rw [← hX] at b5 hlk
            rw [← hY] at hlk'
            have hct : ∀ w, Blk w bC (bytesV (cip K)) 59 → Calls Try.prog 70 #[.pointer (some ⟨bC, 0, none⟩), .agg (bytesV X), .int .i64 (m : Int)] w fun e w' => e = .returned (.agg (bytesV Y)) ∧ Below w.heap.size w w' := fun w hC => by
              rw [hX, hY]; exact unsubS_any K _ _ (decPart_length K m (decR K l n) (decR_length K l hl n) 3) bC w hC
            have HX := Lib.hid hX
            have HY := Lib.hid hY
            replace hct := Lib.hid hct
            clear hX hY
            go_wp2_with (first
              | ((with_reducible refine wpList_load_blk rfl 56 (.tmp 5) rfl A5 0 16 rfl b5 row56 ?_ (bytesV X) ?_ ?_); (rw [bytesV_size, hlk]; exact Nat.le_refl _); (exact bytesV_whole _ _ hlk))
              | (go_at_call 70; (with_reducible refine (hct.out _ hC).mono ?_); rintro e w7 ⟨rfl, hb1⟩; replace b4 := b4.below hb1 b4.lt; replace b5 := b5.below hb1 b5.lt; replace b6 := b6.below hb1 b6.lt; replace hC := hC.below hb1 hC.lt; replace hB := bnext hB hb1; clear hb1)
              | ((with_reducible refine wpList_store_blk rfl 56 (.tmp 5) (.tmp 26) rfl A5 0 16 (bytesV Y) rfl rfl b5 row56 ?_ ?_ (bytesV_one _) ?_); (rw [bytesV_size, hlk']); (rw [bytesV_size, hlk]; exact Nat.le_refl _); intro w8 c5 ho8; rw [splice_all _ _ (by rw [hlk, hlk'])] at c5))
            rw [HY.out] at c5
            exact ⟨⟨4, by omega, by go_num, b4.only ho8 (by omega), c5, b6.only ho8 (by omega), hC.only ho8 (by omega), below_only hB ho8 (by omega)⟩, by simp [intOf]⟩
        · obtain rfl : k = 4 := by omega
          go_wp2
          have e5 : decPart K m (decR K l n) 4 = decR K l (n + 1) := by rw [hm3.out]; rfl
          rw [e5] at b5
          exact ⟨⟨n + 1, by omega, by have := hm3.out; congr 1; omega, b4, b5, b6, hC, hB⟩, by simp [intOf]; omega⟩
    · obtain rfl : n = 10 := by omega
      obtain ⟨X, hX⟩ : ∃ X, X = decR K l 10 := ⟨_, rfl⟩
      obtain ⟨Y, hY⟩ : ∃ Y, Y = addL K 0 X := ⟨_, rfl⟩
      have hl5 : X.length = 16 := by rw [hX, decR_length K l hl]
      have hl6 : Y.length = 16 := by rw [hY, addL, eachL_length]
      have HD := Lib.hid (show decF K l = Y by rw [decF, ← hX, ← hY])
      rw [← hX] at b5
      have HX := Lib.hid hX
      have HY := Lib.hid hY
      clear hX hY
      go_wp2_with (first
        | ((with_reducible refine wpList_load_blk rfl 56 (.tmp 5) rfl A5 0 16 rfl b5 row56 ?_ (bytesV X) ?_ ?_); (rw [bytesV_size, hl5]; exact Nat.le_refl _); (exact bytesV_whole _ _ hl5))
        | (go_at_call 63; refine (addS_any K hK 0 (by omega) X hl5 bC _ hC).mono ?_; rintro e w7 ⟨rfl, hb1⟩; rw [← HY.out]; replace b4 := b4.below hb1 b4.lt; replace hB := bnext hB hb1; clear hb1)
        | ((with_reducible refine wpList_store_blk rfl 22 (.tmp 4) (.tmp 30) rfl A4 0 16 (bytesV Y) rfl rfl b4 row22 ?_ ?_ (bytesV_one _) ?_); (rw [bytesV_size, hl6]); (rw [bytesV_size]; decide); intro w8 c4 ho8; rw [splice_all _ _ (by rw [hl6]; rfl)] at c4))
      refine bodyPost_ret (results_blk rfl _ _ _ (bytesV Y) 22 16 rfl c4 row22 (by rw [bytesV_size, hl6])) rfl ?_
      exact ⟨by rw [HD.out], below_only hB ho8 (by omega)⟩
end Go.Proofs.Ytdgmahgidmjniaa
