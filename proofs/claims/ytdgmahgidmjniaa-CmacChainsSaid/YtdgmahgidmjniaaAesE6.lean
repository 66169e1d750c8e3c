/-
  AES: a cipher's own; encryption.
-/
import Derived.Test.YtdgmahgidmjniaaAesE5
namespace Go.Proofs.Ytdgmahgidmjniaa
open Go.RowKit
attribute [-go_sem] Instr.build

/-- The round keys of the zero key. -/
def K0 : List UInt8 := ksL Z16 160
theorem K0_length : K0.length = 176 := ksL_length Z16 rfl 160
theorem zero22e : (Try.prog.info? 22).map (fun i => (i.zero, i.size)) = some (some (.agg (bytesV Z16)), 16) := by kernel_rfl

theorem sbox_zero : gd (stF 255) 0 = 99 := by
  have := stF_table
  rw [this]; decide +kernel
set_option maxRecDepth 100000 in
theorem own_any (K : List UInt8) (bC : Nat) (w : World) (hC : Blk w bC (bytesV (cip K)) 59) :
    Calls Try.prog 62 #[.pointer (some ⟨bC, 0, none⟩)] w fun e w' => e = .returned (.pointer (some ⟨bC, 0, none⟩)) ∧ w = w' := by
  have c0 : w.cell? ⟨bC, 0, none⟩ = some (.int .u8 99) := by
    have := hC.gd 0 (by rw [cip, List.length_append, stF_length]; omega)
    rw [cip, gd_append_left _ _ _ (by rw [stF_length]; omega), sbox_zero] at this
    exact this
  go_enter Try.func62, Try.ntmps62
  go_wp2
  go_ret
  exact ⟨rfl, rfl⟩
theorem new_zero (w : World) : Calls Try.prog 39 #[.agg (bytesV Z16)] w fun e w' => ∃ b, e = .returned (.pointer (some ⟨b, 0, none⟩)) ∧ Blk w' b (bytesV (cip K0)) 59 ∧ Below w.heap.size w w' := by
  unfold K0
  exact new_any Z16 List.length_replicate w
set_option maxRecDepth 100000 in
theorem nilOrZero (p : Value) (w : World) (h : p = .pointer none ∨ ∃ b, p = .pointer (some ⟨b, 0, none⟩) ∧ Blk w b (bytesV Z688) 59) :
    Calls Try.prog 62 #[p] w fun e w' => ∃ b, e = .returned (.pointer (some ⟨b, 0, none⟩)) ∧ Blk w' b (bytesV (cip K0)) 59 ∧ Below w.heap.size w w' := by
  have u1 : ∀ w, (Instr.build 22 #[]).run Try.prog w = .ok (.agg (bytesV Z16)) w := fun w => run_build w 22 _ _ (by kernel_rfl)
  rcases h with rfl | ⟨b, rfl, hb⟩
  · go_enter Try.func62, Try.ntmps62
    go_wp2_with (first
      | (go_at_call 39; refine (new_zero _).mono ?_; rintro e w2 ⟨b, rfl, h1, h2⟩))
    go_ret
    exact ⟨_, rfl, h1, h2⟩
  · have c0 : w.cell? ⟨b, 0, none⟩ = some (.int .u8 0) := by
      have := hb.gd 0 (by rw [Z688, List.length_replicate]; omega)
      rw [Z688, gd_replicate] at this
      exact this
    go_enter Try.func62, Try.ntmps62
    go_wp2_with (first
      | (go_at_call 39; refine (new_zero _).mono ?_; rintro e w2 ⟨b, rfl, h1, h2⟩))
    go_ret
    exact ⟨_, rfl, h1, h2⟩

/-- A receiver whose round keys are K: a cipher, or (for the zero key) nil or a zero cipher. -/
def Recv (w : World) (p : Value) (K : List UInt8) : Prop :=
  (∃ b, p = .pointer (some ⟨b, 0, none⟩) ∧ Blk w b (bytesV (cip K)) 59) ∨ (K = K0 ∧ (p = .pointer none ∨ ∃ b, p = .pointer (some ⟨b, 0, none⟩) ∧ Blk w b (bytesV Z688) 59))
theorem Recv.below {w w' : World} {p : Value} {K : List UInt8} (h : Recv w p K) (hb : Below w.heap.size w w') : Recv w' p K := by
  rcases h with ⟨b, hp, h⟩ | ⟨hK, hp | ⟨b, hp, h⟩⟩
  · exact .inl ⟨b, hp, h.below hb h.lt⟩
  · exact .inr ⟨hK, .inl hp⟩
  · exact .inr ⟨hK, .inr ⟨b, hp, h.below hb h.lt⟩⟩
theorem own_recv (p : Value) (K : List UInt8) (w : World) (h : Recv w p K) :
    Calls Try.prog 62 #[p] w fun e w' => ∃ b, e = .returned (.pointer (some ⟨b, 0, none⟩)) ∧ Blk w' b (bytesV (cip K)) 59 ∧ Below w.heap.size w w' := by
  rcases h with ⟨b, hp, h⟩ | ⟨hK, h⟩
  · rw [hp]
    exact (own_any K b w h).mono fun e w' ⟨he, hw⟩ => ⟨b, he, hw ▸ h, hw ▸ Below.refl _ _⟩
  · rw [hK]
    exact nilOrZero p w h

def encPart (K : List UInt8) (n : Nat) (b : List UInt8) : Nat → List UInt8
  | 0 => b
  | 1 => subL b
  | 2 => shiftL (subL b)
  | 3 => mixN F1 n (shiftL (subL b))
  | _ => addL K n (mixN F1 n (shiftL (subL b)))
def encR (K l : List UInt8) : Nat → List UInt8
  | 0 => addL K 0 l
  | n + 1 => encPart K (n + 1) (encR K l n) 4
set_option maxRecDepth 100000 in
theorem encPart_length (K : List UInt8) (n : Nat) (b : List UInt8) (hb : b.length = 16) (k : Nat) : (encPart K n b k).length = 16 := by
  match k with
  | 0 => exact hb
  | 1 =>
    show (subL b).length = 16
    rw [subL, eachL_length]
  | 2 =>
    show (shiftL (subL b)).length = 16
    rw [shiftL, eachL_length]
  | 3 =>
    show (mixN F1 n (shiftL (subL b))).length = 16
    exact mixN_length _ _ _ (by rw [shiftL, eachL_length])
  | k + 4 =>
    show (addL K n (mixN F1 n (shiftL (subL b)))).length = 16
    rw [addL, eachL_length]
set_option maxRecDepth 100000 in
theorem encR_length (K l : List UInt8) (n : Nat) : (encR K l n).length = 16 := by
  induction n with
  | zero => exact eachL_length (addG K 0) l
  | succ n ih => exact encPart_length K (n + 1) _ ih 4
def FV : Array Value := #[.func (.func 64) #[] #[], .func (.func 65) #[] #[], .func (.func 66) #[] #[], .func (.func 63) #[] #[]]
theorem row93 : RowTy Try.prog 93 4 := ⟨⟨_, Try.underlying93, rfl⟩, by kernel_rfl⟩
theorem zero93 : (Try.prog.info? 93).map (fun i => (i.zero, i.size)) = some (some (.agg #[.nilFunc, .nilFunc, .nilFunc, .nilFunc]), 4) := by kernel_rfl
theorem fv_0 (w : World) : (Instr.index 93 (.agg FV) (.int .i64 0)).run Try.prog w = .ok (.func (.func 64) #[] #[]) w := by kernel_rfl
theorem fv_1 (w : World) : (Instr.index 93 (.agg FV) (.int .i64 1)).run Try.prog w = .ok (.func (.func 65) #[] #[]) w := by kernel_rfl
theorem fv_2 (w : World) : (Instr.index 93 (.agg FV) (.int .i64 2)).run Try.prog w = .ok (.func (.func 66) #[] #[]) w := by kernel_rfl
theorem fv_3 (w : World) : (Instr.index 93 (.agg FV) (.int .i64 3)).run Try.prog w = .ok (.func (.func 63) #[] #[]) w := by kernel_rfl

set_option maxRecDepth 100000 in
set_option maxHeartbeats 8000000 in
theorem encrypt_any (K : List UInt8) (hK : K.length = 176) (l : List UInt8) (hl : l.length = 16) (p : Value) (w : World) (hp : Recv w p K) :
    Calls Try.prog 40 #[p, .agg (bytesV l)] w fun e w' => e = .returned (.agg (bytesV (encR K l 10))) ∧ Below w.heap.size w w' := by
  have z1 : ∀ w, (zeroValue 22).run Try.prog w = .ok (.agg (bytesV Z16)) w := (zero_of_info zero22e).1
  have z2 : ∀ w, (zeroValue 56).run Try.prog w = .ok (.agg (bytesV Z16)) w := (zero_of_info zero56).1
  have z3 : ∀ w, (zeroValue 93).run Try.prog w = .ok (.agg #[.nilFunc, .nilFunc, .nilFunc, .nilFunc]) w := (zero_of_info zero93).1
  have u1 : ∀ w, (Instr.build 93 #[(0, .func (.func 64) #[] #[]), (1, .func (.func 65) #[] #[]), (2, .func (.func 66) #[] #[]), (3, .func (.func 63) #[] #[])]).run Try.prog w = .ok (.agg FV) w := fun w => run_build w 93 _ _ (by kernel_rfl)
  obtain ⟨V, hV⟩ : ∃ V, V = FV := ⟨_, rfl⟩
  have hVs := Lib.hid (show V.size = 4 by rw [hV]; rfl)
  have hV1 := Lib.hid (show V.all (·.oneCell') = true by rw [hV]; kernel_rfl)
  have hf0 : Hid (∀ w, (Instr.index 93 (.agg V) (.int .i64 0)).run Try.prog w = .ok (.func (.func 64) #[] #[]) w) := by rw [hV]; exact fv_0
  have hf1 : Hid (∀ w, (Instr.index 93 (.agg V) (.int .i64 1)).run Try.prog w = .ok (.func (.func 65) #[] #[]) w) := by rw [hV]; exact fv_1
  have hf2 : Hid (∀ w, (Instr.index 93 (.agg V) (.int .i64 2)).run Try.prog w = .ok (.func (.func 66) #[] #[]) w) := by rw [hV]; exact fv_2
  have hf3 : Hid (∀ w, (Instr.index 93 (.agg V) (.int .i64 3)).run Try.prog w = .ok (.func (.func 63) #[] #[]) w) := by rw [hV]; exact fv_3
  rw [← hV] at u1
  clear hV
  have b3 : Blk ((w.alloc (.cells (bytesV l) 22)).alloc (.cells (bytesV Z16) 22)) w.heap.size (bytesV l) 22 := (Blk.new' rfl).alloc _
  have b4 : Blk ((w.alloc (.cells (bytesV l) 22)).alloc (.cells (bytesV Z16) 22)) (w.heap.size + 1) (bytesV Z16) 22 := Blk.new' (by simp)
  have hB : Below w.heap.size w ((w.alloc (.cells (bytesV l) 22)).alloc (.cells (bytesV Z16) 22)) := ((Below.refl _ _).alloc (Nat.le_refl _) _).alloc (by simp) _
  have hp' : Recv ((w.alloc (.cells (bytesV l) 22)).alloc (.cells (bytesV Z16) 22)) p K := hp.below hB
  clear hp
  go_enter Try.func40, Try.ntmps40
  go_wp2_with (first
    | (go_at_call 62; refine (own_recv p K _ hp').mono ?_; rintro e w1 ⟨bC, rfl, hC, hb1⟩; replace b3 := b3.below hb1 b3.lt; replace b4 := b4.below hb1 b4.lt; replace hB := bnext hB hb1; clear hb1 hp')
    | ((with_reducible refine wpList_load_blk rfl 22 (.tmp 3) rfl w.heap.size 0 16 rfl b3 row22 ?_ (bytesV l) ?_ ?_); (rw [bytesV_size, hl]; exact Nat.le_refl _); (exact bytesV_whole _ _ hl))
    | (go_at_call 63; refine (addS_any K hK 0 (by omega) l hl bC _ hC).mono ?_; rintro e w2 ⟨rfl, hb1⟩; replace b4 := b4.below hb1 b4.lt; replace hC := hC.below hb1 hC.lt; replace hB := bnext hB hb1; have l4 := b4.lt; have lC := hC.lt; clear hb1 b3)
    | ((with_reducible refine wpList_store_blk rfl 56 (.tmp 5) (.tmp 14) rfl w2.heap.size 0 16 (bytesV (addL K 0 l)) rfl rfl (C := bytesV Z16) (t := 56) ?_ row56 ?_ ?_ (bytesV_one _) ?_); (exact Blk.new' rfl); (rw [bytesV_size]; exact eachL_length _ _); (rw [bytesV_size]; decide); intro w3 b5 ho3; rw [splice_all _ _ (by rw [addL, eachL_length]; rfl)] at b5; replace b4 := (b4.alloc (.cells (bytesV Z16) 56)).only ho3 (by omega); replace hC := (hC.alloc (.cells (bytesV Z16) 56)).only ho3 (by omega); replace hB := below_only (hB.alloc hB.size (.cells (bytesV Z16) 56)) ho3 hB.size; have l5 := b5.lt; clear ho3)
    | ((with_reducible refine wpList_store_blk rfl 93 (.tmp 6) (.tmp 15) rfl w3.heap.size 0 4 V rfl rfl (C := #[.nilFunc, .nilFunc, .nilFunc, .nilFunc]) (t := 93) ?_ row93 ?_ ?_ hV1.out ?_); (exact Blk.new' rfl); (exact hVs.out); (decide); intro w4 b6 ho4))
  have e6 : splice #[.nilFunc, .nilFunc, .nilFunc, .nilFunc] 0 V.toList = V := by
    have h4 := hVs.out
    obtain ⟨vl⟩ := V
    match vl, h4 with
    | [a, b, c, d], _ => rfl
  rw [e6] at b6
  replace b4 := (b4.alloc (.cells #[.nilFunc, .nilFunc, .nilFunc, .nilFunc] 93)).only ho4 (by omega)
  replace b5 := (b5.alloc (.cells #[.nilFunc, .nilFunc, .nilFunc, .nilFunc] 93)).only ho4 (by omega)
  replace hC := (hC.alloc (.cells #[.nilFunc, .nilFunc, .nilFunc, .nilFunc] 93)).only ho4 (by omega)
  replace hB := below_only (hB.alloc hB.size (.cells #[.nilFunc, .nilFunc, .nilFunc, .nilFunc] 93)) ho4 hB.size
  have q0 : w.heap.size + 1 < w2.heap.size := by omega
  have q1 : w2.heap.size < w3.heap.size := by omega
  have q2 : bC < w2.heap.size := by omega
  obtain ⟨A4, hA4⟩ : ∃ A, A = w.heap.size + 1 := ⟨_, rfl⟩
  obtain ⟨A5, hA5⟩ : ∃ A, A = w2.heap.size := ⟨_, rfl⟩
  obtain ⟨A6, hA6⟩ : ∃ A, A = w3.heap.size := ⟨_, rfl⟩
  rw [← hA4] at b4 q0 ⊢
  rw [← hA5] at b5 q0 q1 q2 ⊢
  rw [← hA6] at b6 q1 ⊢
  have q3 : w.heap.size < A4 := by omega
  clear hA4 hA5 hA6 ho4 l4 lC l5 e6 z1 z2 z3 u1
  go_loopw [7] (fun t7 wr => ∃ n : Nat, n ≤ 10 ∧ t7 = .int .i64 ((n + 1 : Nat) : Int) ∧ Blk wr A4 (bytesV Z16) 22 ∧ Blk wr A5 (bytesV (encR K l n)) 56 ∧ Blk wr A6 V 93 ∧ Blk wr bC (bytesV (cip K)) 59 ∧ Below w.heap.size w wr) (fun t _ => 11 - (intOf t).toNat)
  case atStart => exact ⟨0, by omega, rfl, b4, b5, b6, hC, hB⟩
  case round =>
    clear b4 b5 b6 hC hB
    obtain ⟨n, hn, rfl, b4, b5, b6, hC, hB⟩ := hrel
    by_cases hlt : n < 10
    · have k1 : ((n + 1 : Nat) : Int) ≤ 10 := by omega
      go_wp2_with (first
        | ((with_reducible refine wpList_load_blk rfl 93 (.tmp 6) rfl A6 0 4 rfl b6 row93 ?_ V ?_ ?_); (rw [hVs.out]; exact Nat.le_refl _); (rw [← hVs.out]; simp)))
      go_loopw [21] (fun t21 wr => ∃ k : Nat, k ≤ 4 ∧ t21 = .int .i64 k ∧ Blk wr A4 (bytesV Z16) 22 ∧ Blk wr A5 (bytesV (encPart K (n + 1) (encR K l n) k)) 56 ∧ Blk wr A6 V 93 ∧ Blk wr bC (bytesV (cip K)) 59 ∧ Below w.heap.size w wr) (fun t _ => 4 - (intOf t).toNat)
      case atStart => exact ⟨0, by omega, rfl, b4, b5, b6, hC, hB⟩
      case round =>
        clear b4 b5 b6 hC hB
        obtain ⟨k, hk, rfl, b4, b5, b6, hC, hB⟩ := hrel
        by_cases hk4 : k < 4
        · have hk' : k = 0 ∨ k = 1 ∨ k = 2 ∨ k = 3 := by omega
          rcases hk' with rfl | rfl | rfl | rfl
          · have hf := hf0.out
            have hlk := encPart_length K (n + 1) (encR K l n) (encR_length K l n) 0
            have hlk' := encPart_length K (n + 1) (encR K l n) (encR_length K l n) 1
            obtain ⟨X, hX⟩ : ∃ X, X = encPart K (n + 1) (encR K l n) 0 := ⟨_, rfl⟩
            obtain ⟨Y, hY⟩ : ∃ Y, Y = encPart K (n + 1) (encR K l n) 1 := ⟨_, rfl⟩
            rw [← hX] at b5 hlk
            rw [← hY] at hlk'
            have hct : ∀ w, Blk w bC (bytesV (cip K)) 59 → Calls Try.prog 64 #[.pointer (some ⟨bC, 0, none⟩), .agg (bytesV X), .int .i64 ((n : Int) + 1)] w fun e w' => e = .returned (.agg (bytesV Y)) ∧ Below w.heap.size w w' := fun w hC => by
              rw [hX, hY]; exact subS_any K _ _ (encPart_length K (n + 1) (encR K l n) (encR_length K l n) 0) bC w hC
            have HX := Lib.hid hX
            have HY := Lib.hid hY
            replace hct := Lib.hid hct
            clear hX hY
            go_wp2_with (first
              | ((with_reducible refine wpList_load_blk rfl 56 (.tmp 5) rfl A5 0 16 rfl b5 row56 ?_ (bytesV X) ?_ ?_); (rw [bytesV_size, hlk]; exact Nat.le_refl _); (exact bytesV_whole _ _ hlk))
              | (go_at_call 64; (with_reducible refine (hct.out _ hC).mono ?_); rintro e w7 ⟨rfl, hb1⟩; replace b4 := b4.below hb1 b4.lt; replace b5 := b5.below hb1 b5.lt; replace b6 := b6.below hb1 b6.lt; replace hC := hC.below hb1 hC.lt; replace hB := bnext hB hb1; clear hb1)
              | ((with_reducible refine wpList_store_blk rfl 56 (.tmp 5) (.tmp 28) rfl A5 0 16 (bytesV Y) rfl rfl b5 row56 ?_ ?_ (bytesV_one _) ?_); (rw [bytesV_size, hlk']); (rw [bytesV_size, hlk]; exact Nat.le_refl _); intro w8 c5 ho8; rw [splice_all _ _ (by rw [hlk, hlk'])] at c5))
            rw [HY.out] at c5
            exact ⟨⟨1, by omega, by go_num, b4.only ho8 (by omega), c5, b6.only ho8 (by omega), hC.only ho8 (by omega), below_only hB ho8 (by omega)⟩, by simp [intOf]⟩
          · have hf := hf1.out
            have hlk := encPart_length K (n + 1) (encR K l n) (encR_length K l n) 1
            have hlk' := encPart_length K (n + 1) (encR K l n) (encR_length K l n) 2
            obtain ⟨X, hX⟩ : ∃ X, X = encPart K (n + 1) (encR K l n) 1 := ⟨_, rfl⟩
            obtain ⟨Y, hY⟩ : ∃ Y, Y = encPart K (n + 1) (encR K l n) 2 := ⟨_, rfl⟩
            rw [← hX] at b5 hlk
            rw [← hY] at hlk'
            have hct : ∀ w, Blk w bC (bytesV (cip K)) 59 → Calls Try.prog 65 #[.pointer (some ⟨bC, 0, none⟩), .agg (bytesV X), .int .i64 ((n : Int) + 1)] w fun e w' => e = .returned (.agg (bytesV Y)) ∧ Below w.heap.size w w' := fun w hC => by
              rw [hX, hY]; exact shiftS_any _ _ _ (encPart_length K (n + 1) (encR K l n) (encR_length K l n) 1) w
            have HX := Lib.hid hX
            have HY := Lib.hid hY
            replace hct := Lib.hid hct
            clear hX hY
            go_wp2_with (first
              | ((with_reducible refine wpList_load_blk rfl 56 (.tmp 5) rfl A5 0 16 rfl b5 row56 ?_ (bytesV X) ?_ ?_); (rw [bytesV_size, hlk]; exact Nat.le_refl _); (exact bytesV_whole _ _ hlk))
              | (go_at_call 65; (with_reducible refine (hct.out _ hC).mono ?_); rintro e w7 ⟨rfl, hb1⟩; replace b4 := b4.below hb1 b4.lt; replace b5 := b5.below hb1 b5.lt; replace b6 := b6.below hb1 b6.lt; replace hC := hC.below hb1 hC.lt; replace hB := bnext hB hb1; clear hb1)
              | ((with_reducible refine wpList_store_blk rfl 56 (.tmp 5) (.tmp 28) rfl A5 0 16 (bytesV Y) rfl rfl b5 row56 ?_ ?_ (bytesV_one _) ?_); (rw [bytesV_size, hlk']); (rw [bytesV_size, hlk]; exact Nat.le_refl _); intro w8 c5 ho8; rw [splice_all _ _ (by rw [hlk, hlk'])] at c5))
            rw [HY.out] at c5
            exact ⟨⟨2, by omega, by go_num, b4.only ho8 (by omega), c5, b6.only ho8 (by omega), hC.only ho8 (by omega), below_only hB ho8 (by omega)⟩, by simp [intOf]⟩
          · have hf := hf2.out
            have hlk := encPart_length K (n + 1) (encR K l n) (encR_length K l n) 2
            have hlk' := encPart_length K (n + 1) (encR K l n) (encR_length K l n) 3
            obtain ⟨X, hX⟩ : ∃ X, X = encPart K (n + 1) (encR K l n) 2 := ⟨_, rfl⟩
            obtain ⟨Y, hY⟩ : ∃ Y, Y = encPart K (n + 1) (encR K l n) 3 := ⟨_, rfl⟩
            rw [← hX] at b5 hlk
            rw [← hY] at hlk'
            have hct : ∀ w, Blk w bC (bytesV (cip K)) 59 → Calls Try.prog 66 #[.pointer (some ⟨bC, 0, none⟩), .agg (bytesV X), .int .i64 ((n : Int) + 1)] w fun e w' => e = .returned (.agg (bytesV Y)) ∧ Below w.heap.size w w' := fun w hC => by
              rw [hX, hY]; exact mixS_any _ (n + 1) _ (encPart_length K (n + 1) (encR K l n) (encR_length K l n) 2) w
            have HX := Lib.hid hX
            have HY := Lib.hid hY
            replace hct := Lib.hid hct
            clear hX hY
            go_wp2_with (first
              | ((with_reducible refine wpList_load_blk rfl 56 (.tmp 5) rfl A5 0 16 rfl b5 row56 ?_ (bytesV X) ?_ ?_); (rw [bytesV_size, hlk]; exact Nat.le_refl _); (exact bytesV_whole _ _ hlk))
              | (go_at_call 66; (with_reducible refine (hct.out _ hC).mono ?_); rintro e w7 ⟨rfl, hb1⟩; replace b4 := b4.below hb1 b4.lt; replace b5 := b5.below hb1 b5.lt; replace b6 := b6.below hb1 b6.lt; replace hC := hC.below hb1 hC.lt; replace hB := bnext hB hb1; clear hb1)
              | ((with_reducible refine wpList_store_blk rfl 56 (.tmp 5) (.tmp 28) rfl A5 0 16 (bytesV Y) rfl rfl b5 row56 ?_ ?_ (bytesV_one _) ?_); (rw [bytesV_size, hlk']); (rw [bytesV_size, hlk]; exact Nat.le_refl _); intro w8 c5 ho8; rw [splice_all _ _ (by rw [hlk, hlk'])] at c5))
            rw [HY.out] at c5
            exact ⟨⟨3, by omega, by go_num, b4.only ho8 (by omega), c5, b6.only ho8 (by omega), hC.only ho8 (by omega), below_only hB ho8 (by omega)⟩, by simp [intOf]⟩
          · have hf := hf3.out
            have hlk := encPart_length K (n + 1) (encR K l n) (encR_length K l n) 3
            have hlk' := encPart_length K (n + 1) (encR K l n) (encR_length K l n) 4
            obtain ⟨X, hX⟩ : ∃ X, X = encPart K (n + 1) (encR K l n) 3 := ⟨_, rfl⟩
            obtain ⟨Y, hY⟩ : ∃ Y, Y = encPart K (n + 1) (encR K l n) 4 := ⟨_, rfl⟩
            rw [← hX] at b5 hlk
            rw [← hY] at hlk'
            have hct : ∀ w, Blk w bC (bytesV (cip K)) 59 → Calls Try.prog 63 #[.pointer (some ⟨bC, 0, none⟩), .agg (bytesV X), .int .i64 ((n : Int) + 1)] w fun e w' => e = .returned (.agg (bytesV Y)) ∧ Below w.heap.size w w' := fun w hC => by
              rw [hX, hY]; exact addS_any K hK (n + 1) (by omega) _ (encPart_length K (n + 1) (encR K l n) (encR_length K l n) 3) bC w hC
            have HX := Lib.hid hX
            have HY := Lib.hid hY
            replace hct := Lib.hid hct
            clear hX hY
            go_wp2_with (first
              | ((with_reducible refine wpList_load_blk rfl 56 (.tmp 5) rfl A5 0 16 rfl b5 row56 ?_ (bytesV X) ?_ ?_); (rw [bytesV_size, hlk]; exact Nat.le_refl _); (exact bytesV_whole _ _ hlk))
              | (go_at_call 63; (with_reducible refine (hct.out _ hC).mono ?_); rintro e w7 ⟨rfl, hb1⟩; replace b4 := b4.below hb1 b4.lt; replace b5 := b5.below hb1 b5.lt; replace b6 := b6.below hb1 b6.lt; replace hC := hC.below hb1 hC.lt; replace hB := bnext hB hb1; clear hb1)
              | ((with_reducible refine wpList_store_blk rfl 56 (.tmp 5) (.tmp 28) rfl A5 0 16 (bytesV Y) rfl rfl b5 row56 ?_ ?_ (bytesV_one _) ?_); (rw [bytesV_size, hlk']); (rw [bytesV_size, hlk]; exact Nat.le_refl _); intro w8 c5 ho8; rw [splice_all _ _ (by rw [hlk, hlk'])] at c5))
            rw [HY.out] at c5
            exact ⟨⟨4, by omega, by go_num, b4.only ho8 (by omega), c5, b6.only ho8 (by omega), hC.only ho8 (by omega), below_only hB ho8 (by omega)⟩, by simp [intOf]⟩
        · obtain rfl : k = 4 := by omega
          go_wp2
          exact ⟨⟨n + 1, by omega, by go_num, b4, b5, b6, hC, hB⟩, by simp [intOf]; omega⟩
    · obtain rfl : n = 10 := by omega
      obtain ⟨X, hX⟩ : ∃ X, X = encR K l 10 := ⟨_, rfl⟩
      have hl5 : X.length = 16 := by rw [hX, encR_length]
      rw [← hX] at b5
      have HX := Lib.hid hX
      clear hX
      go_wp2_with (first
        | ((with_reducible refine wpList_load_blk rfl 56 (.tmp 5) rfl A5 0 16 rfl b5 row56 ?_ (bytesV X) ?_ ?_); (rw [bytesV_size, hl5]; exact Nat.le_refl _); (exact bytesV_whole _ _ hl5))
        | ((with_reducible refine wpList_store_blk rfl 22 (.tmp 4) (.tmp 30) rfl A4 0 16 (bytesV X) rfl rfl b4 row22 ?_ ?_ (bytesV_one _) ?_); (rw [bytesV_size, hl5]); (rw [bytesV_size]; decide); intro w8 c4 ho8; rw [splice_all _ _ (by rw [hl5]; rfl)] at c4))
      refine bodyPost_ret (results_blk rfl _ _ _ (bytesV X) 22 16 rfl c4 row22 (by rw [bytesV_size, hl5])) rfl ?_
      exact ⟨by rw [HX.out], below_only hB ho8 (by omega)⟩
end Go.Proofs.Ytdgmahgidmjniaa
