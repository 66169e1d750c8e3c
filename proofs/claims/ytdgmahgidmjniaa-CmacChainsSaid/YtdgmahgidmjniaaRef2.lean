/-
  AES, the reference's encryption, the round.
-/
import Derived.Test.YtdgmahgidmjniaaRef1
import Derived.Test.YtdgmahgidmjniaaCopy
namespace Go.Proofs.Ytdgmahgidmjniaa
open Go.RowKit

theorem xorL_row (K l : List UInt8) (n : Nat) : xorL l (rowK K n) = addL K n l := by
  apply ext_gd (by rw [xorL_length, addL_length])
  intro i hi
  rw [xorL_length] at hi
  rw [xorL_gd _ _ _ hi, addL, eachL_gd _ _ _ hi, addG, rowK, gd_take _ _ _ hi, gd_drop]
theorem ss_gd (b : List UInt8) (c r : Nat) (hc : c < 4) (hr : r < 4) : gd (shiftL (subL b)) (4 * c + r) = sbox (gd b (4 * ((c + r) % 4) + r)) := by
  rw [shiftL, eachL_gd _ _ _ (by omega), shG, subL, eachL_gd _ _ _ (Nat.mod_lt _ (by omega))]
  congr 2; omega
theorem one_gmul (a : UInt8) : gmul 1 a = a := by rw [gmul_comm, gmul_one]
theorem mm_gd (s : List UInt8) (c r : Nat) (hc : c < 4) (hr : r < 4) : gd (mixL F1 s) (4 * c + r) =
    x8 (x8 (x8 (gmul 2 (gd s (4 * c + r))) (gmul 3 (gd s (4 * c + (r + 1) % 4)))) (gd s (4 * c + (r + 2) % 4))) (gd s (4 * c + (r + 3) % 4)) := by
  have e : ∀ k, k < 4 → (4 * c + r) / 4 * 4 + ((4 * c + r) + k) % 4 = 4 * c + (r + k) % 4 := by intro k hk; omega
  have e0 : (r + 0) % 4 = r := by omega
  rw [mixL, eachL_gd _ _ _ (by omega), mixS_four, e 0 (by omega), e 1 (by omega), e 2 (by omega), e 3 (by omega), e0]
  show x8 (x8 (x8 (gmul 2 _) (gmul 3 _)) (gmul 1 _)) (gmul 1 _) = _
  rw [one_gmul, one_gmul]
theorem mm_0 (s : List UInt8) (c : Nat) (hc : c < 4) : gd (mixL F1 s) (4 * c) = x8 (x8 (x8 (gmul 2 (gd s (4 * c))) (gmul 3 (gd s (4 * c + 1)))) (gd s (4 * c + 2))) (gd s (4 * c + 3)) := mm_gd s c 0 hc (by omega)
theorem mm_1 (s : List UInt8) (c : Nat) (hc : c < 4) : gd (mixL F1 s) (4 * c + 1) = x8 (x8 (x8 (gd s (4 * c)) (gmul 2 (gd s (4 * c + 1)))) (gmul 3 (gd s (4 * c + 2)))) (gd s (4 * c + 3)) := by
  rw [mm_gd s c 1 hc (by omega)]
  show x8 (x8 (x8 _ _) _) (gd s (4 * c)) = _
  ac_rfl
theorem mm_2 (s : List UInt8) (c : Nat) (hc : c < 4) : gd (mixL F1 s) (4 * c + 2) = x8 (x8 (x8 (gd s (4 * c)) (gd s (4 * c + 1))) (gmul 2 (gd s (4 * c + 2)))) (gmul 3 (gd s (4 * c + 3))) := by
  rw [mm_gd s c 2 hc (by omega)]
  show x8 (x8 (x8 _ _) (gd s (4 * c))) (gd s (4 * c + 1)) = _
  ac_rfl
theorem mm_3 (s : List UInt8) (c : Nat) (hc : c < 4) : gd (mixL F1 s) (4 * c + 3) = x8 (x8 (x8 (gmul 3 (gd s (4 * c))) (gd s (4 * c + 1))) (gd s (4 * c + 2))) (gmul 2 (gd s (4 * c + 3))) := by
  rw [mm_gd s c 3 hc (by omega)]
  show x8 (x8 (x8 _ (gmul 3 (gd s (4 * c)))) (gd s (4 * c + 1))) (gd s (4 * c + 2)) = _
  ac_rfl
theorem refm2 (x : UInt8) (w : World) : Calls Try.prog 32 #[.int .u8 2, .int .u8 x.toNat] w fun e w' => e = .returned (.int .u8 (gmul 2 x).toNat) ∧ w = w' := refmul_any 2 x w
theorem refm3 (x : UInt8) (w : World) : Calls Try.prog 32 #[.int .u8 3, .int .u8 x.toNat] w fun e w' => e = .returned (.int .u8 (gmul 3 x).toNat) ∧ w = w' := refmul_any 3 x w

set_option maxRecDepth 100000 in
set_option maxHeartbeats 8000000 in
theorem refencrypt_any (key l : List UInt8) (hk : key.length = 16) (hl : l.length = 16) (w : World) :
    Calls Try.prog 41 #[.agg (bytesV key), .agg (bytesV l)] w fun e w' => e = .returned (.agg (bytesV (encR (ksL key 160) l 10))) ∧ Below w.heap.size w w' := by
  have z1 : ∀ w, (zeroValue 22).run Try.prog w = .ok (.agg (bytesV Z16)) w := (zero_of_info zero22e).1
  have z2 : ∀ w, (zeroValue 44).run Try.prog w = .ok (.agg (bytesV Z176)) w := (zero_of_info zero44).1
  have hx := bits_x8
  obtain ⟨K, hK⟩ : ∃ K, K = ksL key 160 := ⟨_, rfl⟩
  have hKl := Lib.hid (show K.length = 176 by rw [hK, ksL_length key hk])
  have HK := Lib.hid hK
  clear hK
  have b2 : Blk (((w.alloc (.cells (bytesV key) 22)).alloc (.cells (bytesV l) 22)).alloc (.cells (bytesV Z16) 22)) w.heap.size (bytesV key) 22 := ((Blk.new' rfl).alloc _).alloc _
  have b3 : Blk (((w.alloc (.cells (bytesV key) 22)).alloc (.cells (bytesV l) 22)).alloc (.cells (bytesV Z16) 22)) (w.heap.size + 1) (bytesV l) 22 := (Blk.new' (by simp)).alloc _
  have b4 : Blk (((w.alloc (.cells (bytesV key) 22)).alloc (.cells (bytesV l) 22)).alloc (.cells (bytesV Z16) 22)) (w.heap.size + 1 + 1) (bytesV Z16) 22 := Blk.new' (by simp)
  have hB : Below w.heap.size w (((w.alloc (.cells (bytesV key) 22)).alloc (.cells (bytesV l) 22)).alloc (.cells (bytesV Z16) 22)) := (((Below.refl _ _).alloc (Nat.le_refl _) _).alloc (by simp) _).alloc (by simp; omega) _
  go_enter Try.func41, Try.ntmps41
  go_wp2_with (first
    | ((with_reducible refine wpList_load_blk rfl 22 (.tmp 2) rfl w.heap.size 0 16 rfl b2 row22 ?_ (bytesV key) ?_ ?_); (rw [bytesV_size, hk]; exact Nat.le_refl _); (exact bytesV_whole _ _ hk))
    | (go_at_call 38; refine (refkeys_any key hk _).mono ?_; rintro e w2 ⟨rfl, hb1⟩; rw [← HK.out]; replace b3 := b3.below hb1 b3.lt; replace b4 := b4.below hb1 b4.lt; have l4 := b4.lt; replace hB := bnext hB hb1; clear hb1 b2)
    | ((with_reducible refine wpList_store_blk rfl 44 (.tmp 5) (.tmp 17) rfl w2.heap.size 0 176 (bytesV K) rfl rfl (C := bytesV Z176) (t := 44) ?_ row44 ?_ ?_ (bytesV_one _) ?_); (exact Blk.new' rfl); (rw [bytesV_size, hKl.out]); (rw [bytesV_size, Z176, List.length_replicate]; decide); intro w3 b5 ho3; rw [splice_all _ _ (by rw [hKl.out, Z176, List.length_replicate])] at b5; replace b3 := (b3.alloc (.cells (bytesV Z176) 44)).only ho3 (by omega); replace b4 := (b4.alloc (.cells (bytesV Z176) 44)).only ho3 (by omega); replace hB := below_only (hB.alloc hB.size (.cells (bytesV Z176) 44)) ho3 hB.size; have l5 := b5.lt; clear ho3)
    | ((with_reducible refine wpList_load_blk rfl 22 (.tmp 3) rfl (w.heap.size + 1) 0 16 rfl b3 row22 ?_ (bytesV l) ?_ ?_); (rw [bytesV_size, hl]; exact Nat.le_refl _); (exact bytesV_whole _ _ hl))
    | ((with_reducible refine wpList_load_blk rfl 22 (.tmp 19) rfl w2.heap.size 0 16 rfl b5 row22 ?_ (bytesV (rowK K 0)) ?_ ?_); (rw [bytesV_size, hKl.out]; decide); (rw [bytesV_extract]; rfl))
    | (go_at_call 67; refine (refadd_any l (rowK K 0) hl (rowK_length K hKl.out 0 (by omega)) _).mono ?_; rintro e w4 ⟨rfl, hb1⟩; rw [xorL_row K l 0]; replace b4 := b4.below hb1 b4.lt; replace b5 := b5.below hb1 b5.lt; have l6 := b5.lt; replace hB := bnext hB hb1; clear hb1 b3)
    | ((with_reducible refine wpList_store_blk rfl 22 (.tmp 6) (.tmp 21) rfl w4.heap.size 0 16 (bytesV (addL K 0 l)) rfl rfl (C := bytesV Z16) (t := 22) ?_ row22 ?_ ?_ (bytesV_one _) ?_); (exact Blk.new' rfl); (rw [bytesV_size, addL_length]); (rw [bytesV_size]; decide); intro w5 b6 ho3; rw [splice_all _ _ (by rw [addL_length]; rfl)] at b6; replace b4 := (b4.alloc (.cells (bytesV Z16) 22)).only ho3 (by omega); replace b5 := (b5.alloc (.cells (bytesV Z16) 22)).only ho3 (by omega); replace hB := below_only (hB.alloc hB.size (.cells (bytesV Z16) 22)) ho3 hB.size; clear ho3))
  obtain ⟨A4, hA4⟩ : ∃ A, A = w.heap.size + 1 + 1 := ⟨_, rfl⟩
  obtain ⟨A5, hA5⟩ : ∃ A, A = w2.heap.size := ⟨_, rfl⟩
  obtain ⟨A6, hA6⟩ : ∃ A, A = w4.heap.size := ⟨_, rfl⟩
  have q0 : w.heap.size < A4 := by omega
  have q1 : A4 < A5 := by omega
  have q2 : A5 < A6 := by omega
  rw [← hA4] at b4 ⊢
  rw [← hA5] at b5 ⊢
  rw [← hA6] at b6 ⊢
  clear hA4 hA5 hA6 l4 l5 l6
  go_loopw [7] (fun t7 wr => ∃ n : Nat, n ≤ 10 ∧ t7 = .int .i64 ((n : Int) + 1) ∧ Blk wr A4 (bytesV Z16) 22 ∧ Blk wr A5 (bytesV K) 44 ∧ Blk wr A6 (bytesV (encR K l n)) 22 ∧ Below w.heap.size w wr) (fun t _ => 11 - (intOf t).toNat)
  case atStart => exact ⟨0, by omega, rfl, b4, b5, b6, hB⟩
  case round =>
    clear b4 b5 b6 hB
    obtain ⟨n, hn, rfl, b4, b5, b6, hB⟩ := hrel
    by_cases hlt : n < 10
    · have k1 : (n : Int) + 1 ≤ 10 := by omega
      obtain ⟨b, hb⟩ : ∃ b, b = encR K l n := ⟨_, rfl⟩
      have lb := Lib.hid (show b.length = 16 by rw [hb, encR_length])
      obtain ⟨SS, hSS⟩ : ∃ SS, SS = shiftL (subL b) := ⟨_, rfl⟩
      have lS := Lib.hid (show SS.length = 16 by rw [hSS, shiftL_length])
      have gS : Hid (∀ c r, c < 4 → r < 4 → sbox (gd b (4 * ((c + r) % 4) + r)) = gd SS (4 * c + r)) := fun c r hc hr => by rw [hSS, ss_gd b c r hc hr]
      obtain ⟨MM, hMM⟩ : ∃ MM, MM = mixL F1 SS := ⟨_, rfl⟩
      have lM := Lib.hid (show MM.length = 16 by rw [hMM, mixL, eachL_length])
      have gM : Hid (∀ c, c < 4 → gd MM (4 * c) = x8 (x8 (x8 (gmul 2 (gd SS (4 * c))) (gmul 3 (gd SS (4 * c + 1)))) (gd SS (4 * c + 2))) (gd SS (4 * c + 3)) ∧
        gd MM (4 * c + 1) = x8 (x8 (x8 (gd SS (4 * c)) (gmul 2 (gd SS (4 * c + 1)))) (gmul 3 (gd SS (4 * c + 2)))) (gd SS (4 * c + 3)) ∧
        gd MM (4 * c + 2) = x8 (x8 (x8 (gd SS (4 * c)) (gd SS (4 * c + 1))) (gmul 2 (gd SS (4 * c + 2)))) (gmul 3 (gd SS (4 * c + 3))) ∧
        gd MM (4 * c + 3) = x8 (x8 (x8 (gmul 3 (gd SS (4 * c))) (gd SS (4 * c + 1))) (gd SS (4 * c + 2))) (gmul 2 (gd SS (4 * c + 3)))) := fun c hc => by
          rw [hMM]; exact ⟨mm_0 SS c hc, mm_1 SS c hc, mm_2 SS c hc, mm_3 SS c hc⟩
      rw [← hb] at b6
      have Hb := Lib.hid hb
      have HS := Lib.hid hSS
      have HM := Lib.hid hMM
      have c8 : Blk (wr.alloc (.cells (bytesV Z16) 22)) wr.heap.size (bytesV (SS.take (4 * 0) ++ Z16.drop (4 * 0))) 22 := Blk.new' rfl
      have c4 := b4.alloc (.cells (bytesV Z16) 22)
      have c5 := b5.alloc (.cells (bytesV Z16) 22)
      have c6 := b6.alloc (.cells (bytesV Z16) 22)
      have cB := hB.alloc hB.size (.cells (bytesV Z16) 22)
      have q3 : A6 < wr.heap.size := b6.lt
      obtain ⟨A8, hA8⟩ : ∃ A, A = wr.heap.size := ⟨_, rfl⟩
      rw [← hA8] at c8 q3
      have HA8 := Lib.hid hA8
      clear hb hSS hMM b4 b5 b6 hB hA8
      go_wp2
      rw [← HA8.out]
      go_loopw [9] (fun t9 wk => ∃ c : Nat, c ≤ 4 ∧ t9 = .int .i64 c ∧ Blk wk A4 (bytesV Z16) 22 ∧ Blk wk A5 (bytesV K) 44 ∧ Blk wk A6 (bytesV b) 22 ∧ Blk wk A8 (bytesV (SS.take (4 * c) ++ Z16.drop (4 * c))) 22 ∧ Below w.heap.size w wk) (fun t _ => 4 - (intOf t).toNat)
      case atStart => rw [← HA8.out] at *; exact ⟨0, by omega, rfl, c4, c5, c6, c8, cB⟩
      case round =>
        clear c4 c5 c6 c8 cB
        obtain ⟨c, hc, rfl, c4, c5, c6, c8, cB⟩ := hrel
        by_cases hc4 : c < 4
        · have kc : (c : Int) < 4 := by omega
          go_wp2
          go_loopw [10] (fun t10 wk => ∃ r : Nat, r ≤ 4 ∧ t10 = .int .i64 r ∧ Blk wk A4 (bytesV Z16) 22 ∧ Blk wk A5 (bytesV K) 44 ∧ Blk wk A6 (bytesV b) 22 ∧ Blk wk A8 (bytesV (SS.take (4 * c + r) ++ Z16.drop (4 * c + r))) 22 ∧ Below w.heap.size w wk) (fun t _ => 4 - (intOf t).toNat)
          case atStart => exact ⟨0, by omega, rfl, c4, c5, c6, c8, cB⟩
          case round =>
            clear c4 c5 c6 c8 cB
            obtain ⟨r, hr, rfl, c4, c5, c6, c8, cB⟩ := hrel
            by_cases hr4 : r < 4
            · have kr : (r : Int) < 4 := by omega
              obtain ⟨q, hq⟩ : ∃ q, q = (c + r) % 4 := ⟨_, rfl⟩
              have hq4 : q < 4 := by omega
              have k1 : IntKind.i64.wrap (4 * (c : Int)) = 4 * (c : Int) := IntWalk.i64_in _ (by omega)
              have k2 : IntKind.i64.wrap (4 * (c : Int) + (r : Int)) = 4 * (c : Int) + (r : Int) := IntWalk.i64_in _ (by omega)
              have k3 : IntKind.i64.wrap ((c : Int) + (r : Int)) = (c : Int) + (r : Int) := IntWalk.i64_in _ (by omega)
              have k4 : ((c : Int) + (r : Int)).tmod 4 = (q : Int) := by rw [Int.tmod_eq_emod_of_nonneg (by omega)]; omega
              have k5 : IntKind.i64.wrap (4 * (q : Int)) = 4 * (q : Int) := IntWalk.i64_in _ (by omega)
              have k6 : IntKind.i64.wrap (4 * (q : Int) + (r : Int)) = 4 * (q : Int) + (r : Int) := IntWalk.i64_in _ (by omega)
              have k7 : (4 * (q : Int) + (r : Int)).toNat = 4 * q + r := by omega
              have k8 : 0 ≤ 4 * (q : Int) + (r : Int) := by omega
              have k9 : 4 * (q : Int) + (r : Int) < 16 := by omega
              have m7 : (4 * (c : Int) + (r : Int)).toNat = 4 * c + r := by omega
              have m8 : 0 ≤ 4 * (c : Int) + (r : Int) := by omega
              have m9 : 4 * (c : Int) + (r : Int) < 16 := by omega
              have hcell := c6.gd (4 * q + r) (by rw [lb.out]; omega)
              have hsb : sbox (gd b (4 * q + r)) = gd SS (4 * c + r) := by rw [hq]; exact gS.out c r hc4 hr4
              have hls : (SS.take (4 * c + r) ++ Z16.drop (4 * c + r)).length = 16 := by simp [lS.out, Z16]; omega
              have hqq : Hid (∀ p, (∃ u, (wr.drewN p).cell? ⟨A8, 4 * c + r, none⟩ = some u) ∧ (wr.drewN p).frozen? ⟨A8, 4 * c + r, none⟩ = false) := fun p => ⟨⟨_, c8.gd (4 * c + r) (by omega)⟩, c8.frozen _⟩
              replace hsb := Lib.hid hsb
              replace hls := Lib.hid hls
              clear hq
              go_wp2_with (first
                | (go_at_call 35; refine (sb_quiet _ _).mono ?_; rintro e w' ⟨rfl, p, rfl⟩; rw [hsb.out]; obtain ⟨⟨u, hu⟩, hf⟩ := hqq.out p))
              have hst : Blk ((wr.drewN p).setCell ⟨A8, 4 * c + r, none⟩ (.int .u8 (gd SS (4 * c + r)).toNat)) A8 (bytesV (SS.take (4 * c + (r + 1)) ++ Z16.drop (4 * c + (r + 1)))) 22 := by
                have h1 : Blk (wr.drewN p) A8 (bytesV (SS.take (4 * c + r) ++ Z16.drop (4 * c + r))) 22 := c8
                have h2 := h1.set (4 * c + r) (B (gd SS (4 * c + r)))
                rw [bytesV_set, take_set_succ _ _ _ (by rw [lS.out]; omega) (by rw [lS.out, Z16, List.length_replicate]; omega)] at h2
                exact h2
              have d4 : Blk (wr.drewN p) A4 (bytesV Z16) 22 := c4
              have d5 : Blk (wr.drewN p) A5 (bytesV K) 44 := c5
              have d6 : Blk (wr.drewN p) A6 (bytesV b) 22 := c6
              refine ⟨?_, by simp [intOf]; omega⟩
              first
                | exact ⟨r + 1, by omega, by go_num, d4.set_other (by simp; omega) _, d5.set_other (by simp; omega) _, d6.set_other (by simp; omega) _, hst, (below_drewN cB p).setCell (by simp; omega) _⟩
                | ((repeat apply Exists.intro); exact ⟨⟨r + 1, by omega, by go_num, d4.set_other (by simp; omega) _, d5.set_other (by simp; omega) _, d6.set_other (by simp; omega) _, hst, (below_drewN cB p).setCell (by simp; omega) _⟩, rfl⟩)
            · obtain rfl : r = 4 := by omega
              have e4 : 4 * c + 4 = 4 * (c + 1) := by omega
              rw [e4] at c8
              go_wp2
              exact ⟨⟨c + 1, by omega, by go_num, c4, c5, c6, c8, cB⟩, by simp [intOf]; omega⟩
        · obtain rfl : c = 4 := by omega
          have e4 : SS.take (4 * 4) ++ Z16.drop (4 * 4) = SS := by
            rw [List.take_of_length_le (by rw [lS.out]; decide), show Z16.drop (4 * 4) = [] from rfl, List.append_nil]
          rw [e4] at c8
          by_cases hn9 : n = 9
          · have kn : ¬ ((n : Int) + 1 < 10) := by omega
            replace hn9 := Lib.hid hn9
            go_wp2_with (first
              | ((with_reducible refine wpList_load_blk rfl 22 (.tmp 8) rfl A8 0 16 rfl c8 row22 ?_ (bytesV SS) ?_ ?_); (rw [bytesV_size, lS.out]; exact Nat.le_refl _); (exact bytesV_whole _ _ lS.out))
              | ((with_reducible refine wpList_store_blk rfl 22 (.tmp 6) (.tmp 49) rfl A6 0 16 (bytesV SS) rfl rfl c6 row22 ?_ ?_ (bytesV_one _) ?_); (rw [bytesV_size, lS.out]); (rw [bytesV_size, lb.out]; exact Nat.le_refl _); intro w8 d6 ho8; rw [splice_all _ _ (by rw [lb.out, lS.out])] at d6; have d4 := c4.only ho8 (by omega); have d5 := c5.only ho8 (by omega); have d8 := c8.only ho8 (by omega); have dB := below_only cB ho8 (by omega); clear ho8 c4 c5 c6 c8 cB))
            have hrow : (bytesV K).extract ((n + 1) * 16) ((n + 1) * 16 + 16) = bytesV (rowK K (n + 1)) := by rw [bytesV_extract, Nat.add_sub_cancel_left]; rfl
            have hkl := hKl.out
            have n1 : ((n : Int) + 1).toNat = n + 1 := by omega
            have n2 : 0 ≤ (n : Int) + 1 := by omega
            have n3 : (n : Int) + 1 < 11 := by omega
            have hend : addL K (n + 1) SS = encR K l (n + 1) := by
              have hm : mixN F1 (n + 1) SS = SS := by rw [hn9.out]; rfl
              rw [← hm, HS.out, Hb.out]; rfl
            replace hend := Lib.hid hend
            go_still_tail 4, (by kernel_rfl)
            refine wpStill_load_blk 22 (.tmp 6) rfl A6 0 16 rfl d6.drew row22 (by rfl) (by rw [bytesV_size, lS.out]; exact Nat.le_refl _) (bytesV SS) (bytesV_whole _ _ lS.out) ?_
            repeat still_step
            refine wpStill_load_blk 22 (.tmp 128) rfl A5 ((n + 1) * 16) 16 rfl d5.drew row22 (by rfl) (by rw [bytesV_size, hkl]; omega) (bytesV (rowK K (n + 1))) hrow ?_
            refine wpStill_nil ?_
            have D4 := d4.drew
            have D5 := d5.drew
            have D6 := d6.drew
            have DB := dB.drew
            clear d4 d5 d6 dB
            go_wp2_with (first
              | (go_at_call 67; refine (refadd_any SS (rowK K (n + 1)) lS.out (rowK_length K hkl (n + 1) (by omega)) _).mono ?_; rintro e w9 ⟨rfl, hb1⟩; rw [xorL_row K SS (n + 1), hend.out]; replace D4 := D4.below hb1 D4.lt; replace D5 := D5.below hb1 D5.lt; replace D6 := D6.below hb1 D6.lt; replace DB := bnext DB hb1; clear hb1)
              | ((with_reducible refine wpList_store_blk rfl 22 (.tmp 6) (.tmp 130) rfl A6 0 16 (bytesV (encR K l (n + 1))) rfl rfl D6 row22 ?_ ?_ (bytesV_one _) ?_); (rw [bytesV_size, encR_length]); (rw [bytesV_size, lS.out]; exact Nat.le_refl _); intro w10 c6 ho9; rw [splice_all _ _ (by rw [lS.out, encR_length])] at c6))
            exact ⟨⟨n + 1, by omega, by go_num, D4.only ho9 (by omega), D5.only ho9 (by omega), c6, below_only DB ho9 (by omega)⟩, by simp [intOf]; omega⟩
          · have kn : (n : Int) + 1 < 10 := by omega
            go_wp2_with (first
              | ((with_reducible refine wpList_load_blk rfl 22 (.tmp 8) rfl A8 0 16 rfl c8 row22 ?_ (bytesV SS) ?_ ?_); (rw [bytesV_size, lS.out]; exact Nat.le_refl _); (exact bytesV_whole _ _ lS.out))
              | ((with_reducible refine wpList_store_blk rfl 22 (.tmp 6) (.tmp 49) rfl A6 0 16 (bytesV SS) rfl rfl c6 row22 ?_ ?_ (bytesV_one _) ?_); (rw [bytesV_size, lS.out]); (rw [bytesV_size, lb.out]; exact Nat.le_refl _); intro w8 d6 ho8; rw [splice_all _ _ (by rw [lb.out, lS.out])] at d6; have d4 := c4.only ho8 (by omega); have d5 := c5.only ho8 (by omega); have d8 := c8.only ho8 (by omega); have dB := below_only cB ho8 (by omega); clear ho8 c4 c5 c6 c8 cB))
            have b0 : Blk w8 A6 (bytesV (MM.take (4 * 0) ++ SS.drop (4 * 0))) 22 := d6
            go_loopw [11] (fun t11 wk => ∃ c : Nat, c ≤ 4 ∧ t11 = .int .i64 c ∧ Blk wk A4 (bytesV Z16) 22 ∧ Blk wk A5 (bytesV K) 44 ∧ Blk wk A6 (bytesV (MM.take (4 * c) ++ SS.drop (4 * c))) 22 ∧ Blk wk A8 (bytesV SS) 22 ∧ Below w.heap.size w wk) (fun t _ => 4 - (intOf t).toNat)
            case atStart => exact ⟨0, by omega, rfl, d4, d5, b0, d8, dB⟩
            case round =>
              clear d4 d5 b0 d6 d8 dB hc4 hc e4
              obtain ⟨c, hc, rfl, d4, d5, d6, d8, dB⟩ := hrel
              by_cases hc4 : c < 4
              · have kc : (c : Int) < 4 := by omega
                obtain ⟨m0, m1, m2, m3⟩ := gM.out c hc4
                have k1 : IntKind.i64.wrap (4 * (c : Int)) = 4 * (c : Int) := IntWalk.i64_in _ (by omega)
                have k2 : IntKind.i64.wrap (4 * (c : Int) + 1) = 4 * (c : Int) + 1 := IntWalk.i64_in _ (by omega)
                have k3 : IntKind.i64.wrap (4 * (c : Int) + 2) = 4 * (c : Int) + 2 := IntWalk.i64_in _ (by omega)
                have k4 : IntKind.i64.wrap (4 * (c : Int) + 3) = 4 * (c : Int) + 3 := IntWalk.i64_in _ (by omega)
                have t1 : (4 * (c : Int)).toNat = 4 * c := by omega
                have t2 : (4 * (c : Int) + 1).toNat = 4 * c + 1 := by omega
                have t3 : (4 * (c : Int) + 2).toNat = 4 * c + 2 := by omega
                have t4 : (4 * (c : Int) + 3).toNat = 4 * c + 3 := by omega
                have p1 : 0 ≤ 4 * (c : Int) := by omega
                have p2 : 0 ≤ 4 * (c : Int) + 1 := by omega
                have p3 : 0 ≤ 4 * (c : Int) + 2 := by omega
                have p4 : 0 ≤ 4 * (c : Int) + 3 := by omega
                have l1 : 4 * (c : Int) < 16 := by omega
                have l2 : 4 * (c : Int) + 1 < 16 := by omega
                have l3 : 4 * (c : Int) + 2 < 16 := by omega
                have l4 : 4 * (c : Int) + 3 < 16 := by omega
                have g0 := d8.gd (4 * c) (by rw [lS.out]; omega)
                have g1 := d8.gd (4 * c + 1) (by rw [lS.out]; omega)
                have g2 := d8.gd (4 * c + 2) (by rw [lS.out]; omega)
                have g3 := d8.gd (4 * c + 3) (by rw [lS.out]; omega)
                obtain ⟨x0, hx0⟩ : ∃ x, x = gd SS (4 * c) := ⟨_, rfl⟩
                obtain ⟨x1, hx1⟩ : ∃ x, x = gd SS (4 * c + 1) := ⟨_, rfl⟩
                obtain ⟨x2, hx2⟩ : ∃ x, x = gd SS (4 * c + 2) := ⟨_, rfl⟩
                obtain ⟨x3, hx3⟩ : ∃ x, x = gd SS (4 * c + 3) := ⟨_, rfl⟩
                rw [← hx0] at g0 m0 m1 m2 m3
                rw [← hx1] at g1 m0 m1 m2 m3
                rw [← hx2] at g2 m0 m1 m2 m3
                rw [← hx3] at g3 m0 m1 m2 m3
                clear hx0 hx1 hx2 hx3
                have hls : ∀ j, j ≤ 16 → (MM.take j ++ SS.drop j).length = 16 := fun j hj => by simp [lM.out, lS.out]; omega
                replace hls := Lib.hid hls
                have hset : Hid (∀ (W : World) (j : Nat) (v : UInt8), j < 16 → gd MM j = v → Blk W A6 ((bytesV (MM.take j ++ SS.drop j)).setIfInBounds j (.int .u8 v.toNat)) 22 → Blk W A6 (bytesV (MM.take (j + 1) ++ SS.drop (j + 1))) 22) := fun W j v hj hv h => by
                  subst hv
                  have h2 : Blk W A6 ((bytesV (MM.take j ++ SS.drop j)).setIfInBounds j (B (gd MM j))) 22 := h
                  rw [bytesV_set, take_set_succ _ _ _ (by rw [lM.out]; exact hj) (by rw [lM.out, lS.out]; exact Nat.le_refl _)] at h2
                  exact h2
                have sz5 : Hid ((Try.prog.info? 5).map (·.size) = some 1) := Lib.hid (by kernel_rfl)
                replace m0 := Lib.hid m0
                replace m1 := Lib.hid m1
                replace m2 := Lib.hid m2
                replace m3 := Lib.hid m3
                go_wp2_with fail
                go_still (by kernel_rfl)
                replace d4 := d4.drew
                replace d5 := d5.drew
                replace d6 := d6.drew
                replace d8 := d8.drew
                replace dB := dB.drew
                clear g0 g1 g2 g3
                change Exit.then _ _ _ _ wr.drew
                go_wp2_with (first
                  | (go_at_call 32; with_reducible refine (refm2 _ _).mono ?_; rintro e w' ⟨rfl, rfl⟩)
                  | (go_at_call 32; with_reducible refine (refm3 _ _).mono ?_; rintro e w' ⟨rfl, rfl⟩)
                  | ((with_reducible refine wpList_store_int rfl 5 (.tmp 86) (.tmp 85) rfl A6 (4 * c) .u8 _ rfl rfl d6 sz5.out ?_ ?_); (rw [bytesV_size, hls.out _ (by omega)]; omega); intro w20 e20 o20; replace d6 := hset.out _ _ _ (by omega) m0.out e20; replace d4 := d4.only o20 (by omega); replace d5 := d5.only o20 (by omega); replace d8 := d8.only o20 (by omega); replace dB := below_only dB o20 (by omega); clear e20 o20)
                  | ((with_reducible refine wpList_store_int rfl 5 (.tmp 99) (.tmp 98) rfl A6 (4 * c + 1) .u8 _ rfl rfl d6 sz5.out ?_ ?_); (rw [bytesV_size, hls.out _ (by omega)]; omega); intro w21 e21 o21; replace d6 := hset.out _ _ _ (by omega) m1.out e21; replace d4 := d4.only o21 (by omega); replace d5 := d5.only o21 (by omega); replace d8 := d8.only o21 (by omega); replace dB := below_only dB o21 (by omega); clear e21 o21)
                  | ((with_reducible refine wpList_store_int rfl 5 (.tmp 112) (.tmp 111) rfl A6 (4 * c + 2) .u8 _ rfl rfl d6 sz5.out ?_ ?_); (rw [bytesV_size, hls.out _ (by omega)]; omega); intro w22 e22 o22; replace d6 := hset.out _ _ _ (by omega) m2.out e22; replace d4 := d4.only o22 (by omega); replace d5 := d5.only o22 (by omega); replace d8 := d8.only o22 (by omega); replace dB := below_only dB o22 (by omega); clear e22 o22)
                  | ((with_reducible refine wpList_store_int rfl 5 (.tmp 125) (.tmp 124) rfl A6 (4 * c + 3) .u8 _ rfl rfl d6 sz5.out ?_ ?_); (rw [bytesV_size, hls.out _ (by omega)]; omega); intro w23 e23 o23; replace d6 := hset.out _ _ _ (by omega) m3.out e23; replace d4 := d4.only o23 (by omega); replace d5 := d5.only o23 (by omega); replace d8 := d8.only o23 (by omega); replace dB := below_only dB o23 (by omega); clear e23 o23))
                have e43 : 4 * c + 3 + 1 = 4 * (c + 1) := by omega
                rw [e43] at d6
                exact ⟨⟨c + 1, by omega, by go_num, d4, d5, d6, d8, dB⟩, by simp [intOf]; omega⟩
              · obtain rfl : c = 4 := by omega
                have e4 : MM.take (4 * 4) ++ SS.drop (4 * 4) = MM := by
                  rw [List.take_of_length_le (by rw [lM.out]; decide), List.drop_eq_nil_of_le (by rw [lS.out]; decide), List.append_nil]
                rw [e4] at d6
                go_wp2_with fail
                have hrow : (bytesV K).extract ((n + 1) * 16) ((n + 1) * 16 + 16) = bytesV (rowK K (n + 1)) := by rw [bytesV_extract, Nat.add_sub_cancel_left]; rfl
                have hkl := hKl.out
                have n1 : ((n : Int) + 1).toNat = n + 1 := by omega
                have n2 : 0 ≤ (n : Int) + 1 := by omega
                have n3 : (n : Int) + 1 < 11 := by omega
                have hend : addL K (n + 1) MM = encR K l (n + 1) := by
                  have hm : mixN F1 (n + 1) SS = MM := by rw [mixN, if_neg (by omega), HM.out]
                  rw [← hm, HS.out, Hb.out]; rfl
                replace hend := Lib.hid hend
                go_still_tail 4, (by kernel_rfl)
                refine wpStill_load_blk 22 (.tmp 6) rfl A6 0 16 rfl d6.drew row22 (by rfl) (by rw [bytesV_size, lM.out]; exact Nat.le_refl _) (bytesV MM) (bytesV_whole _ _ lM.out) ?_
                repeat still_step
                refine wpStill_load_blk 22 (.tmp 128) rfl A5 ((n + 1) * 16) 16 rfl d5.drew row22 (by rfl) (by rw [bytesV_size, hkl]; omega) (bytesV (rowK K (n + 1))) hrow ?_
                refine wpStill_nil ?_
                have D4 := d4.drew
                have D5 := d5.drew
                have D6 := d6.drew
                have DB := dB.drew
                clear d4 d5 d6 dB
                go_wp2_with (first
                  | (go_at_call 67; refine (refadd_any MM (rowK K (n + 1)) lM.out (rowK_length K hkl (n + 1) (by omega)) _).mono ?_; rintro e w9 ⟨rfl, hb1⟩; rw [xorL_row K MM (n + 1), hend.out]; replace D4 := D4.below hb1 D4.lt; replace D5 := D5.below hb1 D5.lt; replace D6 := D6.below hb1 D6.lt; replace DB := bnext DB hb1; clear hb1)
                  | ((with_reducible refine wpList_store_blk rfl 22 (.tmp 6) (.tmp 130) rfl A6 0 16 (bytesV (encR K l (n + 1))) rfl rfl D6 row22 ?_ ?_ (bytesV_one _) ?_); (rw [bytesV_size, encR_length]); (rw [bytesV_size, lM.out]; exact Nat.le_refl _); intro w10 c6 ho9; rw [splice_all _ _ (by rw [lM.out, encR_length])] at c6))
                exact ⟨⟨n + 1, by omega, by go_num, D4.only ho9 (by omega), D5.only ho9 (by omega), c6, below_only DB ho9 (by omega)⟩, by simp [intOf]; omega⟩
    · obtain rfl : n = 10 := by omega
      obtain ⟨X, hX⟩ : ∃ X, X = encR K l 10 := ⟨_, rfl⟩
      have hl5 : X.length = 16 := by rw [hX, encR_length]
      rw [← hX] at b6
      have HX := Lib.hid hX
      clear hX
      go_wp2_with (first
        | ((with_reducible refine wpList_load_blk rfl 22 (.tmp 6) rfl A6 0 16 rfl b6 row22 ?_ (bytesV X) ?_ ?_); (rw [bytesV_size, hl5]; exact Nat.le_refl _); (exact bytesV_whole _ _ hl5))
        | ((with_reducible refine wpList_store_blk rfl 22 (.tmp 4) (.tmp 131) rfl A4 0 16 (bytesV X) rfl rfl b4 row22 ?_ ?_ (bytesV_one _) ?_); (rw [bytesV_size, hl5]); (rw [bytesV_size]; decide); intro w8 c4 ho8; rw [splice_all _ _ (by rw [hl5]; rfl)] at c4))
      refine bodyPost_ret (results_blk rfl _ _ _ (bytesV X) 22 16 rfl c4 row22 (by rw [bytesV_size, hl5])) rfl ?_
      exact ⟨by rw [HK.out] at HX; rw [HX.out], below_only hB ho8 (by omega)⟩
end Go.Proofs.Ytdgmahgidmjniaa
