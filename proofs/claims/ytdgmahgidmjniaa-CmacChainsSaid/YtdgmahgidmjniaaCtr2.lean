import Derived.Test.YtdgmahgidmjniaaCtr1
namespace Go.Proofs.Ytdgmahgidmjniaa
open Go.RowKit

set_option maxRecDepth 100000 in
set_option maxHeartbeats 4000000 in
theorem block_err (c b d i : Int) (hbad : b < 0 ∨ 31 < b ∨ (d ≠ 0 ∧ d ≠ 1)) (w : World) :
    Calls Try.prog 27 #[.int .u32 c, .int .i64 b, .int .i64 d, .int .u64 i] w fun e w' => e = .returned (.tuple #[.agg (bytesV Z16), .int .i64 2]) ∧ Below w.heap.size w w' := by
  have z1 : ∀ w, (zeroValue 28).run Try.prog w = .ok (.agg (bytesV Z8)) w := (zero_of_info zero28).1
  have z2 : ∀ w, (zeroValue 22).run Try.prog w = .ok (.agg (bytesV Z16)) w := (zero_of_info zero22).1
  have c0 : Blk (w.alloc (.cells (bytesV Z16) 22)) w.heap.size (bytesV Z16) 22 := Blk.new' rfl
  have cB : Below w.heap.size w (w.alloc (.cells (bytesV Z16) 22)) := (Below.refl _ _).alloc (Nat.le_refl _) _
  go_enter Try.func27, Try.ntmps27
  go_wp2_with (first
    | (go_at_call 26; refine (prefix_err c b d hbad _).mono ?_; rintro e w2 ⟨rfl, hb1⟩; have hO := c0.below hb1 c0.lt; have g1 := bnext cB hb1)
    | ((with_reducible refine wpList_store_blk rfl 28 (.tmp 10) (.tmp 17) rfl w2.heap.size 0 8 (bytesV Z8) rfl rfl (C := bytesV Z8) (t := 28) ?_ row28 ?_ ?_ (bytesV_one _) ?_); (exact Blk.new' rfl); (rfl); (rw [bytesV_size]; decide); intro w3 hb3 ho3; replace hO := (hO.alloc (.cells (bytesV Z8) 28)).only ho3 (by have := c0.lt; have := hb1.size; omega); replace g1 := below_only (g1.alloc g1.size (.cells (bytesV Z8) 28)) ho3 g1.size)
    | ((with_reducible refine wpList_load_blk rfl 22 (.tmp 8) rfl w.heap.size 0 16 rfl hO row22 ?_ (bytesV Z16) ?_ ?_); (rw [bytesV_size]; decide); (exact bytesV_whole _ _ rfl))
    | ((with_reducible refine wpList_store_blk rfl 22 (.tmp 8) (.tmp 21) rfl w.heap.size 0 16 (bytesV Z16) rfl rfl hO row22 ?_ ?_ (bytesV_one _) ?_); (rfl); (rw [bytesV_size]; decide); intro w8 hb8 ho8; rw [splice_all _ _ rfl] at hb8))
  refine bodyPost_ret (results_blk_tmp rfl _ _ _ (bytesV Z16) 22 16 _ rfl rfl hb8 row22 rfl) rfl ?_
  exact ⟨rfl, below_only g1 ho8 (Nat.le_refl _)⟩

theorem valid_ok (b d : Nat) (hb : b ≤ 31) (hd : d ≤ 1) (w : World) :
    Calls Try.prog 28 #[.int .i64 b, .int .i64 d] w fun e w' => e = .returned (.bool true) ∧ w = w' := by
  have h0 : (0 : Int) ≤ b := by omega
  have h1 : (b : Int) ≤ 31 := by omega
  have hd' : d = 0 ∨ d = 1 := by omega
  go_enter Try.func28, Try.ntmps28
  rcases hd' with rfl | rfl
  · go_wp2
    go_ret
    exact ⟨rfl, rfl⟩
  · go_wp2
    go_ret
    exact ⟨rfl, rfl⟩
theorem valid_err (b d : Int) (hbad : b < 0 ∨ 31 < b ∨ (d ≠ 0 ∧ d ≠ 1)) (w : World) :
    Calls Try.prog 28 #[.int .i64 b, .int .i64 d] w fun e w' => e = .returned (.bool false) ∧ w = w' := by
  have h3 : b < 0 ∨ (0 ≤ b ∧ 31 < b) ∨ (0 ≤ b ∧ b ≤ 31 ∧ d ≠ 0 ∧ d ≠ 1) := by omega
  go_enter Try.func28, Try.ntmps28
  rcases h3 with h | ⟨h0, h1⟩ | ⟨h0, h1, h2', h3'⟩
  · have h' : ¬ (0 ≤ b) := by omega
    go_wp2
    go_ret
    exact ⟨rfl, rfl⟩
  · have h' : ¬ (b ≤ 31) := by omega
    go_wp2
    go_ret
    exact ⟨rfl, rfl⟩
  · have h2 : (d == 0) = false := by simpa using h2'
    have h3 : (d == 1) = false := by simpa using h3'
    go_wp2
    go_ret
    exact ⟨rfl, rfl⟩

theorem gd_lo (c b d i n : Nat) (hb : b ≤ 31) (hd : d ≤ 1) (hn : n < 4) : Value.int .u8 ((c : Int) / 2 ^ (24 - 8 * n) % 256) = B (gd (cblk c b d i) n) := by
  rw [cblk, gd_append_left _ _ _ (by rw [len_half]; omega), half, gd_map_range _ _ _ (by omega)]
  simp only [B, be8, ofNat_int]
  congr 1
  have h4 : n = 0 ∨ n = 1 ∨ n = 2 ∨ n = 3 := by omega
  rcases h4 with rfl | rfl | rfl | rfl <;> simp [pre] <;> omega
theorem gd_mid (c b d i : Nat) (hb : b ≤ 31) (hd : d ≤ 1) : Value.int .u8 (8 * b + 4 * d : Int) = B (gd (cblk c b d i) 4) := by
  rw [cblk, gd_append_left _ _ _ (by rw [len_half]; omega), half, gd_map_range _ _ _ (by omega)]
  simp only [B, be8, ofNat_int]
  congr 1
  simp [pre]; omega
theorem gd_nul (c b d i n : Nat) (hn : 5 ≤ n ∧ n < 8) : gd (cblk c b d i) n = 0 := by
  rw [cblk, gd_append_left _ _ _ (by rw [len_half]; omega), half, gd_map_range _ _ _ (by omega)]
  apply UInt8.toNat_inj.1
  rw [be8, UInt8.toNat_ofNat']
  have h4 : n = 5 ∨ n = 6 ∨ n = 7 := by omega
  rcases h4 with rfl | rfl | rfl <;> simp [pre] <;> omega
theorem gd_hi (c b d i n : Nat) (hn : n < 8) : Value.int .u8 ((i : Int) / 2 ^ (56 - 8 * n) % 256) = B (gd (cblk c b d i) (8 + n)) := by
  rw [cblk, gd_append_right _ _ _ (by rw [len_half]; omega), len_half, half, gd_map_range _ _ _ (by omega), be8_val]
  congr 2
  omega
def upto (T : List UInt8) (n : Nat) : List UInt8 := T.take n ++ Z16.drop n
theorem upto_length (T : List UInt8) (hT : T.length = 16) (n : Nat) (hn : n ≤ 16) : (upto T n).length = 16 := by simp [upto, hT, Z16]; omega
theorem upto_step (T : List UInt8) (hT : T.length = 16) (n : Nat) (hn : n < 16) : (upto T n).set n (gd T n) = upto T (n + 1) :=
  take_set_succ _ _ _ (by omega) (by simp [Z16]; omega)
theorem upto_same (T : List UInt8) (hT : T.length = 16) (n : Nat) (hn : n < 16) (h0 : gd T n = 0) : upto T n = upto T (n + 1) := by
  rw [← upto_step T hT n hn]
  apply ext_gd (by simp)
  intro j hj
  rw [gd_set _ _ _ _ (by rw [upto_length T hT n (by omega)]; exact hn), h0]
  by_cases h : n = j
  · subst h
    rw [upto, gd_append_right _ _ _ (by simp [hT]; omega), gd_drop]
    simp only [if_true, Z16, gd_replicate]
  · simp [h]
theorem upto_zero (T : List UInt8) : upto T 0 = Z16 := by simp [upto]
theorem upto_end (T : List UInt8) (hT : T.length = 16) : upto T 16 = T := by
  have : Z16.drop 16 = [] := rfl
  rw [upto, this, List.append_nil, List.take_of_length_le (by omega)]

set_option maxRecDepth 100000 in
set_option maxHeartbeats 4000000 in
theorem refblock_ok (c b d i : Nat) (hb : b ≤ 31) (hd : d ≤ 1) (w : World) :
    Calls Try.prog 30 #[.int .u32 c, .int .i64 b, .int .i64 d, .int .u64 i] w fun e w' => e = .returned (.agg (bytesV (cblk c b d i))) ∧ Below w.heap.size w w' := by
  have z2 : ∀ w, (zeroValue 22).run Try.prog w = .ok (.agg (bytesV Z16)) w := (zero_of_info zero22).1
  obtain ⟨T, hT⟩ : ∃ T, T = cblk c b d i := ⟨_, rfl⟩
  have hl : T.length = 16 := by rw [hT, cblk_length]
  have g0 : Hid (∀ n, n < 4 → Value.int .u8 ((c : Int) / 2 ^ (24 - 8 * n) % 256) = B (gd T n)) := fun n hn => by rw [hT]; exact gd_lo c b d i n hb hd hn
  have g1 : Hid (Value.int .u8 (8 * b + 4 * d : Int) = B (gd T 4)) := Lib.hid (by rw [hT]; exact gd_mid c b d i hb hd)
  have g2 : Hid (upto T 5 = upto T 8) := Lib.hid (by
    rw [upto_same T hl 5 (by omega) (by rw [hT]; exact gd_nul c b d i 5 (by omega)), upto_same T hl 6 (by omega) (by rw [hT]; exact gd_nul c b d i 6 (by omega)), upto_same T hl 7 (by omega) (by rw [hT]; exact gd_nul c b d i 7 (by omega))])
  have g3 : Hid (∀ n, n < 8 → Value.int .u8 ((i : Int) / 2 ^ (56 - 8 * n) % 256) = B (gd T (8 + n))) := fun n hn => by rw [hT]; exact gd_hi c b d i n hn
  have hl := Lib.hid hl
  replace hT := Lib.hid hT
  have b0 : Blk ((w.alloc (.cells (bytesV Z16) 22)).alloc (.cells (bytesV Z16) 22)) w.heap.size (bytesV Z16) 22 := (Blk.new' rfl).alloc _
  have b1 : Blk ((w.alloc (.cells (bytesV Z16) 22)).alloc (.cells (bytesV Z16) 22)) (w.heap.size + 1) (bytesV (upto T 0)) 22 := by rw [upto_zero]; exact Blk.new' (by simp)
  have b2 : Below w.heap.size w ((w.alloc (.cells (bytesV Z16) 22)).alloc (.cells (bytesV Z16) 22)) := ((Below.refl _ _).alloc (Nat.le_refl _) _).alloc (by simp) _
  go_enter Try.func30, Try.ntmps30
  go_wp2
  go_loopw [10] (fun t10 wr => ∃ n : Nat, n ≤ 4 ∧ t10 = .int .i64 n ∧ Blk wr w.heap.size (bytesV Z16) 22 ∧ Blk wr (w.heap.size + 1) (bytesV (upto T n)) 22 ∧ Below w.heap.size w wr) (fun t _ => 4 - (intOf t).toNat)
  case atStart => exact ⟨0, by omega, rfl, b0, b1, b2⟩
  case round =>
    clear b0 b1 b2
    obtain ⟨n, hn, rfl, b0, b1, b2⟩ := hrel
    by_cases hlt : n < 4
    · have hul := upto_length T hl.out n (by omega)
      have hc := b1.gd n (by omega)
      have hf := b1.frozen n
      have k1 : IntKind.i64.wrap (8 * (n : Int)) = 8 * (n : Int) := IntWalk.i64_in _ (by omega)
      have k2 : IntKind.i64.wrap (24 - 8 * (n : Int)) = 24 - 8 * (n : Int) := IntWalk.i64_in _ (by omega)
      have k3 : (0 : Int) ≤ 24 - 8 * (n : Int) := by omega
      have hst := b1.set n (B (gd T n))
      rw [bytesV_set, upto_step T hl.out n (by omega), ← g0.out n hlt] at hst
      go_wp2
      exact ⟨⟨n + 1, by omega, by go_num, b0.set_other (by simp) _, hst, b2.setCell (by simp) _⟩, by simp [intOf]; omega⟩
    · obtain rfl : n = 4 := by omega
      have hul := upto_length T hl.out 4 (by omega)
      have hc := b1.gd 4 (by omega)
      have hf := b1.frozen 4
      have hst := b1.set 4 (B (gd T 4))
      rw [bytesV_set, upto_step T hl.out 4 (by omega), ← g1.out, g2.out] at hst
      have q1 : IntKind.i64.wrap (8 * (b : Int)) = 8 * (b : Int) := IntWalk.i64_in _ (by omega)
      have q2 : IntKind.i64.wrap (4 * (d : Int)) = 4 * (d : Int) := IntWalk.i64_in _ (by omega)
      have q3 : IntKind.i64.wrap (8 * (b : Int) + 4 * (d : Int)) = 8 * (b : Int) + 4 * (d : Int) := IntWalk.i64_in _ (by omega)
      have q4 : IntKind.u8.wrap (8 * (b : Int) + 4 * (d : Int)) = 8 * (b : Int) + 4 * (d : Int) := IntWalk.u8_in _ (by omega)
      have b0' := b0.set_other (p := ⟨w.heap.size + 1, 4, none⟩) (by simp) (.int .u8 (8 * (b : Int) + 4 * (d : Int)))
      have b2' := b2.setCell (p := ⟨w.heap.size + 1, 4, none⟩) (by simp) (.int .u8 (8 * (b : Int) + 4 * (d : Int)))
      go_wp2
      clear b0 b1 b2 hc hf hul hn hlt q1 q2 q3 q4
      go_loopw [11] (fun t11 wk => ∃ n : Nat, n ≤ 8 ∧ t11 = .int .i64 n ∧ Blk wk w.heap.size (bytesV Z16) 22 ∧ Blk wk (w.heap.size + 1) (bytesV (upto T (8 + n))) 22 ∧ Below w.heap.size w wk) (fun t _ => 8 - (intOf t).toNat)
      case atStart => exact ⟨0, by omega, rfl, b0', hst, b2'⟩
      case round =>
        clear b0' hst b2'
        obtain ⟨n, hn, rfl, b0, b1, b2⟩ := hrel
        by_cases hlt : n < 8
        · have hul := upto_length T hl.out (8 + n) (by omega)
          have hc := b1.gd (8 + n) (by omega)
          have hf := b1.frozen (8 + n)
          have k1 : IntKind.i64.wrap (8 * (n : Int)) = 8 * (n : Int) := IntWalk.i64_in _ (by omega)
          have k2 : IntKind.i64.wrap (56 - 8 * (n : Int)) = 56 - 8 * (n : Int) := IntWalk.i64_in _ (by omega)
          have k3 : (0 : Int) ≤ 56 - 8 * (n : Int) := by omega
          have k4 : IntKind.i64.wrap (8 + (n : Int)) = 8 + (n : Int) := IntWalk.i64_in _ (by omega)
          have k5 : (8 + (n : Int)).toNat = 8 + n := by omega
          have hst := b1.set (8 + n) (B (gd T (8 + n)))
          rw [bytesV_set, upto_step T hl.out (8 + n) (by omega), ← g3.out n hlt] at hst
          go_wp2
          exact ⟨⟨n + 1, by omega, by go_num, b0.set_other (by simp) _, hst, b2.setCell (by simp) _⟩, by simp [intOf]; omega⟩
        · obtain rfl : n = 8 := by omega
          rw [upto_end T hl.out] at b1
          go_wp2_with (first
            | ((with_reducible refine wpList_load_blk rfl 22 (.tmp 9) rfl (w.heap.size + 1) 0 16 rfl b1 row22 ?_ (bytesV T) ?_ ?_); (rw [bytesV_size, hl.out]; exact Nat.le_refl _); (exact bytesV_whole _ _ hl.out))
            | ((with_reducible refine wpList_store_blk rfl 22 (.tmp 8) (.tmp 44) rfl w.heap.size 0 16 (bytesV T) rfl rfl b0 row22 ?_ ?_ (bytesV_one _) ?_); (rw [bytesV_size, hl.out]); (rw [bytesV_size]; decide); intro w8 hb8 ho8; rw [splice_all _ _ (by rw [hl.out]; rfl)] at hb8))
          refine bodyPost_ret (results_blk rfl _ _ _ (bytesV T) 22 16 rfl hb8 row22 (by rw [bytesV_size, hl.out])) rfl ?_
          exact ⟨by rw [hT.out], below_only b2 ho8 (Nat.le_refl _)⟩
end Go.Proofs.Ytdgmahgidmjniaa
