import Derived.Test.YtdgmahgidmjniaaCopy
import Derived.Test.YtdgmahgidmjniaaTail
import Derived.Test.YtdgmahgidmjniaaKeysW
namespace Go.Proofs.Ytdgmahgidmjniaa
open Go.RowKit

theorem row28 : RowTy Try.prog 28 8 := ⟨⟨_, Try.underlying28, rfl⟩, by kernel_rfl⟩
def Z8 : List UInt8 := List.replicate 8 0
theorem zero28 : (Try.prog.info? 28).map (fun i => (i.zero, i.size)) = some (some (.agg (bytesV Z8)), 8) := by kernel_rfl
def be8 (v : Nat) (i : Nat) : UInt8 := UInt8.ofNat (v / 2 ^ (56 - 8 * i))
def half (v : Nat) : List UInt8 := (List.range 8).map (be8 v)
def halfAt (v k : Nat) : List UInt8 := (List.range 8).map fun i => if i < k then be8 v i else 0
theorem halfAt_zero (v : Nat) : halfAt v 0 = Z8 := by simp [halfAt, Z8]; decide
theorem halfAt_end (v : Nat) : halfAt v 8 = half v := by
  simp only [halfAt, half]
  apply List.map_congr_left
  intro i hi
  simp only [List.mem_range] at hi
  simp [hi]
theorem halfAt_length (v k : Nat) : (halfAt v k).length = 8 := by simp [halfAt]
theorem halfAt_step (v k : Nat) (hk : k < 8) : (halfAt v k).set k (be8 v k) = halfAt v (k + 1) := by
  apply ext_gd (by simp [halfAt])
  intro i hi
  have h8 : i < 8 := by simpa [halfAt] using hi
  rw [gd_set _ _ _ _ (by simpa [halfAt] using hk), halfAt, halfAt, gd_map_range _ _ _ h8, gd_map_range _ _ _ h8]
  by_cases h : k = i
  · subst h; simp
  · by_cases h2 : i < k
    · simp [h, h2]; omega
    · have : ¬ i < k + 1 := by omega
      simp [h, h2, this]

theorem ofNat_int (n : Nat) : ((UInt8.ofNat n).toNat : Int) = (n : Int) % 256 := by
  rw [UInt8.toNat_ofNat']
  simp
theorem be8_val (v i : Nat) : Value.int .u8 ((v : Int) / 2 ^ (56 - 8 * i) % 256) = B (be8 v i) := by
  simp only [B, be8, ofNat_int, Int.natCast_ediv, Int.natCast_pow]
  rfl

set_option maxRecDepth 100000 in
set_option maxHeartbeats 4000000 in
theorem half_any (v : Nat) (w : World) :
    Calls Try.prog 57 #[.int .u64 v] w fun e w' => e = .returned (.agg (bytesV (half v))) ∧ Below w.heap.size w w' := by
  have z1 : ∀ w, (zeroValue 28).run Try.prog w = .ok (.agg (bytesV Z8)) w := (zero_of_info zero28).1
  have b1 : Blk (w.alloc (.cells (bytesV Z8) 28)) w.heap.size (bytesV (halfAt v 0)) 28 := by rw [halfAt_zero]; exact Blk.new' rfl
  have b2 : Below w.heap.size w (w.alloc (.cells (bytesV Z8) 28)) := (Below.refl _ _).alloc (Nat.le_refl _) _
  go_enter Try.func57, Try.ntmps57
  go_wp2
  go_loopw [4] (fun t4 wr => ∃ n : Nat, n ≤ 8 ∧ t4 = .int .i64 n ∧ Blk wr w.heap.size (bytesV (halfAt v n)) 28 ∧ Below w.heap.size w wr) (fun t _ => 8 - (intOf t).toNat)
  case atStart => exact ⟨0, by omega, rfl, b1, b2⟩
  case round =>
    clear b1 b2
    obtain ⟨n, hn, rfl, hb, hB⟩ := hrel
    by_cases hlt : n < 8
    · have hl := halfAt_length v n
      have hc := hb.gd n (by omega)
      have hf := hb.frozen n
      have k1 : IntKind.i64.wrap (8 * (n : Int)) = 8 * (n : Int) := IntWalk.i64_in _ (by omega)
      have k2 : IntKind.i64.wrap (56 - 8 * (n : Int)) = 56 - 8 * (n : Int) := IntWalk.i64_in _ (by omega)
      have k3 : (0 : Int) ≤ 56 - 8 * (n : Int) := by omega
      have hst := hb.set n (B (be8 v n))
      rw [bytesV_set, halfAt_step v n hlt, ← be8_val] at hst
      go_wp2
      exact ⟨⟨n + 1, by omega, by go_num, hst, hB.setCell (Nat.le_refl _) _⟩, by simp [intOf]; omega⟩
    · obtain rfl : n = 8 := by omega
      rw [halfAt_end] at hb
      have hl : (half v).length = 8 := by simp [half]
      go_wp2_with (first
        | ((with_reducible refine wpList_load_blk rfl 28 (.tmp 2) rfl w.heap.size 0 8 rfl hb row28 ?_ (bytesV (half v)) ?_ ?_); (rw [bytesV_size, hl]; exact Nat.le_refl _); (exact bytesV_whole _ _ hl))
        | ((with_reducible refine wpList_store_blk rfl 28 (.tmp 2) (.tmp 16) rfl w.heap.size 0 8 (bytesV (half v)) rfl rfl hb row28 ?_ ?_ (bytesV_one _) ?_); (rw [bytesV_size, hl]); (rw [bytesV_size, hl]; exact Nat.le_refl _); intro w5 hb5 ho5; rw [splice_all _ _ rfl] at hb5))
      refine bodyPost_ret (results_blk rfl _ _ _ (bytesV (half v)) 28 8 rfl hb5 row28 (by rw [bytesV_size, hl])) rfl ?_
      exact ⟨rfl, below_only hB ho5 (Nat.le_refl _)⟩

/-- The number of the first half. -/
def pre (c b d : Nat) : Nat := c * 4294967296 + b * 134217728 + d * 67108864
theorem or_u64 (x y n i : Nat) (hx : ∃ k, x = 2 ^ i * k) (hy : y < 2 ^ i) (hn : n = x + y) (h : n < 2 ^ 64) (X Y : Int) (hX : X = x) (hY : Y = y) : bits .or .u64 X Y = (n : Int) := by
  have key : ∀ p q : Nat, p < 2 ^ 64 → q < 2 ^ 64 → bits .or .u64 (p : Int) (q : Int) = IntKind.u64.wrap ((p ||| q : Nat) : Int) := by
    intro p q hp hq
    simp only [bits, BitVec.toNat_or, BitVec.toNat_ofInt]
    have e : ((2 ^ IntKind.u64.bits : Nat) : Int) = ((2 ^ 64 : Nat) : Int) := rfl
    rw [e, ← Int.natCast_emod, ← Int.natCast_emod, Nat.mod_eq_of_lt hp, Nat.mod_eq_of_lt hq]
    rfl
  obtain ⟨k, rfl⟩ := hx
  subst hX hY hn
  rw [key _ _ (by omega) (by omega), ← Nat.two_pow_add_eq_or_of_lt hy]
  exact IntWalk.u64_in _ (by omega)
set_option maxRecDepth 100000 in
set_option maxHeartbeats 4000000 in
theorem prefix_ok (c b d : Nat) (hc : c < 2 ^ 32) (hb : b ≤ 31) (hd : d ≤ 1) (w : World) :
    Calls Try.prog 26 #[.int .u32 c, .int .i64 b, .int .i64 d] w fun e w' => e = .returned (.tuple #[.agg (bytesV (half (pre c b d))), .int .i64 0]) ∧ Below w.heap.size w w' := by
  have z1 : ∀ w, (zeroValue 28).run Try.prog w = .ok (.agg (bytesV Z8)) w := (zero_of_info zero28).1
  have o1 : bits BinOp.or IntKind.u64 (↑c * 4294967296) (↑b * 134217728) = ((c * 4294967296 + b * 134217728 : Nat) : Int) := or_u64 (c * 4294967296) (b * 134217728) _ 32 ⟨c, by omega⟩ (by omega) rfl (by omega) _ _ (by simp) (by simp)
  obtain ⟨n, hn⟩ : ∃ n, n = c * 4294967296 + b * 134217728 := ⟨_, rfl⟩
  rw [← hn] at o1
  have h0 : (0 : Int) ≤ b := by omega
  have h1 : (b : Int) ≤ 31 := by omega
  obtain ⟨m, hm, om⟩ : ∃ m, m = pre c b d ∧ bits BinOp.or IntKind.u64 ↑n (↑d * 67108864) = (m : Int) := ⟨_, rfl, or_u64 n (d * 67108864) _ 27 ⟨c * 32 + b, by omega⟩ (by omega) (by unfold pre; omega) (by unfold pre; omega) _ _ rfl (by simp)⟩
  have hlen : (half (pre c b d)).length = 8 := by simp [half]
  have HM := Lib.hid hm
  clear hm hn
  have c0 : Blk (w.alloc (.cells (bytesV Z8) 28)) w.heap.size (bytesV Z8) 28 := Blk.new' rfl
  have cB : Below w.heap.size w (w.alloc (.cells (bytesV Z8) 28)) := (Below.refl _ _).alloc (Nat.le_refl _) _
  go_enter Try.func26, Try.ntmps26
  have hd' : d = 0 ∨ d = 1 := by omega
  rcases hd' with rfl | rfl
  · simp only [Int.natCast_zero, Int.zero_mul] at om
    go_wp2_with (first
      | (go_at_call 57; refine (half_any m _).mono ?_; rintro e w2 ⟨rfl, hb1⟩; rw [HM.out]; have c1 := c0.below hb1 c0.lt; replace cB := bnext cB hb1; clear hb1)
      | ((with_reducible refine wpList_store_blk rfl 28 (.tmp 6) (.tmp 34) rfl w.heap.size 0 8 (bytesV (half (pre c b 0))) rfl rfl c1 row28 ?_ ?_ (bytesV_one _) ?_); (rw [bytesV_size, hlen]); (rw [bytesV_size]; decide); intro w5 hb5 ho5; rw [splice_all _ _ (by rw [hlen]; rfl)] at hb5))
    refine bodyPost_ret (results_blk_tmp rfl _ _ _ (bytesV (half (pre c b 0))) 28 8 _ rfl rfl hb5 row28 (by rw [bytesV_size, hlen])) rfl ?_
    exact ⟨rfl, below_only cB ho5 (Nat.le_refl _)⟩
  · simp only [Int.natCast_one, Int.one_mul] at om
    go_wp2_with (first
      | (go_at_call 57; refine (half_any m _).mono ?_; rintro e w2 ⟨rfl, hb1⟩; rw [HM.out]; have c1 := c0.below hb1 c0.lt; replace cB := bnext cB hb1; clear hb1)
      | ((with_reducible refine wpList_store_blk rfl 28 (.tmp 6) (.tmp 34) rfl w.heap.size 0 8 (bytesV (half (pre c b 1))) rfl rfl c1 row28 ?_ ?_ (bytesV_one _) ?_); (rw [bytesV_size, hlen]); (rw [bytesV_size]; decide); intro w5 hb5 ho5; rw [splice_all _ _ (by rw [hlen]; rfl)] at hb5))
    refine bodyPost_ret (results_blk_tmp rfl _ _ _ (bytesV (half (pre c b 1))) 28 8 _ rfl rfl hb5 row28 (by rw [bytesV_size, hlen])) rfl ?_
    exact ⟨rfl, below_only cB ho5 (Nat.le_refl _)⟩

set_option maxRecDepth 100000 in
set_option maxHeartbeats 4000000 in
theorem prefix_err (c b d : Int) (hbad : b < 0 ∨ 31 < b ∨ (d ≠ 0 ∧ d ≠ 1)) (w : World) :
    Calls Try.prog 26 #[.int .u32 c, .int .i64 b, .int .i64 d] w fun e w' => e = .returned (.tuple #[.agg (bytesV Z8), .int .i64 2]) ∧ Below w.heap.size w w' := by
  have z1 : ∀ w, (zeroValue 28).run Try.prog w = .ok (.agg (bytesV Z8)) w := (zero_of_info zero28).1
  have c0 : Blk (w.alloc (.cells (bytesV Z8) 28)) w.heap.size (bytesV Z8) 28 := Blk.new' rfl
  have cB : Below w.heap.size w (w.alloc (.cells (bytesV Z8) 28)) := (Below.refl _ _).alloc (Nat.le_refl _) _
  have hzz : ∀ w, (Instr.build 28 #[]).run Try.prog w = .ok (.agg (bytesV Z8)) w := fun w => by simp [Instr.build, z1, Instr.fill, Value.cells]
  have h3 : b < 0 ∨ (0 ≤ b ∧ 31 < b) ∨ (0 ≤ b ∧ b ≤ 31 ∧ d ≠ 0 ∧ d ≠ 1) := by omega
  go_enter Try.func26, Try.ntmps26
  rcases h3 with h | ⟨h0, h1⟩ | ⟨h0, h1, h2', h3'⟩
  · go_wp2_with (first
      | ((with_reducible refine wpList_store_blk rfl 28 (.tmp 6) (.tmp 22) rfl w.heap.size 0 8 (bytesV Z8) rfl rfl c0 row28 ?_ ?_ (bytesV_one _) ?_); (rfl); (rw [bytesV_size]; decide); intro w5 hb5 ho5; rw [splice_all _ _ rfl] at hb5))
    refine bodyPost_ret (results_blk_tmp rfl _ _ _ (bytesV Z8) 28 8 _ rfl rfl hb5 row28 rfl) rfl ?_
    exact ⟨rfl, below_only cB ho5 (Nat.le_refl _)⟩
  · go_wp2_with (first
      | ((with_reducible refine wpList_store_blk rfl 28 (.tmp 6) (.tmp 22) rfl w.heap.size 0 8 (bytesV Z8) rfl rfl c0 row28 ?_ ?_ (bytesV_one _) ?_); (rfl); (rw [bytesV_size]; decide); intro w5 hb5 ho5; rw [splice_all _ _ rfl] at hb5))
    refine bodyPost_ret (results_blk_tmp rfl _ _ _ (bytesV Z8) 28 8 _ rfl rfl hb5 row28 rfl) rfl ?_
    exact ⟨rfl, below_only cB ho5 (Nat.le_refl _)⟩
  · have h2 : (d != 0) = true := by simpa using h2'
    have h3 : (d != 1) = true := by simpa using h3'
    go_wp2_with (first
      | ((with_reducible refine wpList_store_blk rfl 28 (.tmp 6) (.tmp 22) rfl w.heap.size 0 8 (bytesV Z8) rfl rfl c0 row28 ?_ ?_ (bytesV_one _) ?_); (rfl); (rw [bytesV_size]; decide); intro w5 hb5 ho5; rw [splice_all _ _ rfl] at hb5))
    refine bodyPost_ret (results_blk_tmp rfl _ _ _ (bytesV Z8) 28 8 _ rfl rfl hb5 row28 rfl) rfl ?_
    exact ⟨rfl, below_only cB ho5 (Nat.le_refl _)⟩

theorem len_half (v : Nat) : (half v).length = 8 := by simp [half]
/-- The counter block. -/
def cblk (c b d i : Nat) : List UInt8 := half (pre c b d) ++ half i
theorem cblk_length (c b d i : Nat) : (cblk c b d i).length = 16 := by simp [cblk, len_half]
theorem zero22 : (Try.prog.info? 22).map (fun i => (i.zero, i.size)) = some (some (.agg (bytesV Z16)), 16) := by kernel_rfl
theorem elem37 : Try.prog.underlying 37 = some (.slice 5) := by kernel_rfl
theorem size5 : (Try.prog.info? 5).map (·.size) = some 1 := by kernel_rfl
set_option maxRecDepth 100000 in
set_option maxHeartbeats 4000000 in
theorem block_ok (c b d i : Nat) (hc : c < 2 ^ 32) (hb : b ≤ 31) (hd : d ≤ 1) (w : World) :
    Calls Try.prog 27 #[.int .u32 c, .int .i64 b, .int .i64 d, .int .u64 i] w fun e w' => e = .returned (.tuple #[.agg (bytesV (cblk c b d i)), .int .i64 0]) ∧ Below w.heap.size w w' := by
  have z1 : ∀ w, (zeroValue 28).run Try.prog w = .ok (.agg (bytesV Z8)) w := (zero_of_info zero28).1
  have z2 : ∀ w, (zeroValue 22).run Try.prog w = .ok (.agg (bytesV Z16)) w := (zero_of_info zero22).1
  obtain ⟨p, hp⟩ : ∃ p, p = half (pre c b d) := ⟨_, rfl⟩
  obtain ⟨q, hq⟩ : ∃ q, q = half i := ⟨_, rfl⟩
  have lp := Lib.hid (show p.length = 8 by rw [hp, len_half])
  have lq := Lib.hid (show q.length = 8 by rw [hq, len_half])
  replace hp := Lib.hid hp
  replace hq := Lib.hid hq
  have c0 : Blk (w.alloc (.cells (bytesV Z16) 22)) w.heap.size (bytesV Z16) 22 := Blk.new' rfl
  have cB : Below w.heap.size w (w.alloc (.cells (bytesV Z16) 22)) := (Below.refl _ _).alloc (Nat.le_refl _) _
  go_enter Try.func27, Try.ntmps27
  go_wp2_with (first
    | (go_at_call 26; refine (prefix_ok c b d hc hb hd _).mono ?_; rintro e w2 ⟨rfl, hb1⟩; rw [← hp.out])
    | (go_at_call 57; refine (half_any i _).mono ?_; rintro e w4 ⟨rfl, hb4⟩; rw [← hq.out])
    | ((with_reducible refine wpList_store_blk rfl 28 (.tmp 10) (.tmp 17) rfl w2.heap.size 0 8 (bytesV p) rfl rfl (C := bytesV Z8) (t := 28) ?_ row28 ?_ ?_ (bytesV_one _) ?_); (exact Blk.new' rfl); (rw [bytesV_size, lp.out]); (rw [bytesV_size]; decide); intro w3 hb3 ho3; rw [splice_all _ _ (by rw [lp.out]; rfl)] at hb3)
    | ((with_reducible refine wpList_store_blk rfl 28 (.tmp 11) (.tmp 24) rfl w4.heap.size 0 8 (bytesV q) rfl rfl (C := bytesV Z8) (t := 28) ?_ row28 ?_ ?_ (bytesV_one _) ?_); (exact Blk.new' rfl); (rw [bytesV_size, lq.out]); (rw [bytesV_size]; decide); intro w5 hb5 ho5; rw [splice_all _ _ (by rw [lq.out]; rfl)] at hb5))
  have k2 : w.heap.size < w2.heap.size := by have h1 := c0.lt; have h2 := hb1.size; omega
  have k4 : w2.heap.size < w4.heap.size := by have h1 := hb3.lt; have h2 := hb4.size; omega
  have hO : Blk w5 w.heap.size (bytesV Z16) 22 := (((((c0.below hb1 c0.lt).alloc _).only ho3 (by omega)).below hb4 (by have := ho3.size; simp at this; omega)).alloc _).only ho5 (by omega)
  have hP : Blk w5 w2.heap.size (bytesV p) 28 := ((hb3.below hb4 hb3.lt).alloc _).only ho5 (by omega)
  have g1 := bnext cB hb1
  have g2 := below_only (g1.alloc g1.size (.cells (bytesV Z8) 28)) ho3 g1.size
  have g3 := bnext g2 hb4
  have hBB : Below w.heap.size w w5 := below_only (g3.alloc g3.size _) ho5 g3.size
  clear c0 cB hb1 hb3 ho3 hb4 ho5 g1 g2 g3
  go_still_tail 2, (by kernel_rfl)
  change wpList _ _ _ _ _ w5.drew
  go_wp2_with (first
    | (refine wpList_copy_bytes rfl (.tmp 25) (.tmp 26) 37 37 rfl 5 elem37 size5 w.heap.size 0 8 16 w2.heap.size 0 8 8 rfl rfl hO.drew hP.drew 8 rfl (by rw [lp.out]; exact Nat.le_refl _) (by decide) ?_; intro w6 hb6 ho6))
  have hQ : Blk w6 w4.heap.size (bytesV q) 28 := hb5.drew.only ho6 (by omega)
  replace hBB := below_only hBB.drew ho6 (Nat.le_refl _)
  clear hO hP hb5 ho6
  go_still_tail 2, (by kernel_rfl)
  change wpList _ _ _ _ _ w6.drew
  have e7 : ((List.take 0 Z16 ++ List.take 8 (List.drop 0 p) ++ List.drop (0 + 8) Z16).take 8 ++ (q.drop 0).take 8 ++ (List.take 0 Z16 ++ List.take 8 (List.drop 0 p) ++ List.drop (0 + 8) Z16).drop (8 + 8)) = p ++ q := by
    have lp' := lp.out
    have lq' := lq.out
    have t1 : p.take 8 = p := List.take_of_length_le (by omega)
    have t2 : q.take 8 = q := List.take_of_length_le (by omega)
    simp [t1, t2, List.drop_append, lp', Z16]
  have e8 : (List.take 0 Z16 ++ List.take 8 (List.drop 0 p) ++ List.drop (0 + 8) Z16).length = 16 := by simp [lp.out, Z16]
  have e9 : (p ++ q).length = 16 := by simp [lp.out, lq.out]
  obtain ⟨R, hR⟩ : ∃ R, R = p ++ q := ⟨_, rfl⟩
  have HR := Lib.hid hR
  rw [← hR] at e7 e9
  replace e7 := Lib.hid e7
  replace e8 := Lib.hid e8
  replace e9 := Lib.hid e9
  clear hR
  go_wp2_with (first
    | (refine wpList_copy_bytes rfl (.tmp 28) (.tmp 29) 37 37 rfl 5 elem37 size5 w.heap.size 8 8 8 w4.heap.size 0 8 8 rfl rfl hb6.drew hQ.drew 8 rfl (by rw [lq.out]; exact Nat.le_refl _) (by rw [e8.out]; decide) ?_; intro w7 hb7 ho7; rw [e7.out] at hb7)
    | ((with_reducible refine wpList_load_blk rfl 22 (.tmp 8) rfl w.heap.size 0 16 rfl hb7 row22 ?_ (bytesV R) ?_ ?_); (rw [bytesV_size, e9.out]; exact Nat.le_refl _); (exact bytesV_whole _ _ e9.out))
    | ((with_reducible refine wpList_store_blk rfl 22 (.tmp 8) (.tmp 31) rfl w.heap.size 0 16 (bytesV R) rfl rfl hb7 row22 ?_ ?_ (bytesV_one _) ?_); (rw [bytesV_size, e9.out]); (rw [bytesV_size, e9.out]; exact Nat.le_refl _); intro w8 hb8 ho8; rw [splice_all _ _ rfl] at hb8))
  refine bodyPost_ret (results_blk_tmp rfl _ _ _ (bytesV R) 22 16 _ rfl rfl hb8 row22 (by rw [bytesV_size, e9.out])) rfl ?_
  exact ⟨by rw [HR.out, hp.out, hq.out]; rfl, below_only (below_only hBB.drew ho7 (Nat.le_refl _)) ho8 (Nat.le_refl _)⟩
end Go.Proofs.Ytdgmahgidmjniaa
