/-
  Codes, plain; the doubling's walks; the subkeys.
-/
import Derived.Test.YtdgmahgidmjniaaOne
import Derived.Test.YtdgmahgidmjniaaCtr2
import Derived.Test.YtdgmahgidmjniaaCopy
import Derived.Test.YtdgmahgidmjniaaTail
import Derived.Test.YtdgmahgidmjniaaCtrG
import Derived.Test.YtdgmahgidmjniaaLawA
import Derived.Test.YtdgmahgidmjniaaCmcT
/-! Codes, plain; the doubling's walks. -/
/-! Message authentication codes, plain: the doubling of a block, byte by byte and bit by bit. -/
namespace Go.Proofs.Ytdgmahgidmjniaa
open Go.RowKit

def s1 (x : UInt8) : UInt8 := x <<< 1
def s7 (x : UInt8) : UInt8 := x >>> 7
def m135 (x : UInt8) : UInt8 := (x >>> 7) * 0x87
theorem s1_eq (x : UInt8) : (x.toNat : Int) * 2 % 256 = ((s1 x).toNat : Int) := by
  revert x; apply u8_all; decide +kernel
theorem s7_eq (x : UInt8) : (x.toNat : Int) / 128 = ((s7 x).toNat : Int) := by
  revert x; apply u8_all; decide +kernel
theorem m135_eq (x : UInt8) : (x.toNat : Int) / 128 * 135 = ((m135 x).toNat : Int) := by
  revert x; apply u8_all; decide +kernel
def dby (b : List UInt8) (i : Nat) : UInt8 := if i < 15 then o8 (s1 (gd b i)) (s7 (gd b (i + 1))) else s1 (gd b i)
/-- A block doubled. -/
def dblL (b : List UInt8) : List UInt8 := ((List.range 16).map (dby b)).set 15 (x8 (s1 (gd b 15)) (m135 (gd b 0)))
theorem dblL_length (b : List UInt8) : (dblL b).length = 16 := by simp [dblL]

/-! ### Bit by bit -/
def bitF (b : List UInt8) (i : Nat) : UInt8 := a8 (gd b (i / 8) >>> UInt8.ofNat (7 - i % 8)) 1
/-- The bits of a block, then a zero. -/
def bt (b : List UInt8) (i : Nat) : UInt8 := if i < 128 then bitF b i else 0
def orN (b : List UInt8) (j : Nat) : Nat → UInt8
  | 0 => 0
  | r + 1 => o8 (orN b j r) (bt b (8 * j + r + 1) <<< UInt8.ofNat (7 - r))
def outP (b : List UInt8) (k : Nat) : List UInt8 := (List.range 16).map fun j => orN b j (min 8 (k - 8 * j))
theorem outP_length (b : List UInt8) (k : Nat) : (outP b k).length = 16 := by simp [outP]
theorem outP_zero (b : List UInt8) : outP b 0 = List.replicate 16 0 := by
  simp [outP, orN]; decide
theorem outP_gd (b : List UInt8) (k j : Nat) (h : j < 16) : gd (outP b k) j = orN b j (min 8 (k - 8 * j)) := by rw [outP, gd_map_range _ _ _ h]
theorem outP_step (b : List UInt8) (k : Nat) (hk : k < 128) : (outP b k).set (k / 8) (o8 (gd (outP b k) (k / 8)) (bt b (k + 1) <<< UInt8.ofNat (7 - k % 8))) = outP b (k + 1) := by
  apply ext_gd (by simp [outP])
  intro j hj
  have hj' : j < 16 := by simpa [outP] using hj
  rw [gd_set _ _ _ _ (by rw [outP_length]; omega), outP_gd b (k + 1) j hj']
  by_cases h : k / 8 = j
  · rw [if_pos h, h, outP_gd b k j hj', show min 8 (k + 1 - 8 * j) = k % 8 + 1 by omega, show min 8 (k - 8 * j) = k % 8 by omega, orN, show 8 * j + k % 8 + 1 = k + 1 by omega]
  · rw [if_neg h, outP_gd b k j hj', show min 8 (k + 1 - 8 * j) = min 8 (k - 8 * j) by omega]
theorem or_low (x : UInt8) : o8 (o8 (o8 (o8 (o8 (o8 (o8 0 (a8 (x >>> 6) 1 <<< 7)) (a8 (x >>> 5) 1 <<< 6)) (a8 (x >>> 4) 1 <<< 5)) (a8 (x >>> 3) 1 <<< 4)) (a8 (x >>> 2) 1 <<< 3)) (a8 (x >>> 1) 1 <<< 2)) (a8 (x >>> 0) 1 <<< 1) = s1 x := by
  revert x; apply u8_all; decide +kernel
theorem top_bit (x : UInt8) : a8 (x >>> 7) 1 = s7 x := by
  revert x; apply u8_all; decide +kernel
theorem o8_zero (x : UInt8) : o8 x 0 = x := by unfold o8; simp
theorem shl_zero (x : UInt8) : x <<< (0 : UInt8) = x := by
  revert x; apply u8_all; decide +kernel
theorem orN_seven (b : List UInt8) (j : Nat) (hj : j < 16) : orN b j 7 = s1 (gd b j) := by
  rw [← or_low]
  have e : ∀ r, r < 7 → bt b (8 * j + r + 1) = a8 (gd b j >>> UInt8.ofNat (6 - r)) 1 := fun r hr => by
    rw [bt, if_pos (by omega), bitF, show (8 * j + r + 1) / 8 = j by omega, show (8 * j + r + 1) % 8 = r + 1 by omega, show 7 - (r + 1) = 6 - r by omega]
  simp only [orN]
  rw [e 0 (by omega), e 1 (by omega), e 2 (by omega), e 3 (by omega), e 4 (by omega), e 5 (by omega), e 6 (by omega)]
  rfl
theorem orN_eight (b : List UInt8) (j : Nat) (hj : j < 16) : orN b j 8 = dby b j := by
  rw [orN, orN_seven b j hj, dby]
  show o8 _ (bt b (8 * j + 7 + 1) <<< (0 : UInt8)) = _
  rw [shl_zero, bt]
  by_cases h : j < 15
  · rw [if_pos h, if_pos (by omega), bitF, show (8 * j + 7 + 1) / 8 = j + 1 by omega, show (8 * j + 7 + 1) % 8 = 0 by omega]
    show o8 _ (a8 (gd b (j + 1) >>> 7) 1) = _
    rw [top_bit]
  · rw [if_neg h, if_neg (by omega), o8_zero]
theorem outP_end (b : List UInt8) : outP b 128 = (List.range 16).map (dby b) := by
  unfold outP
  apply List.map_congr_left
  intro j hj
  rw [List.mem_range] at hj
  rw [show min 8 (128 - 8 * j) = 8 by omega, orN_eight b j hj]
theorem bt_zero (b : List UInt8) : bt b 0 = s7 (gd b 0) := by
  rw [bt, if_pos (by omega), bitF]
  exact top_bit _
theorem x8_zero_r (x : UInt8) : x8 x 0 = x := by unfold x8; simp
/-- What the reference has computed is the doubled block. -/
theorem outP_dbl (b : List UInt8) : (if bt b 0 = 1 then (outP b 128).set 15 (x8 (gd (outP b 128) 15) 0x87) else outP b 128) = dblL b := by
  have hd : gd (outP b 128) 15 = s1 (gd b 15) := by rw [outP_end, gd_map_range _ _ _ (by omega), dby, if_neg (by omega)]
  rw [bt_zero, hd, outP_end, dblL]
  have hc : s7 (gd b 0) = 0 ∨ s7 (gd b 0) = 1 := by
    generalize gd b 0 = x
    revert x; apply u8_all; decide +kernel
  have hm : m135 (gd b 0) = s7 (gd b 0) * 0x87 := rfl
  rcases hc with h | h
  · rw [h, if_neg (by decide), hm, h, show (0 : UInt8) * 0x87 = 0 from rfl, x8_zero_r]
    apply ext_gd (by simp)
    intro i hi
    rw [gd_set _ _ _ _ (by simp)]
    by_cases hi15 : 15 = i
    · rw [if_pos hi15, ← hi15, gd_map_range _ _ _ (by omega), dby, if_neg (by omega)]
    · rw [if_neg hi15]
  · rw [h, if_pos rfl, hm, h]; rfl
end Go.Proofs.Ytdgmahgidmjniaa

/-! Message authentication codes: the doubling of a block, walked. -/
namespace Go.Proofs.Ytdgmahgidmjniaa
open Go.RowKit
attribute [-go_sem] Instr.build
attribute [local go_sem] bits_x8 bits_o8 bits_a8

theorem row97 : RowTy Try.prog 97 16 := ⟨⟨_, Try.underlying97, rfl⟩, by kernel_rfl⟩
theorem zero97 : (Try.prog.info? 97).map (fun i => (i.zero, i.size)) = some (some (.agg (bytesV Z16)), 16) := by kernel_rfl
theorem s7_le (x : UInt8) : ((s7 x).toNat : Int) ≤ 1 := by
  revert x; apply u8_all; decide +kernel
theorem m135_s7 (x : UInt8) : ((s7 x).toNat : Int) * 135 = ((m135 x).toNat : Int) := by
  revert x; apply u8_all; decide +kernel
set_option maxRecDepth 100000 in
set_option maxHeartbeats 4000000 in
theorem doubled_any (b : List UInt8) (hb : b.length = 16) (w : World) :
    Calls Try.prog 72 #[.agg (bytesV b)] w fun e w' => e = .returned (.agg (bytesV (dblL b))) ∧ Below w.heap.size w w' := by
  have z1 : ∀ w, (zeroValue 97).run Try.prog w = .ok (.agg (bytesV Z16)) w := (zero_of_info zero97).1
  obtain ⟨W, hW⟩ : ∃ W, W = (w.alloc (.cells (bytesV b) 97)).alloc (.cells (bytesV Z16) 97) := ⟨_, rfl⟩
  have hB : Below w.heap.size w W := by rw [hW]; exact ((Below.refl w.heap.size w).alloc (Nat.le_refl _) (.cells (bytesV b) 97)).alloc (by simp) _
  have b0 : Blk W w.heap.size (bytesV b) 97 := by rw [hW]; exact (Blk.new' rfl).alloc _
  have b1 : Blk W (w.heap.size + 1) (bytesV (padF (dby b) 0 16)) 97 := by rw [hW, ← padF_zero]; exact Blk.new' (by simp)
  have HW := Lib.hid hW
  clear hW
  go_enter Try.func72, Try.ntmps72
  go_wp2
  rw [← HW.out]
  go_loopw [4] (fun t4 wr => ∃ k : Nat, k ≤ 16 ∧ t4 = .int .i64 k ∧ Blk wr w.heap.size (bytesV b) 97 ∧ Blk wr (w.heap.size + 1) (bytesV (padF (dby b) k 16)) 97 ∧ Below w.heap.size w wr) (fun t _ => 16 - (intOf t).toNat)
  case atStart => exact ⟨0, by omega, rfl, b0, b1, hB⟩
  case round =>
    clear b0 b1 hB HW z1
    obtain ⟨k, hk, rfl, b0, b1, hB⟩ := hrel
    by_cases hlt : k < 16
    · have hl := padF_length (dby b) k 16 hk
      have c0 := b0.gd k (by omega)
      have e1 := s1_eq (gd b k)
      have s5 : (Try.prog.info? 5).map (·.size) = some 1 := by kernel_rfl
      by_cases h15 : k < 15
      · have c1 := b0.gd (k + 1) (by omega)
        have e7 := s7_eq (gd b (k + 1))
        have h15' : (k : Int) < 15 := by omega
        have hw1 : IntKind.i64.wrap ((k : Int) + 1) = (k : Int) + 1 := IntWalk.i64_in _ (by omega)
        have k2 : (0 : Int) ≤ (k : Int) + 1 := by omega
        have k3 : (k : Int) + 1 < 16 := by omega
        have k4 : ((k : Int) + 1).toNat = k + 1 := by omega
        have hd : o8 (s1 (gd b k)) (s7 (gd b (k + 1))) = dby b k := by rw [dby, if_pos h15]
        have HD := Lib.hid hd
        clear hd
        go_wp2_with (first
          | ((with_reducible refine wpList_store_int rfl 5 (.tmp 12) (.tmp 11) rfl (w.heap.size + 1) k .u8 _ rfl rfl b1 s5 ?_ ?_); (rw [bytesV_size, hl]; exact hlt); intro w2 d1 o1; replace b0 := b0.only o1 (by omega); replace hB := below_only hB o1 (by omega); replace c0 := b0.gd k (by omega); replace c1 := b0.gd (k + 1) (by omega))
          | fail)
        rw [e1] at d1
        replace d1 : Blk w2 (w.heap.size + 1) (bytesV ((padF (dby b) k 16).set k (s1 (gd b k)))) 97 := by rw [← bytesV_set]; exact d1
        have co := d1.gd k (by rw [List.length_set, hl]; exact hlt)
        have cf := d1.frozen k
        rw [gd_set _ _ _ _ (by rw [hl]; exact hlt), if_pos rfl] at co
        have hst : Blk (w2.drew.setCell ⟨w.heap.size + 1, k, none⟩ (.int .u8 (o8 (s1 (gd b k)) (s7 (gd b (k + 1)))).toNat)) (w.heap.size + 1) (bytesV (padF (dby b) (k + 1) 16)) 97 := by
          have h2 := d1.drew.set k (B (dby b k))
          rw [bytesV_set, List.set_set, padF_set _ _ _ hlt] at h2
          rw [HD.out]; exact h2
        clear d1 b1 o1 e1
        go_wp2_with fail
        go_still_tail 9, (by kernel_rfl)
        change wpList _ _ _ _ _ w2.drew
        go_wp2
        first
          | exact ⟨⟨k + 1, by omega, by go_num, b0.drew.set_other (by simp) _, hst, hB.drew.setCell (by simp) _⟩, by simp [intOf]; omega⟩
          | (refine ⟨?_, by simp [intOf]; omega⟩; (repeat apply Exists.intro); exact ⟨⟨k + 1, by omega, by go_num, b0.drew.set_other (by simp) _, hst, hB.drew.setCell (by simp) _⟩, rfl⟩)
      · have h15' : ¬ (k : Int) < 15 := by omega
        have hd : s1 (gd b k) = dby b k := by rw [dby, if_neg h15]
        have HD := Lib.hid hd
        clear hd
        go_wp2_with (first
          | ((with_reducible refine wpList_store_int rfl 5 (.tmp 12) (.tmp 11) rfl (w.heap.size + 1) k .u8 _ rfl rfl b1 s5 ?_ ?_); (rw [bytesV_size, hl]; exact hlt); intro w2 d1 o1; replace b0 := b0.only o1 (by omega); replace hB := below_only hB o1 (by omega); rw [e1, HD.out] at d1; have hst : Blk w2 (w.heap.size + 1) (bytesV (padF (dby b) (k + 1) 16)) 97 := (by rw [← padF_set _ _ _ hlt, ← bytesV_set]; exact d1); clear d1 b1 o1 e1)
          | fail)
        first
          | exact ⟨⟨k + 1, by omega, by go_num, b0, hst, hB⟩, by simp [intOf]; omega⟩
          | (refine ⟨?_, by simp [intOf]; omega⟩; (repeat apply Exists.intro); exact ⟨⟨k + 1, by omega, by go_num, b0, hst, hB⟩, rfl⟩)
    · obtain rfl : k = 16 := by omega
      rw [padF_end] at b1
      have hl : ((List.range 16).map (dby b)).length = 16 := by simp
      have c0 := b1.gd 15 (by omega)
      have cf := b1.frozen 15
      have c1 := b0.gd 0 (by omega)
      rw [gd_map_range _ _ _ (by omega), dby, if_neg (by omega)] at c0
      have e1 := s7_eq (gd b 0)
      have e2 := m135_s7 (gd b 0)
      have e3 := s7_le (gd b 0)
      have s5 : (Try.prog.info? 5).map (·.size) = some 1 := by kernel_rfl
      have hfin : Blk wr (w.heap.size + 1) (bytesV ((List.range 16).map (dby b))) 97 := b1
      obtain ⟨L, hL⟩ : ∃ L, L = (List.range 16).map (dby b) := ⟨_, rfl⟩
      have hD : dblL b = L.set 15 (x8 (s1 (gd b 15)) (m135 (gd b 0))) := by rw [hL]; rfl
      rw [← hL] at b1 hl
      have HD := Lib.hid hD
      clear hD hL hfin
      have hDl := dblL_length b
      go_wp2_with (first
        | ((with_reducible refine wpList_store_int rfl 5 (.tmp 33) (.tmp 32) rfl (w.heap.size + 1) 15 .u8 _ rfl rfl b1 s5 ?_ ?_); (rw [bytesV_size, hl]; decide); intro w2 d1 o1; replace b0 := b0.only o1 (by omega); replace hB := below_only hB o1 (by omega); replace d1 : Blk w2 (w.heap.size + 1) (bytesV (dblL b)) 97 := (by rw [HD.out, ← bytesV_set]; exact d1); clear o1 c0 c1 cf b1 e1 e2 e3)
        | ((with_reducible refine wpList_load_blk rfl 97 (.tmp 2) rfl (w.heap.size + 1) 0 16 rfl d1 row97 ?_ (bytesV (dblL b)) ?_ ?_); (rw [bytesV_size, hDl]; exact Nat.le_refl _); (exact bytesV_whole _ _ hDl))
        | ((with_reducible refine wpList_store_blk rfl 97 (.tmp 2) (.tmp 34) rfl (w.heap.size + 1) 0 16 (bytesV (dblL b)) rfl rfl d1 row97 ?_ ?_ (bytesV_one _) ?_); (rw [bytesV_size, hDl]); (rw [bytesV_size, hDl]; exact Nat.le_refl _); intro w3 d2 o2; rw [splice_all _ _ rfl] at d2)
        | fail)
      refine bodyPost_ret (results_blk rfl _ _ _ (bytesV (dblL b)) 97 16 rfl d2 row97 (by rw [bytesV_size, hDl])) rfl ?_
      exact ⟨rfl, below_only hB o2 (by omega)⟩

theorem shr_val (x : UInt8) (r : Nat) (h : r < 8) : (x.toNat : Int) / 2 ^ (7 - r) = ((x >>> UInt8.ofNat (7 - r)).toNat : Int) := by
  have : r = 0 ∨ r = 1 ∨ r = 2 ∨ r = 3 ∨ r = 4 ∨ r = 5 ∨ r = 6 ∨ r = 7 := by omega
  rcases this with rfl | rfl | rfl | rfl | rfl | rfl | rfl | rfl <;> revert x <;> apply u8_all <;> decide +kernel
theorem shl_val (x : UInt8) (r : Nat) (h : r < 8) : (x.toNat : Int) * 2 ^ (7 - r) % 256 = ((x <<< UInt8.ofNat (7 - r)).toNat : Int) := by
  have : r = 0 ∨ r = 1 ∨ r = 2 ∨ r = 3 ∨ r = 4 ∨ r = 5 ∨ r = 6 ∨ r = 7 := by omega
  rcases this with rfl | rfl | rfl | rfl | rfl | rfl | rfl | rfl <;> revert x <;> apply u8_all <;> decide +kernel
theorem bitF_val (b : List UInt8) (k q r : Nat) (hq : q = k / 8) (hr : r = k % 8) : bits .and .u8 ((gd b q).toNat / 2 ^ (7 - r)) 1 = ((bitF b k).toNat : Int) := by
  rw [shr_val _ _ (by omega), hq, hr, bitF]
  exact bits_a8 _ 1
theorem orN_val (x y : UInt8) (r : Nat) (hr : r < 8) : bits .or .u8 (x.toNat : Int) ((y.toNat : Int) * 2 ^ (7 - r) % 256) = ((o8 x (y <<< UInt8.ofNat (7 - r))).toNat : Int) := by
  rw [shl_val _ _ hr, bits_o8]
theorem padF_gd (f : Nat → UInt8) (k n i : Nat) (h : i < k) : gd (padF f k n) i = f i := by
  rw [padF, gd_append_left _ _ _ (by simpa using h), gd_map_range _ _ _ h]
theorem padF_gd_zero (f : Nat → UInt8) (k n i : Nat) (h : k ≤ i) : gd (padF f k n) i = 0 := by
  rw [padF, gd_append_right _ _ _ (by simpa using h), gd_replicate]
theorem bits_gd (b : List UInt8) (i : Nat) (h : i < 129) : gd (padF (bitF b) 128 129) i = bt b i := by
  unfold bt
  split
  · exact padF_gd _ _ _ _ (by omega)
  · exact padF_gd_zero _ _ _ _ (by omega)
theorem u8_one (x : UInt8) : ((x.toNat : Int) == 1) = decide (x = 1) := by
  revert x; apply u8_all; decide +kernel
theorem row107 : RowTy Try.prog 107 129 := ⟨⟨_, Try.underlying107, rfl⟩, by kernel_rfl⟩
def Z129 : List UInt8 := List.replicate 129 0
theorem zero107 : (Try.prog.info? 107).map (fun i => (i.zero, i.size)) = some (some (.agg (bytesV Z129)), 129) := by kernel_rfl
set_option maxRecDepth 100000 in
set_option maxHeartbeats 4000000 in
theorem refdouble_any (b : List UInt8) (hb : b.length = 16) (w : World) :
    Calls Try.prog 73 #[.agg (bytesV b)] w fun e w' => e = .returned (.agg (bytesV (dblL b))) ∧ Below w.heap.size w w' := by
  have z1 : ∀ w, (zeroValue 22).run Try.prog w = .ok (.agg (bytesV Z16)) w := (zero_of_info zero22).1
  have z2 : ∀ w, (zeroValue 107).run Try.prog w = .ok (.agg (bytesV Z129)) w := (zero_of_info zero107).1
  obtain ⟨W, hW⟩ : ∃ W, W = ((w.alloc (.cells (bytesV b) 22)).alloc (.cells (bytesV Z16) 22)).alloc (.cells (bytesV Z129) 107) := ⟨_, rfl⟩
  have hB : Below w.heap.size w W := by rw [hW]; exact (((Below.refl w.heap.size w).alloc (Nat.le_refl _) (.cells (bytesV b) 22)).alloc (by simp) _).alloc (by simp; omega) _
  have b0 : Blk W w.heap.size (bytesV b) 22 := by rw [hW]; exact ((Blk.new' rfl).alloc _).alloc _
  have b1 : Blk W (w.heap.size + 1) (bytesV Z16) 22 := by rw [hW]; exact (Blk.new' (by simp)).alloc _
  have b2 : Blk W (w.heap.size + 1 + 1) (bytesV (padF (bitF b) 0 129)) 107 := by rw [hW, ← padF_zero]; exact Blk.new' (by simp)
  have hsz : W.heap.size = w.heap.size + 3 := by rw [hW]; simp
  have HW := Lib.hid hW
  clear hW
  have s5 : (Try.prog.info? 5).map (·.size) = some 1 := by kernel_rfl
  go_enter Try.func73, Try.ntmps73
  go_wp2
  rw [← HW.out]
  go_loopw [4] (fun t4 wr => ∃ k : Nat, k ≤ 128 ∧ t4 = .int .i64 k ∧ Blk wr w.heap.size (bytesV b) 22 ∧ Blk wr (w.heap.size + 1) (bytesV Z16) 22 ∧ Blk wr (w.heap.size + 1 + 1) (bytesV (padF (bitF b) k 129)) 107 ∧ wr.heap.size = w.heap.size + 3 ∧ Below w.heap.size w wr) (fun t _ => 128 - (intOf t).toNat)
  case atStart => exact ⟨0, by omega, rfl, b0, b1, b2, hsz, hB⟩
  case round =>
    clear b0 b1 b2 hB HW hsz
    obtain ⟨k, hk, rfl, b0, b1, b2, hsz, hB⟩ := hrel
    replace hsz := Lib.hid hsz
    by_cases hlt : k < 128
    · have hl := padF_length (bitF b) k 129 (by omega)
      obtain ⟨q, hq⟩ : ∃ q, q = k / 8 := ⟨_, rfl⟩
      obtain ⟨r, hr⟩ : ∃ r, r = k % 8 := ⟨_, rfl⟩
      have hq16 : q < 16 := by omega
      have hr8 : r < 8 := by omega
      have hqi : (k : Int) / 8 = (q : Int) := by omega
      have hri : (k : Int) % 8 = (r : Int) := by omega
      have c0 := b0.gd q (by omega)
      have k7 : (0 : Int) ≤ 7 - (r : Int) := by omega
      have hv := Lib.hid (bitF_val b k q r hq hr)
      clear hq hr
      go_wp2_with (first
        | ((with_reducible refine wpList_store_int rfl 5 (.tmp 21) (.tmp 20) rfl (w.heap.size + 1 + 1) k .u8 _ rfl rfl b2 s5 ?_ ?_); (rw [bytesV_size, hl]; omega); intro w2 d1 o1; rw [hv.out] at d1; replace d1 : Blk w2 (w.heap.size + 1 + 1) (bytesV (padF (bitF b) (k + 1) 129)) 107 := (by rw [← padF_set _ _ _ (by omega), ← bytesV_set]; exact d1); replace b0 := b0.only o1 (by omega); replace b1 := b1.only o1 (by omega); replace hB := below_only hB o1 (by omega); have hs2 := o1.size; clear b2 c0)
        | fail)
      have hw1 : IntKind.i64.wrap ((k : Int) + 1) = (k : Int) + 1 := IntWalk.i64_in _ (by omega)
      first
        | exact ⟨⟨k + 1, by omega, by go_num, b0, b1, d1, by rw [hs2]; exact hsz.out, hB⟩, by simp [intOf]; omega⟩
        | (refine ⟨?_, by simp [intOf]; omega⟩; (repeat apply Exists.intro); exact ⟨⟨k + 1, by omega, by go_num, b0, b1, d1, by rw [hs2]; exact hsz.out, hB⟩, rfl⟩)
    · obtain rfl : k = 128 := by omega
      obtain ⟨D, hD⟩ : ∃ D, D = wr.heap.size := ⟨_, rfl⟩
      have hD3 : D = w.heap.size + 3 := by rw [hD]; exact hsz.out
      have d3 : Blk (wr.alloc (.cells (bytesV Z16) 22)) D (bytesV (outP b 0)) 22 := by rw [outP_zero]; exact Blk.new' hD
      replace b0 := b0.alloc (.cells (bytesV Z16) 22)
      replace b1 := b1.alloc (.cells (bytesV Z16) 22)
      replace b2 := b2.alloc (.cells (bytesV Z16) 22)
      replace hB := hB.alloc hB.size (.cells (bytesV Z16) 22)
      clear hlt hk
      go_wp2_with fail
      rw [← hD]
      obtain ⟨W2, hW2⟩ : ∃ W2, W2 = wr.alloc (.cells (bytesV Z16) 22) := ⟨_, rfl⟩
      rw [← hW2] at b0 b1 b2 d3 hB ⊢
      clear hW2 hD hsz
      have hDH := Lib.hid hD3
      clear hD3
      go_loopw [6] (fun t6 wr => ∃ k : Nat, k ≤ 128 ∧ t6 = .int .i64 k ∧ Blk wr (w.heap.size + 1) (bytesV Z16) 22 ∧ Blk wr (w.heap.size + 1 + 1) (bytesV (padF (bitF b) 128 129)) 107 ∧ Blk wr D (bytesV (outP b k)) 22 ∧ Below w.heap.size w wr) (fun t _ => 128 - (intOf t).toNat)
      case atStart => exact ⟨0, by omega, rfl, b1, b2, d3, hB⟩
      case round =>
        clear b0 b1 b2 d3 hB
        obtain ⟨k, hk, rfl, b1, b2, d3, hB⟩ := hrel
        have hl := padF_length (bitF b) 128 129 (by omega)
        have hol := outP_length b k
        by_cases hlt : k < 128
        · obtain ⟨q, hq⟩ : ∃ q, q = k / 8 := ⟨_, rfl⟩
          obtain ⟨r, hr⟩ : ∃ r, r = k % 8 := ⟨_, rfl⟩
          have hq16 : q < 16 := by omega
          have hr8 : r < 8 := by omega
          have hqi : (k : Int) / 8 = (q : Int) := by omega
          have hqt : (k : Int).tdiv 8 = (q : Int) := by rw [Int.tdiv_eq_ediv_of_nonneg (by omega)]; exact hqi
          have hri : (k : Int).tmod 8 = (r : Int) := by rw [Int.tmod_eq_emod_of_nonneg (by omega)]; omega
          have hw1 : IntKind.i64.wrap ((k : Int) + 1) = (k : Int) + 1 := IntWalk.i64_in _ (by omega)
          have hw2 : IntKind.i64.wrap (q : Int) = q := IntWalk.i64_in _ (by omega)
          have hw3 : IntKind.i64.wrap (r : Int) = r := IntWalk.i64_in _ (by omega)
          have hw4 : IntKind.i64.wrap (7 - (r : Int)) = 7 - (r : Int) := IntWalk.i64_in _ (by omega)
          have k7 : (0 : Int) ≤ 7 - (r : Int) := by omega
          have k8 : (7 - (r : Int)).toNat = 7 - r := by omega
          have k9 : ((k : Int) + 1).toNat = k + 1 := by omega
          have k10 : (0 : Int) ≤ (k : Int) + 1 := by omega
          have k11 : (k : Int) + 1 < 129 := by omega
          have k12 : (q : Int) < 16 := by omega
          have c1 := b2.gd (k + 1) (by omega)
          rw [bits_gd _ _ (by omega)] at c1
          have c2 := d3.gd q (by omega)
          have cf := d3.frozen q
          have hst : Blk (wr.drew.setCell ⟨D, q, none⟩ (.int .u8 (bits .or .u8 ((gd (outP b k) q).toNat : Int) (((bt b (k + 1)).toNat : Int) * 2 ^ (7 - r) % 256)))) D (bytesV (outP b (k + 1))) 22 := by
            have h2 := d3.drew.set q (B (o8 (gd (outP b k) q) (bt b (k + 1) <<< UInt8.ofNat (7 - r))))
            rw [bytesV_set, hq, hr, outP_step b k hlt, ← hq, ← hr] at h2
            rw [orN_val _ _ _ hr8]; exact h2
          clear hq hr hqi
          go_wp2_with fail
          go_still_tail 15, (by kernel_rfl)
          change wpList _ _ _ _ _ wr.drew
          go_wp2
          have hDw := hDH.out
          first
            | exact ⟨⟨k + 1, by omega, by go_num, b1.drew.set_other (by simp; omega) _, b2.drew.set_other (by simp; omega) _, hst, hB.drew.setCell (by simp; omega) _⟩, by simp [intOf]; omega⟩
            | (refine ⟨?_, by simp [intOf]; omega⟩; (repeat apply Exists.intro); exact ⟨⟨k + 1, by omega, by go_num, b1.drew.set_other (by simp; omega) _, b2.drew.set_other (by simp; omega) _, hst, hB.drew.setCell (by simp; omega) _⟩, rfl⟩)
        · obtain rfl : k = 128 := by omega
          have hfin := Lib.hid (outP_dbl b)
          have c1 := b2.gd 0 (by omega)
          rw [bits_gd _ _ (by omega)] at c1
          have c2 := d3.gd 15 (by omega)
          have cf := d3.frozen 15
          have hu := u8_one (bt b 0)
          have hDl := dblL_length b
          have hDlt : w.heap.size ≤ D := by have := hDH.out; omega
          have hDne : w.heap.size + 1 ≠ D := by have := hDH.out; omega
          by_cases h1 : bt b 0 = 1
          · rw [decide_eq_true h1] at hu
            rw [if_pos h1] at hfin
            have hb1 : ((bt b 0).toNat : Int) = 1 := by rw [h1]; rfl
            replace h1 := Lib.hid h1
            have hxx : bits .xor .u8 ((gd (outP b 128) 15).toNat : Int) 135 = ((x8 (gd (outP b 128) 15) 0x87).toNat : Int) := bits_x8 _ 0x87
            have HX := Lib.hid hxx
            clear hxx
            go_wp2_with (first
              | ((with_reducible refine wpList_store_int rfl 5 (.tmp 48) (.tmp 47) rfl D 15 .u8 _ rfl rfl d3 s5 ?_ ?_); (rw [bytesV_size, hol]; decide); intro w2 d1 o1; rw [HX.out] at d1; replace d1 : Blk w2 D (bytesV (dblL b)) 22 := (by rw [← hfin.out, ← bytesV_set]; exact d1); replace b1 := b1.only o1 hDne; replace hB := below_only hB o1 hDlt; clear c1 c2 cf d3 o1)
              | ((with_reducible refine wpList_load_blk rfl 22 (.tmp 5) rfl D 0 16 rfl d1 row22 ?_ (bytesV (dblL b)) ?_ ?_); (rw [bytesV_size, hDl]; exact Nat.le_refl _); (exact bytesV_whole _ _ hDl))
              | ((with_reducible refine wpList_store_blk rfl 22 (.tmp 2) (.tmp 49) rfl (w.heap.size + 1) 0 16 (bytesV (dblL b)) rfl rfl b1 row22 ?_ ?_ (bytesV_one _) ?_); (rw [bytesV_size, hDl]); (rw [bytesV_size]; decide); intro w3 d2 o2; rw [splice_all _ _ (by rw [hDl]; rfl)] at d2)
              | fail)
            refine bodyPost_ret (results_blk rfl _ _ _ (bytesV (dblL b)) 22 16 rfl d2 row22 (by rw [bytesV_size, hDl])) rfl ?_
            exact ⟨rfl, below_only hB o2 (by omega)⟩
          · rw [decide_eq_false h1] at hu
            rw [if_neg h1] at hfin
            replace h1 := Lib.hid h1
            rw [hfin.out] at d3
            clear c2 cf
            go_wp2_with (first
              | ((with_reducible refine wpList_load_blk rfl 22 (.tmp 5) rfl D 0 16 rfl d3 row22 ?_ (bytesV (dblL b)) ?_ ?_); (rw [bytesV_size, hDl]; exact Nat.le_refl _); (exact bytesV_whole _ _ hDl))
              | ((with_reducible refine wpList_store_blk rfl 22 (.tmp 2) (.tmp 49) rfl (w.heap.size + 1) 0 16 (bytesV (dblL b)) rfl rfl b1 row22 ?_ ?_ (bytesV_one _) ?_); (rw [bytesV_size, hDl]); (rw [bytesV_size]; decide); intro w3 d2 o2; rw [splice_all _ _ (by rw [hDl]; rfl)] at d2)
              | fail)
            refine bodyPost_ret (results_blk rfl _ _ _ (bytesV (dblL b)) 22 16 rfl d2 row22 (by rw [bytesV_size, hDl])) rfl ?_
            exact ⟨rfl, below_only hB o2 (by omega)⟩
end Go.Proofs.Ytdgmahgidmjniaa

/-! Message authentication codes: the subkeys, by the program and by the reference. -/
namespace Go.Proofs.Ytdgmahgidmjniaa
open Go.RowKit
attribute [-go_sem] Instr.build

theorem results_blk2 {P : Program} {fn : Func} {p q : Tmp} {ty : TypeId} (h : fn.results = #[.cell p ty, .cell q ty]) (tmps : Array Value) (w : World) (b b' : Nat) (C D : Array Value) (t : TypeId) (n : Nat)
    (hp : tmps.getD p undef = .pointer (some ⟨b, 0, none⟩)) (hq : tmps.getD q undef = .pointer (some ⟨b', 0, none⟩)) (hb : Blk w b C t) (hd : Blk w b' D t) (hr : RowTy P ty n) (hn : C.size = n) (hm : D.size = n) :
    (results fn tmps).run P w = .ok (.tuple #[.agg C, .agg D]) w := by
  obtain ⟨⟨d, hu, hd'⟩, hi⟩ := hr
  have hp' : tmps[p]?.getD undef = .pointer (some ⟨b, 0, none⟩) := by simpa using hp
  have hq' : tmps[q]?.getD undef = .pointer (some ⟨b', 0, none⟩) := by simpa using hq
  have e1 := run_loadVar_row w b t ty C (0, 0) d hb hu (by cases d <;> first | rfl | cases hd') (by rw [hn]; exact hi)
  have e2 := run_loadVar_row w b' t ty D (0, 0) d hd hu (by cases d <;> first | rfl | cases hd') (by rw [hm]; exact hi)
  simp [results, h, hp', hq', asAddr, e1, e2]

/-- The subkeys. -/
def sub1 (key : List UInt8) : List UInt8 := dblL (encR (ksL key 160) Z16 10)
def sub2 (key : List UInt8) : List UInt8 := dblL (sub1 key)
theorem sub1_length (key : List UInt8) : (sub1 key).length = 16 := dblL_length _
theorem sub2_length (key : List UInt8) : (sub2 key).length = 16 := dblL_length _
theorem build22 (w : World) : (Instr.build 22 #[]).run Try.prog w = .ok (.agg (bytesV Z16)) w := run_build w 22 _ _ (by kernel_rfl)
set_option maxRecDepth 100000 in
set_option maxHeartbeats 4000000 in
theorem subkeys_any (key : List UInt8) (hk : key.length = 16) (w : World) :
    Calls Try.prog 49 #[.agg (bytesV key)] w fun e w' => e = .returned (.tuple #[.agg (bytesV (sub1 key)), .agg (bytesV (sub2 key))]) ∧ Below w.heap.size w w' := by
  have z1 : ∀ w, (zeroValue 22).run Try.prog w = .ok (.agg (bytesV Z16)) w := (zero_of_info zero22).1
  have z2 : ∀ w, (zeroValue 97).run Try.prog w = .ok (.agg (bytesV Z16)) w := (zero_of_info zero97).1
  have u1 := build22
  obtain ⟨K, hK⟩ : ∃ K, K = ksL key 160 := ⟨_, rfl⟩
  have hKl := Lib.hid (show K.length = 176 by rw [hK, ksL_length key hk])
  have hnew := fun w => new_any key hk w
  rw [← hK] at hnew
  obtain ⟨E, hE⟩ : ∃ E, E = encR K Z16 10 := ⟨_, rfl⟩
  have hEl := Lib.hid (show E.length = 16 by rw [hE, encR_length])
  have henc : ∀ (w : World) (g : Nat), Blk w g (bytesV (cip K)) 59 → Calls Try.prog 40 #[.pointer (some ⟨g, 0, none⟩), .agg (bytesV Z16)] w fun e w' => e = .returned (.agg (bytesV E)) ∧ Below w.heap.size w w' := fun w g h => by
    rw [hE]; exact encrypt_any K hKl.out Z16 rfl _ w (.inl ⟨g, rfl, h⟩)
  obtain ⟨A, hA⟩ : ∃ A, A = dblL E := ⟨_, rfl⟩
  obtain ⟨B', hB'⟩ : ∃ B', B' = dblL A := ⟨_, rfl⟩
  have h1 : sub1 key = A := by rw [hA, hE, hK]; rfl
  have h2 : sub2 key = B' := by rw [sub2, h1, hB']
  have hd1 := fun w => doubled_any E hEl.out w
  rw [← hA] at hd1
  have hAl := Lib.hid (show A.length = 16 by rw [hA, dblL_length])
  have hBl := Lib.hid (show B'.length = 16 by rw [hB', dblL_length])
  have hd2 := fun w => doubled_any A hAl.out w
  rw [← hB'] at hd2
  have H1 := Lib.hid h1
  have H2 := Lib.hid h2
  clear hK hE hA hB' h1 h2
  obtain ⟨W, hW⟩ : ∃ W, W = ((w.alloc (.cells (bytesV key) 22)).alloc (.cells (bytesV Z16) 22)).alloc (.cells (bytesV Z16) 22) := ⟨_, rfl⟩
  have b0 : Blk W w.heap.size (bytesV key) 22 := by rw [hW]; exact ((Blk.new' rfl).alloc _).alloc _
  have b1 : Blk W (w.heap.size + 1) (bytesV Z16) 22 := by rw [hW]; exact (Blk.new' (by simp)).alloc _
  have b2 : Blk W (w.heap.size + 1 + 1) (bytesV Z16) 22 := by rw [hW]; exact Blk.new' (by simp)
  have hB : Below w.heap.size w W := by rw [hW]; exact (((Below.refl _ _).alloc (Nat.le_refl _) _).alloc (by simp) _).alloc (by simp; omega) _
  have HW := Lib.hid hW
  clear hW
  go_enter Try.func49, Try.ntmps49
  go_wp2_with (first
    | ((with_reducible refine wpList_load_blk rfl 22 (.tmp 1) rfl w.heap.size 0 16 rfl (HW.out ▸ b0) row22 ?_ (bytesV key) ?_ ?_); (rw [bytesV_size, hk]; exact Nat.le_refl _); (exact bytesV_whole _ _ hk))
    | (go_at_call 39; rw [← HW.out]; refine (hnew _).mono ?_; rintro e w2 ⟨bC, rfl, hC, hb1⟩; replace b1 := b1.below hb1 b1.lt; replace b2 := b2.below hb1 b2.lt; replace hB := bnext hB hb1; clear hb1 b0)
    | (go_at_call 40; (with_reducible refine (henc _ _ hC).mono ?_); rintro e w3 ⟨rfl, hb1⟩; replace b1 := b1.below hb1 b1.lt; replace b2 := b2.below hb1 b2.lt; replace hB := bnext hB hb1; clear hb1 hC)
    | (go_at_call 72; (with_reducible refine (hd1 _).mono ?_); rintro e w4 ⟨rfl, hb1⟩; replace b1 := b1.below hb1 b1.lt; replace b2 := b2.below hb1 b2.lt; replace hB := bnext hB hb1; clear hb1; have n1 := b1.lt; have n2 := b2.lt)
    | ((with_reducible refine wpList_store_blk rfl 97 (.tmp 4) (.tmp 9) rfl w4.heap.size 0 16 (bytesV A) rfl rfl (C := bytesV Z16) (t := 97) ?_ row97 ?_ ?_ (bytesV_one _) ?_); (exact Blk.new' rfl); (rw [bytesV_size, hAl.out]); (rw [bytesV_size]; decide); intro w5 g1 ho2; rw [splice_all _ _ (by rw [hAl.out]; rfl)] at g1; have hb2 := below_only ((Below.refl w4.heap.size w4).alloc (Nat.le_refl _) (.cells (bytesV Z16) 97)) ho2 (Nat.le_refl _); replace b1 := b1.below hb2 b1.lt; replace b2 := b2.below hb2 b2.lt; replace hB := bnext hB hb2; clear hb2 ho2)
    | fail)
  obtain ⟨Sw, hSw⟩ : ∃ Sw : World → Prop, Sw = fun w' => w'.rangeAt w4.heap.size 0 (bytesV A).toList := ⟨_, rfl⟩
  have hr : ∀ w', Blk w' w4.heap.size (bytesV A) 97 → w'.rangeAt w4.heap.size 0 (bytesV A).toList := fun w' h => by
    have := h.range 0 16
    rwa [bytesV_whole A 16 hAl.out] at this
  have a0 : ∀ w', Blk w' w4.heap.size (bytesV A) 97 → Sw w' := fun w' h => by rw [hSw]; exact hr _ h
  have a1 : ∀ w', Sw w' → w'.rangeAt w4.heap.size 0 (bytesV A).toList := fun w' h => by rw [hSw] at h; exact h
  have r1 : (Try.prog.info? 97).map (·.size) = some (bytesV A).toList.length := by rw [Array.length_toList, bytesV_size, hAl.out]; exact row97.2
  have s0 := a0 _ g1.drew
  clear hSw hr
  refine wp_region_held_drew (S := Sw) (by kernel_rfl) s0 (fun hHeld => ?_)
  clear hHeld
  refine wpAnyH_takeD 0 (some 10) rfl rfl (by kernel_rfl) (by kernel_rfl) (by kernel_rfl) (fun _ _ _ h => h) (yieldsIf_load_mid rfl 97 _ rfl w4.heap.size 0 rfl (bytesV A).toList _ a1 Try.underlying97 rfl r1) (by assumption) ?_
  try simp only [Act.put, List.setIfInBounds_toArray, List.set_cons_zero, List.set_cons_succ]
  refine wpAnyH_takeD 1 (some 11) rfl rfl (by kernel_rfl) (by kernel_rfl) (by kernel_rfl) (fun _ _ _ h => h) (yieldsIf_load_mid rfl 97 _ rfl w4.heap.size 0 rfl (bytesV A).toList _ a1 Try.underlying97 rfl r1) (by assumption) ?_
  try simp only [Act.put, List.setIfInBounds_toArray, List.set_cons_zero, List.set_cons_succ, Array.toArray_toList]
  refine wpAnyH_one 2 rfl (by kernel_rfl) (fun K' hK' => ?_)
  go_simp
  (go_at_call 72; (with_reducible refine (hd2 _).mono ?_); rintro e w6 ⟨rfl, hb6⟩)
  go_wp2
  have g3 := g1.drew.below hb6 g1.lt
  have b3 := b1.drew.below hb6 b1.lt
  have b4 := b2.drew.below hb6 b2.lt
  have hB3 := bnext hB.drew hb6
  have s3 := a0 _ g3
  refine hK'.out _ _ (by assumption) ?_; clear hK' K'; try simp only [Act.put, List.setIfInBounds_toArray, List.set_cons_zero, List.set_cons_succ]
  refine wpAnyH_one 3 rfl (by kernel_rfl) (fun K' hK' => ?_)
  refine ite_go rfl ?_
  refine wp_store_blk 22 (.tmp 2) (.tmp 10) rfl (w.heap.size + 1) 0 16 (bytesV A) rfl rfl b3 row22 (by rw [bytesV_size, hAl.out]) (by rw [bytesV_size]; decide) (bytesV_one _) ?_
  intro w7 d1 o7
  rw [splice_all _ _ (by rw [hAl.out]; rfl)] at d1
  have g4 := g3.only o7 (by omega)
  have b5 := b4.only o7 (by omega)
  have hB4 := below_only hB3 o7 (by omega)
  have s4 := a0 _ g4
  refine hK'.out _ _ (by assumption) ?_; clear hK' K'; try simp only [Act.put, List.setIfInBounds_toArray, List.set_cons_zero, List.set_cons_succ]
  refine wpAnyH_one 4 rfl (by kernel_rfl) (fun K' hK' => ?_)
  refine ite_go rfl ?_
  refine wp_store_blk 22 (.tmp 3) (.tmp 12) rfl (w.heap.size + 1 + 1) 0 16 (bytesV B') rfl rfl b5 row22 (by rw [bytesV_size, hBl.out]) (by rw [bytesV_size]; decide) (bytesV_one _) ?_
  intro w8 d2 o8
  rw [splice_all _ _ (by rw [hBl.out]; rfl)] at d2
  have g5 := g4.only o8 (by omega)
  have d3 := d1.only o8 (by omega)
  have hB5 := below_only hB4 o8 (by omega)
  have s5 := a0 _ g5
  refine hK'.out _ _ (by assumption) ?_; clear hK' K'; try simp only [Act.put, List.setIfInBounds_toArray, List.set_cons_zero, List.set_cons_succ]
  refine wpAnyH_done (by kernel_rfl) ?_ _
  go_wp2
  refine bodyPost_ret (results_blk2 rfl _ _ _ _ (bytesV A) (bytesV B') 22 16 rfl rfl d3 d2 row22 (by rw [bytesV_size, hAl.out]) (by rw [bytesV_size, hBl.out])) rfl ?_
  rw [H1.out, H2.out]
  exact ⟨rfl, hB5⟩

set_option maxRecDepth 100000 in
set_option maxHeartbeats 4000000 in
theorem refsubkeys_any (key : List UInt8) (hk : key.length = 16) (w : World) :
    Calls Try.prog 50 #[.agg (bytesV key)] w fun e w' => e = .returned (.tuple #[.agg (bytesV (sub1 key)), .agg (bytesV (sub2 key))]) ∧ Below w.heap.size w w' := by
  have z1 : ∀ w, (zeroValue 22).run Try.prog w = .ok (.agg (bytesV Z16)) w := (zero_of_info zero22).1
  have u1 := build22
  obtain ⟨E, hE⟩ : ∃ E, E = encR (ksL key 160) Z16 10 := ⟨_, rfl⟩
  have hEl := Lib.hid (show E.length = 16 by rw [hE, encR_length])
  have henc := fun w => refencrypt_any key Z16 hk rfl w
  rw [← hE] at henc
  obtain ⟨A, hA⟩ : ∃ A, A = dblL E := ⟨_, rfl⟩
  obtain ⟨B', hB'⟩ : ∃ B', B' = dblL A := ⟨_, rfl⟩
  have h1 : sub1 key = A := by rw [hA, hE]; rfl
  have h2 : sub2 key = B' := by rw [sub2, h1, hB']
  have hd1 := fun w => refdouble_any E hEl.out w
  rw [← hA] at hd1
  have hAl := Lib.hid (show A.length = 16 by rw [hA, dblL_length])
  have hBl := Lib.hid (show B'.length = 16 by rw [hB', dblL_length])
  have hd2 := fun w => refdouble_any A hAl.out w
  rw [← hB'] at hd2
  have H1 := Lib.hid h1
  have H2 := Lib.hid h2
  clear hE hA hB' h1 h2
  obtain ⟨W, hW⟩ : ∃ W, W = ((w.alloc (.cells (bytesV key) 22)).alloc (.cells (bytesV Z16) 22)).alloc (.cells (bytesV Z16) 22) := ⟨_, rfl⟩
  have b0 : Blk W w.heap.size (bytesV key) 22 := by rw [hW]; exact ((Blk.new' rfl).alloc _).alloc _
  have b1 : Blk W (w.heap.size + 1) (bytesV Z16) 22 := by rw [hW]; exact (Blk.new' (by simp)).alloc _
  have b2 : Blk W (w.heap.size + 1 + 1) (bytesV Z16) 22 := by rw [hW]; exact Blk.new' (by simp)
  have hB : Below w.heap.size w W := by rw [hW]; exact (((Below.refl _ _).alloc (Nat.le_refl _) _).alloc (by simp) _).alloc (by simp; omega) _
  have HW := Lib.hid hW
  clear hW
  go_enter Try.func50, Try.ntmps50
  go_wp2_with (first
    | ((with_reducible refine wpList_load_blk rfl 22 (.tmp 1) rfl w.heap.size 0 16 rfl (HW.out ▸ b0) row22 ?_ (bytesV key) ?_ ?_); (rw [bytesV_size, hk]; exact Nat.le_refl _); (exact bytesV_whole _ _ hk))
    | (go_at_call 41; rw [← HW.out]; (with_reducible refine (henc _).mono ?_); rintro e w3 ⟨rfl, hb1⟩; replace b1 := b1.below hb1 b1.lt; replace b2 := b2.below hb1 b2.lt; replace hB := bnext hB hb1; clear hb1)
    | (go_at_call 73; (with_reducible refine (hd1 _).mono ?_); rintro e w4 ⟨rfl, hb1⟩; replace b1 := b1.below hb1 b1.lt; replace b2 := b2.below hb1 b2.lt; replace hB := bnext hB hb1; clear hb1; have n1 := b1.lt; have n2 := b2.lt)
    | ((with_reducible refine wpList_store_blk rfl 22 (.tmp 4) (.tmp 8) rfl w4.heap.size 0 16 (bytesV A) rfl rfl (C := bytesV Z16) (t := 22) ?_ row22 ?_ ?_ (bytesV_one _) ?_); (exact Blk.new' rfl); (rw [bytesV_size, hAl.out]); (rw [bytesV_size]; decide); intro w5 g1 ho2; rw [splice_all _ _ (by rw [hAl.out]; rfl)] at g1; have hb2 := below_only ((Below.refl w4.heap.size w4).alloc (Nat.le_refl _) (.cells (bytesV Z16) 22)) ho2 (Nat.le_refl _); replace b1 := b1.below hb2 b1.lt; replace b2 := b2.below hb2 b2.lt; replace hB := bnext hB hb2; clear hb2 ho2)
    | fail)
  obtain ⟨Sw, hSw⟩ : ∃ Sw : World → Prop, Sw = fun w' => w'.rangeAt w4.heap.size 0 (bytesV A).toList := ⟨_, rfl⟩
  have hr : ∀ w', Blk w' w4.heap.size (bytesV A) 22 → w'.rangeAt w4.heap.size 0 (bytesV A).toList := fun w' h => by
    have := h.range 0 16
    rwa [bytesV_whole A 16 hAl.out] at this
  have a0 : ∀ w', Blk w' w4.heap.size (bytesV A) 22 → Sw w' := fun w' h => by rw [hSw]; exact hr _ h
  have a1 : ∀ w', Sw w' → w'.rangeAt w4.heap.size 0 (bytesV A).toList := fun w' h => by rw [hSw] at h; exact h
  have r1 : (Try.prog.info? 22).map (·.size) = some (bytesV A).toList.length := by rw [Array.length_toList, bytesV_size, hAl.out]; exact row22.2
  have s0 := a0 _ g1.drew
  clear hSw hr
  refine wp_region_held_drew (S := Sw) (by kernel_rfl) s0 (fun hHeld => ?_)
  clear hHeld
  refine wpAnyH_takeD 0 (some 9) rfl rfl (by kernel_rfl) (by kernel_rfl) (by kernel_rfl) (fun _ _ _ h => h) (yieldsIf_load_mid rfl 22 _ rfl w4.heap.size 0 rfl (bytesV A).toList _ a1 Try.underlying22 rfl r1) (by assumption) ?_
  try simp only [Act.put, List.setIfInBounds_toArray, List.set_cons_zero, List.set_cons_succ]
  refine wpAnyH_takeD 1 (some 10) rfl rfl (by kernel_rfl) (by kernel_rfl) (by kernel_rfl) (fun _ _ _ h => h) (yieldsIf_load_mid rfl 22 _ rfl w4.heap.size 0 rfl (bytesV A).toList _ a1 Try.underlying22 rfl r1) (by assumption) ?_
  try simp only [Act.put, List.setIfInBounds_toArray, List.set_cons_zero, List.set_cons_succ, Array.toArray_toList]
  refine wpAnyH_one 2 rfl (by kernel_rfl) (fun K' hK' => ?_)
  go_simp
  (go_at_call 73; (with_reducible refine (hd2 _).mono ?_); rintro e w6 ⟨rfl, hb6⟩)
  go_wp2
  have g3 := g1.drew.below hb6 g1.lt
  have b3 := b1.drew.below hb6 b1.lt
  have b4 := b2.drew.below hb6 b2.lt
  have hB3 := bnext hB.drew hb6
  have s3 := a0 _ g3
  refine hK'.out _ _ (by assumption) ?_; clear hK' K'; try simp only [Act.put, List.setIfInBounds_toArray, List.set_cons_zero, List.set_cons_succ]
  refine wpAnyH_one 3 rfl (by kernel_rfl) (fun K' hK' => ?_)
  refine ite_go rfl ?_
  refine wp_store_blk 22 (.tmp 2) (.tmp 9) rfl (w.heap.size + 1) 0 16 (bytesV A) rfl rfl b3 row22 (by rw [bytesV_size, hAl.out]) (by rw [bytesV_size]; decide) (bytesV_one _) ?_
  intro w7 d1 o7
  rw [splice_all _ _ (by rw [hAl.out]; rfl)] at d1
  have g4 := g3.only o7 (by omega)
  have b5 := b4.only o7 (by omega)
  have hB4 := below_only hB3 o7 (by omega)
  have s4 := a0 _ g4
  refine hK'.out _ _ (by assumption) ?_; clear hK' K'; try simp only [Act.put, List.setIfInBounds_toArray, List.set_cons_zero, List.set_cons_succ]
  refine wpAnyH_one 4 rfl (by kernel_rfl) (fun K' hK' => ?_)
  refine ite_go rfl ?_
  refine wp_store_blk 22 (.tmp 3) (.tmp 11) rfl (w.heap.size + 1 + 1) 0 16 (bytesV B') rfl rfl b5 row22 (by rw [bytesV_size, hBl.out]) (by rw [bytesV_size]; decide) (bytesV_one _) ?_
  intro w8 d2 o8
  rw [splice_all _ _ (by rw [hBl.out]; rfl)] at d2
  have g5 := g4.only o8 (by omega)
  have d3 := d1.only o8 (by omega)
  have hB5 := below_only hB4 o8 (by omega)
  have s5 := a0 _ g5
  refine hK'.out _ _ (by assumption) ?_; clear hK' K'; try simp only [Act.put, List.setIfInBounds_toArray, List.set_cons_zero, List.set_cons_succ]
  refine wpAnyH_done (by kernel_rfl) ?_ _
  go_wp2
  refine bodyPost_ret (results_blk2 rfl _ _ _ _ (bytesV A) (bytesV B') 22 16 rfl rfl d3 d2 row22 (by rw [bytesV_size, hAl.out]) (by rw [bytesV_size, hBl.out])) rfl ?_
  rw [H1.out, H2.out]
  exact ⟨rfl, hB5⟩

set_option maxRecDepth 100000 in
set_option maxHeartbeats 4000000 in
theorem plus_any (a b : List UInt8) (ha : a.length = 16) (hb : b.length = 16) (w : World) :
    Calls Try.prog 87 #[.agg (bytesV a), .agg (bytesV b)] w fun e w' => e = .returned (.agg (bytesV (xrL a b))) ∧ Below w.heap.size w w' := by
  have z1 : ∀ w, (zeroValue 97).run Try.prog w = .ok (.agg (bytesV Z16)) w := (zero_of_info zero97).1
  obtain ⟨M, hM⟩ : ∃ M, M = xrL a b := ⟨_, rfl⟩
  have hMl := Lib.hid (show M.length = 16 by rw [hM, xrL_length]; omega)
  have hMg : Hid (∀ k, k < 16 → x8 (gd a k) (gd b k) = gd M k) := fun k hk => by
    rw [hM, xrL]
    simp [gd, ha, hb, hk]
  have hix : Hid (∀ (k : Nat) (w : World), k < 16 → (Instr.index 97 (.agg (bytesV b)) (.int .i64 k)).run Try.prog w = .ok (.int .u8 (gd b k).toNat) w) := fun k w hk => by
    exact run_index_agg Try.underlying97 Try.underlying5 (by kernel_rfl) _ _ _ k rfl hk _ (by rw [bytesV_gd _ _ (by omega)]) _
  rw [← hM]
  have HM := Lib.hid hM
  clear hM
  obtain ⟨W, hW⟩ : ∃ W, W = ((w.alloc (.cells (bytesV a) 97)).alloc (.cells (bytesV b) 97)).alloc (.cells (bytesV Z16) 97) := ⟨_, rfl⟩
  have b0 : Blk W w.heap.size (bytesV (M.take 0 ++ a.drop 0)) 97 := by rw [hW]; exact ((Blk.new' rfl).alloc _).alloc _
  have b1 : Blk W (w.heap.size + 1) (bytesV b) 97 := by rw [hW]; exact (Blk.new' (by simp)).alloc _
  have b2 : Blk W (w.heap.size + 1 + 1) (bytesV Z16) 97 := by rw [hW]; exact Blk.new' (by simp)
  have hB : Below w.heap.size w W := by rw [hW]; exact (((Below.refl _ _).alloc (Nat.le_refl _) _).alloc (by simp) _).alloc (by simp; omega) _
  have HW := Lib.hid hW
  clear hW
  have s5 : (Try.prog.info? 5).map (·.size) = some 1 := by kernel_rfl
  go_enter Try.func87, Try.ntmps87
  go_wp2_with (first
    | (rw [← HW.out]; (with_reducible refine wpList_load_blk rfl 97 (.tmp 3) rfl (w.heap.size + 1) 0 16 rfl b1 row97 ?_ (bytesV b) ?_ ?_); (rw [bytesV_size, hb]; exact Nat.le_refl _); (exact bytesV_whole _ _ hb))
    | fail)
  obtain ⟨V, hV⟩ : ∃ V, V = bytesV b := ⟨_, rfl⟩
  rw [← hV] at hix ⊢
  clear hV
  go_loopw [8] (fun t8 wr => ∃ k : Nat, k ≤ 16 ∧ t8 = .int .i64 k ∧ Blk wr w.heap.size (bytesV (M.take k ++ a.drop k)) 97 ∧ Blk wr (w.heap.size + 1 + 1) (bytesV Z16) 97 ∧ Below w.heap.size w wr) (fun t _ => 16 - (intOf t).toNat)
  case atStart => exact ⟨0, by omega, rfl, b0, b2, hB⟩
  case round =>
    clear b0 b1 b2 hB HW z1
    obtain ⟨k, hk, rfl, b0, b2, hB⟩ := hrel
    by_cases hlt : k < 16
    · have hls : (M.take k ++ a.drop k).length = 16 := by simp [hMl.out, ha]; omega
      have c0 := b0.gd k (by omega)
      have hga : gd (M.take k ++ a.drop k) k = gd a k := by
        rw [gd_append_right _ _ _ (by simp [hMl.out]; omega), gd_drop]
        congr 1; simp [hMl.out]; omega
      rw [hga] at c0
      have hf := b0.frozen k
      have hi := hix.out k wr hlt
      have hx8 := bits_x8
      have hset : ∀ x, x = gd M k → (bytesV (M.take k ++ a.drop k)).setIfInBounds k (.int .u8 x.toNat) = bytesV (M.take (k + 1) ++ a.drop (k + 1)) := fun x hx => by
        rw [hx]
        have h2 := bytesV_set (M.take k ++ a.drop k) k (gd M k)
        rw [take_set_succ _ _ _ (by rw [hMl.out]; exact hlt) (by rw [hMl.out, ha]; exact Nat.le_refl _)] at h2
        exact h2
      have HS := Lib.hid hset
      clear hset hga
      go_wp2_with (first
        | ((with_reducible refine wpList_store_int rfl 5 (.tmp 17) (.tmp 16) rfl w.heap.size k .u8 _ rfl rfl b0 s5 ?_ ?_); (rw [bytesV_size, hls]; exact hlt); intro w2 d1 o1; rw [HS.out _ (hMg.out k hlt)] at d1; replace b2 := b2.only o1 (by omega); replace hB := below_only hB o1 (Nat.le_refl _); clear o1 b0)
        | fail)
      first
        | exact ⟨⟨k + 1, by omega, by go_num, d1, b2, hB⟩, by simp [intOf]; omega⟩
        | (refine ⟨?_, by simp [intOf]; omega⟩; (repeat apply Exists.intro); exact ⟨⟨k + 1, by omega, by go_num, d1, b2, hB⟩, rfl⟩)
    · obtain rfl : k = 16 := by omega
      have e1 : M.take 16 ++ a.drop 16 = M := by
        rw [List.take_of_length_le (by rw [hMl.out]; exact Nat.le_refl _), List.drop_eq_nil_of_le (by omega), List.append_nil]
      rw [e1] at b0
      go_wp2_with (first
        | ((with_reducible refine wpList_load_blk rfl 97 (.tmp 2) rfl w.heap.size 0 16 rfl b0 row97 ?_ (bytesV M) ?_ ?_); (rw [bytesV_size, hMl.out]; exact Nat.le_refl _); (exact bytesV_whole _ _ hMl.out))
        | ((with_reducible refine wpList_store_blk rfl 97 (.tmp 4) (.tmp 19) rfl (w.heap.size + 1 + 1) 0 16 (bytesV M) rfl rfl b2 row97 ?_ ?_ (bytesV_one _) ?_); (rw [bytesV_size, hMl.out]); (rw [bytesV_size]; decide); intro w8 hb8 ho8; rw [splice_all _ _ (by rw [hMl.out]; rfl)] at hb8)
        | fail)
      refine bodyPost_ret (results_blk rfl _ _ _ (bytesV M) 97 16 rfl hb8 row97 (by rw [bytesV_size, hMl.out])) rfl ?_
      exact ⟨rfl, below_only hB ho8 (by omega)⟩
end Go.Proofs.Ytdgmahgidmjniaa
