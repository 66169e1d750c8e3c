/-
  Message authentication codes: Sum, the errors, known; the statements CmacSubkeys and CmacSums.
-/
import Derived.Test.YtdgmahgidmjniaaCmcG
namespace Go.Proofs.Ytdgmahgidmjniaa
open Go.RowKit
attribute [-go_sem] Instr.build

set_option maxRecDepth 100000 in
set_option maxHeartbeats 4000000 in
theorem cmacsum_ok (key : List UInt8) (hk : key.length = 16) (v : Value) (l : List UInt8) (w : World) (hv : Bsl w v l) (hlen : l.length ≤ 16384) :
    Calls Try.prog 52 #[.agg (bytesV key), v] w fun e w' => e = .returned (.tuple #[.agg (bytesV (cmacL key l)), .int .i64 0]) ∧ Below w.heap.size w w' := by
  have z2 : ∀ w, (zeroValue 22).run Try.prog w = .ok (.agg (bytesV Z16)) w := (zero_of_info zero22).1
  have hsum := fun v w h => sum_any key hk v l w h (by omega)
  have hcl := Lib.hid (cmacL_length key l)
  obtain ⟨CM, hCM⟩ : ∃ CM, CM = cmacL key l := ⟨_, rfl⟩
  rw [← hCM] at hsum hcl ⊢
  clear hCM
  obtain ⟨a, cap, rfl, q1, q2, q3, q4⟩ := hv
  have hv : Bsl w (.slice a l.length cap) l := ⟨a, cap, rfl, q1, q2, q3, q4⟩
  clear q1 q2 q3 q4
  obtain ⟨W, hW⟩ : ∃ W, W = (w.alloc (.cells (bytesV key) 22)).alloc (.cells (bytesV Z16) 22) := ⟨_, rfl⟩
  have b0 : Blk W w.heap.size (bytesV key) 22 := by rw [hW]; exact (Blk.new' rfl).alloc _
  have b1 : Blk W (w.heap.size + 1) (bytesV Z16) 22 := by rw [hW]; exact Blk.new' (by simp)
  have hB : Below w.heap.size w W := by rw [hW]; exact ((Below.refl _ _).alloc (Nat.le_refl _) _).alloc (by simp) _
  have hv' := hv.below hB
  have HW := Lib.hid hW
  clear hW
  have hli : (l.length : Int) ≤ 16384 := by omega
  go_enter Try.func52, Try.ntmps52
  go_wp2_with (first
    | ((with_reducible refine wpList_load_blk rfl 22 (.tmp 2) rfl w.heap.size 0 16 rfl (HW.out ▸ b0) row22 ?_ (bytesV key) ?_ ?_); (rw [bytesV_size, hk]; exact Nat.le_refl _); (exact bytesV_whole _ _ hk))
    | (go_at_call 74; rw [← HW.out]; (with_reducible refine (hsum _ _ hv').mono ?_); rintro e w2 ⟨rfl, hb1⟩; replace b1 := b1.below hb1 b1.lt; replace hB := bnext hB hb1; clear hb1)
    | ((with_reducible refine wpList_store_blk rfl 22 (.tmp 4) (.tmp 12) rfl (w.heap.size + 1) 0 16 (bytesV CM) rfl rfl b1 row22 ?_ ?_ (bytesV_one _) ?_); (rw [bytesV_size, hcl.out]); (rw [bytesV_size]; decide); intro w3 d1 o1; rw [splice_all _ _ (by rw [hcl.out]; rfl)] at d1)
    | fail)
  refine bodyPost_ret (results_blk_tmp rfl _ _ _ (bytesV CM) 22 16 _ rfl rfl d1 row22 (by rw [bytesV_size, hcl.out])) rfl ?_
  exact ⟨rfl, below_only hB o1 (by omega)⟩
set_option maxRecDepth 100000 in
set_option maxHeartbeats 4000000 in
theorem cmacsum_long (key : List UInt8) (a : Option Addr) (n cap : Nat) (hn : 16384 < n) (w : World) :
    Calls Try.prog 52 #[.agg (bytesV key), .slice a n cap] w fun e w' => e = .returned (.tuple #[.agg (bytesV Z16), .int .i64 4]) ∧ Below w.heap.size w w' := by
  have z2 : ∀ w, (zeroValue 22).run Try.prog w = .ok (.agg (bytesV Z16)) w := (zero_of_info zero22).1
  have u1 := build22
  obtain ⟨W, hW⟩ : ∃ W, W = (w.alloc (.cells (bytesV key) 22)).alloc (.cells (bytesV Z16) 22) := ⟨_, rfl⟩
  have b1 : Blk W (w.heap.size + 1) (bytesV Z16) 22 := by rw [hW]; exact Blk.new' (by simp)
  have hB : Below w.heap.size w W := by rw [hW]; exact ((Below.refl _ _).alloc (Nat.le_refl _) _).alloc (by simp) _
  have HW := Lib.hid hW
  clear hW
  have hli : (16384 : Int) < n := by omega
  go_enter Try.func52, Try.ntmps52
  go_wp2_with (first
    | (rw [← HW.out]; (with_reducible refine wpList_store_blk rfl 22 (.tmp 4) (.tmp 9) rfl (w.heap.size + 1) 0 16 (bytesV Z16) rfl rfl b1 row22 ?_ ?_ (bytesV_one _) ?_); (rfl); (rw [bytesV_size]; decide); intro w3 d1 o1; rw [splice_all _ _ rfl] at d1)
    | fail)
  refine bodyPost_ret (results_blk_tmp rfl _ _ _ (bytesV Z16) 22 16 _ rfl rfl d1 row22 rfl) rfl ?_
  exact ⟨rfl, below_only hB o1 (by omega)⟩
set_option maxRecDepth 100000 in
set_option maxHeartbeats 4000000 in
theorem code_err (key : List UInt8) (c b d : Int) (hbad : b < 0 ∨ 31 < b ∨ (d ≠ 0 ∧ d ≠ 1)) (a : Option Addr) (n cap : Nat) (w : World) :
    Calls Try.prog 54 #[.agg (bytesV key), .int .u32 c, .int .i64 b, .int .i64 d, .slice a n cap] w fun e w' => e = .returned (.tuple #[.int .u32 0, .int .i64 2]) ∧ Below w.heap.size w w' := by
  have z1 : ∀ w, (zeroValue 28).run Try.prog w = .ok (.agg (bytesV Z8)) w := (zero_of_info zero28).1
  have hB : Below w.heap.size w (w.alloc (.cells (bytesV key) 22)) := (Below.refl w.heap.size w).alloc (Nat.le_refl _) (.cells (bytesV key) 22)
  go_enter Try.func54, Try.ntmps54
  go_wp2_with (first
    | (go_at_call 26; (with_reducible refine (prefix_err c b d hbad _).mono ?_); rintro e w1 ⟨rfl, hb1⟩; replace hB := bnext hB hb1; clear hb1)
    | ((with_reducible refine wpList_store_blk rfl 28 (.tmp 12) (.tmp 23) rfl w1.heap.size 0 8 (bytesV Z8) rfl rfl (C := bytesV Z8) (t := 28) ?_ row28 ?_ ?_ (bytesV_one _) ?_); (exact Blk.new' rfl); (rfl); (rw [bytesV_size]; decide); intro w2 g1 ho2; clear g1; have hb2 := below_only ((Below.refl w1.heap.size w1).alloc (Nat.le_refl _) (.cells (bytesV Z8) 28)) ho2 (Nat.le_refl _); replace hB := bnext hB hb2; clear hb2 ho2)
    | fail)
  go_ret2
  exact ⟨rfl, hB⟩
set_option maxRecDepth 100000 in
set_option maxHeartbeats 4000000 in
theorem code_long (key : List UInt8) (c b d : Nat) (hc : c < 2 ^ 32) (hb : b ≤ 31) (hd : d ≤ 1) (a : Option Addr) (n cap : Nat) (hn : 16384 < n) (w : World) :
    Calls Try.prog 54 #[.agg (bytesV key), .int .u32 c, .int .i64 b, .int .i64 d, .slice a n cap] w fun e w' => e = .returned (.tuple #[.int .u32 0, .int .i64 4]) ∧ Below w.heap.size w w' := by
  have z1 : ∀ w, (zeroValue 28).run Try.prog w = .ok (.agg (bytesV Z8)) w := (zero_of_info zero28).1
  have hpre := prefix_ok c b d hc hb hd
  obtain ⟨p, hp⟩ : ∃ p, p = half (pre c b d) := ⟨_, rfl⟩
  have lp := Lib.hid (show p.length = 8 by rw [hp, len_half])
  rw [← hp] at hpre
  clear hp
  have hB : Below w.heap.size w (w.alloc (.cells (bytesV key) 22)) := (Below.refl w.heap.size w).alloc (Nat.le_refl _) (.cells (bytesV key) 22)
  have hn2 : (16384 : Int) < n := by omega
  go_enter Try.func54, Try.ntmps54
  go_wp2_with (first
    | (go_at_call 26; (with_reducible refine (hpre _).mono ?_); rintro e w1 ⟨rfl, hb1⟩; replace hB := bnext hB hb1; clear hb1)
    | ((with_reducible refine wpList_store_blk rfl 28 (.tmp 12) (.tmp 23) rfl w1.heap.size 0 8 (bytesV p) rfl rfl (C := bytesV Z8) (t := 28) ?_ row28 ?_ ?_ (bytesV_one _) ?_); (exact Blk.new' rfl); (rw [bytesV_size, lp.out]); (rw [bytesV_size]; decide); intro w2 g1 ho2; clear g1; have hb2 := below_only ((Below.refl w1.heap.size w1).alloc (Nat.le_refl _) (.cells (bytesV Z8) 28)) ho2 (Nat.le_refl _); replace hB := bnext hB hb2; clear hb2 ho2)
    | fail)
  go_ret2
  exact ⟨rfl, hB⟩
set_option maxRecDepth 100000 in
set_option maxHeartbeats 4000000 in
theorem known41 (w : World) : Calls Try.prog 51 #[] w fun e w' => e = .returned (.bool true) ∧ Below w.heap.size w w' := by
  have z2 : ∀ w, (zeroValue 22).run Try.prog w = .ok (.agg (bytesV Z16)) w := (zero_of_info zero22).1
  have u1 := build22
  have hce := fun w => code_err Z16 0 32 0 (by omega) none 0 0 w
  have hcs := fun w => cmacsum_ok Z16 rfl (.slice none 0 0) [] w (bsl_nil w) (by decide)
  have hcl := Lib.hid (cmacL_length Z16 [])
  obtain ⟨CM, hCM⟩ : ∃ CM, CM = cmacL Z16 [] := ⟨_, rfl⟩
  rw [← hCM] at hcs hcl
  clear hCM
  have hB := Below.refl w.heap.size w
  go_enter Try.func51, Try.ntmps51
  go_wp2_with (first
    | (go_at_call 54; (with_reducible refine (hce _).mono ?_); rintro e w1 ⟨rfl, hb1⟩; replace hB := bnext hB hb1; clear hb1)
    | (go_at_call 52; (with_reducible refine (hcs _).mono ?_); rintro e w2 ⟨rfl, hb2⟩; replace hB := bnext hB hb2; clear hb2)
    | ((with_reducible refine wpList_store_blk rfl 22 (.tmp 3) (.tmp 13) rfl w2.heap.size 0 16 (bytesV CM) rfl rfl (C := bytesV Z16) (t := 22) ?_ row22 ?_ ?_ (bytesV_one _) ?_); (exact Blk.new' rfl); (rw [bytesV_size, hcl.out]); (rw [bytesV_size]; decide); intro w3 g1 ho2; clear g1; have hb2 := below_only ((Below.refl w2.heap.size w2).alloc (Nat.le_refl _) (.cells (bytesV Z16) 22)) ho2 (Nat.le_refl _); replace hB := bnext hB hb2; clear hb2 ho2)
    | fail)
  go_ret
  exact ⟨rfl, hB⟩
set_option maxRecDepth 100000 in
set_option maxHeartbeats 4000000 in
theorem walk_CmacSubkeys (key : List UInt8) (hk : key.length = 16) (w : World) :
    Calls Try.prog 18 #[.agg (bytesV key)] w fun e w' => e = .returned (.bool true) ∧ Below w.heap.size w w' := by
  have z2 : ∀ w, (zeroValue 22).run Try.prog w = .ok (.agg (bytesV Z16)) w := (zero_of_info zero22).1
  have hs1 := fun w => subkeys_any key hk w
  have hs2 := fun w => refsubkeys_any key hk w
  obtain ⟨A, hA⟩ : ∃ A, A = sub1 key := ⟨_, rfl⟩
  obtain ⟨D, hD⟩ : ∃ D, D = sub2 key := ⟨_, rfl⟩
  have hAl := Lib.hid (show A.length = 16 by rw [hA, sub1_length])
  have hDl := Lib.hid (show D.length = 16 by rw [hD, sub2_length])
  rw [← hA, ← hD] at hs1 hs2
  clear hA hD
  have e1 : ∀ w, (binOp .eql 22 (.agg (bytesV A)) (.agg (bytesV A))).run Try.prog w = .ok (.bool true) w := fun w => by rw [run_eql22 _ _ hAl.out hAl.out, decide_self]
  have e2 : ∀ w, (binOp .eql 22 (.agg (bytesV D)) (.agg (bytesV D))).run Try.prog w = .ok (.bool true) w := fun w => by rw [run_eql22 _ _ hDl.out hDl.out, decide_self]
  have hg := guard22'
  have b0 : Blk (w.alloc (.cells (bytesV key) 22)) w.heap.size (bytesV key) 22 := Blk.new' rfl
  have hB : Below w.heap.size w (w.alloc (.cells (bytesV key) 22)) := (Below.refl _ _).alloc (Nat.le_refl _) _
  go_enter Try.func18, Try.ntmps18
  go_wp2_with (first
    | ((with_reducible refine wpList_load_blk rfl 22 (.tmp 1) rfl w.heap.size 0 16 rfl b0 row22 ?_ (bytesV key) ?_ ?_); (rw [bytesV_size, hk]; exact Nat.le_refl _); (exact bytesV_whole _ _ hk))
    | (go_at_call 49; (with_reducible refine (hs1 _).mono ?_); rintro e w2 ⟨rfl, hb1⟩; replace b0 := b0.below hb1 b0.lt; replace hB := bnext hB hb1; clear hb1; (obtain ⟨V, hV⟩ : ∃ V, V = (w2.alloc (.cells (bytesV Z16) 22)).alloc (.cells (bytesV Z16) 22) := ⟨_, rfl⟩); have c0 : Blk V w2.heap.size (bytesV Z16) 22 := (by rw [hV]; exact (Blk.new' rfl).alloc _); have c1 : Blk V (w2.heap.size + 1) (bytesV Z16) 22 := (by rw [hV]; exact Blk.new' (by simp)); have hbV : Below w2.heap.size w2 V := (by rw [hV]; exact ((Below.refl _ _).alloc (Nat.le_refl _) _).alloc (by simp) _); have HV := Lib.hid hV; clear hV; have n0 := b0.lt; replace b0 := b0.below hbV b0.lt; replace hB := bnext hB hbV)
    | (rw [← HV.out]; (with_reducible refine wpList_store_blk rfl 22 (.tmp 3) (.tmp 10) rfl w2.heap.size 0 16 (bytesV A) rfl rfl c0 row22 ?_ ?_ (bytesV_one _) ?_); (rw [bytesV_size, hAl.out]); (rw [bytesV_size]; decide); intro w3 d0 o3; rw [splice_all _ _ (by rw [hAl.out]; rfl)] at d0; replace c1 := c1.only o3 (by omega); replace b0 := b0.only o3 (by omega); replace hB := below_only hB o3 (by omega); clear o3 c0)
    | ((with_reducible refine wpList_store_blk rfl 22 (.tmp 4) (.tmp 11) rfl (w2.heap.size + 1) 0 16 (bytesV D) rfl rfl c1 row22 ?_ ?_ (bytesV_one _) ?_); (rw [bytesV_size, hDl.out]); (rw [bytesV_size]; decide); intro w4 d1 o4; rw [splice_all _ _ (by rw [hDl.out]; rfl)] at d1; replace d0 := d0.only o4 (by omega); replace b0 := b0.only o4 (by omega); replace hB := below_only hB o4 (by omega); clear o4 c1)
    | (go_at_call 50; (with_reducible refine (hs2 _).mono ?_); rintro e w5 ⟨rfl, hb5⟩; replace d0 := d0.below hb5 d0.lt; replace d1 := d1.below hb5 d1.lt; replace hB := bnext hB hb5; clear hb5; (obtain ⟨V2, hV2⟩ : ∃ V, V = (w5.alloc (.cells (bytesV Z16) 22)).alloc (.cells (bytesV Z16) 22) := ⟨_, rfl⟩); have c0 : Blk V2 w5.heap.size (bytesV Z16) 22 := (by rw [hV2]; exact (Blk.new' rfl).alloc _); have c1 : Blk V2 (w5.heap.size + 1) (bytesV Z16) 22 := (by rw [hV2]; exact Blk.new' (by simp)); have hbV2 : Below w5.heap.size w5 V2 := (by rw [hV2]; exact ((Below.refl _ _).alloc (Nat.le_refl _) _).alloc (by simp) _); have HV2 := Lib.hid hV2; clear hV2; have n1 := d0.lt; have n2 := d1.lt; replace d0 := d0.below hbV2 d0.lt; replace d1 := d1.below hbV2 d1.lt; have n3 := hB.size; replace hB := bnext hB hbV2)
    | (rw [← HV2.out]; (with_reducible refine wpList_store_blk rfl 22 (.tmp 5) (.tmp 15) rfl w5.heap.size 0 16 (bytesV A) rfl rfl c0 row22 ?_ ?_ (bytesV_one _) ?_); (rw [bytesV_size, hAl.out]); (rw [bytesV_size]; decide); intro w6 f0 o6; rw [splice_all _ _ (by rw [hAl.out]; rfl)] at f0; replace c1 := c1.only o6 (by omega); replace d0 := d0.only o6 (by omega); replace d1 := d1.only o6 (by omega); replace hB := below_only hB o6 (by omega); clear o6 c0)
    | ((with_reducible refine wpList_store_blk rfl 22 (.tmp 6) (.tmp 16) rfl (w5.heap.size + 1) 0 16 (bytesV D) rfl rfl c1 row22 ?_ ?_ (bytesV_one _) ?_); (rw [bytesV_size, hDl.out]); (rw [bytesV_size]; decide); intro w7 f1 o7; rw [splice_all _ _ (by rw [hDl.out]; rfl)] at f1; replace f0 := f0.only o7 (by omega); replace d0 := d0.only o7 (by omega); replace d1 := d1.only o7 (by omega); replace hB := below_only hB o7 (by omega); clear o7 c1)
    | ((with_reducible refine wpList_load_blk rfl 22 (.tmp 3) rfl w2.heap.size 0 16 rfl d0 row22 ?_ (bytesV A) ?_ ?_); (rw [bytesV_size, hAl.out]; exact Nat.le_refl _); (exact bytesV_whole _ _ hAl.out))
    | ((with_reducible refine wpList_load_blk rfl 22 (.tmp 5) rfl w5.heap.size 0 16 rfl f0 row22 ?_ (bytesV A) ?_ ?_); (rw [bytesV_size, hAl.out]; exact Nat.le_refl _); (exact bytesV_whole _ _ hAl.out))
    | ((with_reducible refine wpList_load_blk_g 22 (.tmp 4) rfl (w2.heap.size + 1) 0 16 rfl d1 row22 ?_ ?_ (bytesV D) ?_ ?_); (rfl); (rw [bytesV_size, hDl.out]; exact Nat.le_refl _); (exact bytesV_whole _ _ hDl.out))
    | ((with_reducible refine wpList_load_blk_g 22 (.tmp 6) rfl (w5.heap.size + 1) 0 16 rfl f1 row22 ?_ ?_ (bytesV D) ?_ ?_); (rfl); (rw [bytesV_size, hDl.out]; exact Nat.le_refl _); (exact bytesV_whole _ _ hDl.out))
    | (go_at_call 51; refine (known41 _).mono ?_; rintro e w8 ⟨rfl, hb8⟩; replace hB := bnext hB hb8; clear hb8)
    | fail)
  go_ret
  exact ⟨rfl, hB⟩
set_option maxRecDepth 100000 in
set_option maxHeartbeats 4000000 in
theorem cmacsums_ok (key : List UInt8) (hk : key.length = 16) (v : Value) (l : List UInt8) (w : World) (hv : Bsl w v l) (hlen : l.length ≤ 300) :
    Calls Try.prog 19 #[.agg (bytesV key), v] w fun e w' => e = .returned (.bool true) ∧ Below w.heap.size w w' := by
  have z2 : ∀ w, (zeroValue 22).run Try.prog w = .ok (.agg (bytesV Z16)) w := (zero_of_info zero22).1
  have hsum := fun v w h => cmacsum_ok key hk v l w h (by omega)
  have href := fun v w h => refsum_any key hk v l w h (by omega)
  have hcl := Lib.hid (cmacL_length key l)
  obtain ⟨CM, hCM⟩ : ∃ CM, CM = cmacL key l := ⟨_, rfl⟩
  rw [← hCM] at hsum href hcl
  clear hCM
  have e1 : ∀ w, (binOp .eql 22 (.agg (bytesV CM)) (.agg (bytesV CM))).run Try.prog w = .ok (.bool true) w := fun w => by rw [run_eql22 _ _ hcl.out hcl.out, decide_self]
  have hg := guard22'
  obtain ⟨a, cap, rfl, q1, q2, q3, q4⟩ := hv
  have hv : Bsl w (.slice a l.length cap) l := ⟨a, cap, rfl, q1, q2, q3, q4⟩
  have hown := fun w h => ownl_any l a cap w h q3 (by omega)
  have b0 : Blk (w.alloc (.cells (bytesV key) 22)) w.heap.size (bytesV key) 22 := Blk.new' rfl
  have hB : Below w.heap.size w (w.alloc (.cells (bytesV key) 22)) := (Below.refl _ _).alloc (Nat.le_refl _) _
  have hv' := hv.below hB
  have hbyt := q4.cells hB
  clear q1 q2 q3 q4 hv
  have hli : (l.length : Int) ≤ 300 := by omega
  go_enter Try.func19, Try.ntmps19
  go_wp2_with (first
    | (go_at_call 47; (with_reducible refine (hown _ hbyt).mono ?_); rintro e w1 ⟨o, rfl, ho1, hb1⟩; replace b0 := b0.below hb1 b0.lt; replace hv' := hv'.below hb1; replace hB := bnext hB hb1; have hO := bsl_own ho1; clear ho1 hb1 hbyt hown)
    | ((with_reducible refine wpList_load_blk rfl 22 (.tmp 2) rfl w.heap.size 0 16 rfl b0 row22 ?_ (bytesV key) ?_ ?_); (rw [bytesV_size, hk]; exact Nat.le_refl _); (exact bytesV_whole _ _ hk))
    | (go_at_call 52; (with_reducible refine (hsum _ _ hO).mono ?_); rintro e w2 ⟨rfl, hb2⟩; replace b0 := b0.below hb2 b0.lt; replace hv' := hv'.below hb2; replace hO := hO.below hb2; replace hB := bnext hB hb2; clear hb2)
    | ((with_reducible refine wpList_store_blk rfl 22 (.tmp 6) (.tmp 18) rfl w2.heap.size 0 16 (bytesV CM) rfl rfl (C := bytesV Z16) (t := 22) ?_ row22 ?_ ?_ (bytesV_one _) ?_); (exact Blk.new' rfl); (rw [bytesV_size, hcl.out]); (rw [bytesV_size]; decide); intro w3 g1 ho2; rw [splice_all _ _ (by rw [hcl.out]; rfl)] at g1; have hb2 := below_only ((Below.refl w2.heap.size w2).alloc (Nat.le_refl _) (.cells (bytesV Z16) 22)) ho2 (Nat.le_refl _); replace b0 := b0.below hb2 b0.lt; replace hv' := hv'.below hb2; replace hO := hO.below hb2; replace hB := bnext hB hb2; clear hb2 ho2)
    | fail)
  obtain ⟨Sw, hSw⟩ : ∃ Sw : World → Prop, Sw = fun w' => Blk w' w.heap.size (bytesV key) 22 ∧ Blk w' w2.heap.size (bytesV CM) 22 ∧ Bsl w' (.slice a l.length cap) l ∧ Bsl w' o l ∧ Below w.heap.size w w' := ⟨_, rfl⟩
  have s0 : Sw w3.drew := by rw [hSw]; exact ⟨b0.drew, g1.drew, hv'.below (Below.refl _ w3).drew, hO.below (Below.refl _ w3).drew, hB.drew⟩
  have hr : ∀ (w' : World) (g : Nat) (L : List UInt8), L.length = 16 → Blk w' g (bytesV L) 22 → w'.rangeAt g 0 (bytesV L).toList := fun w' g L hL h => by
    have := h.range 0 16
    rwa [bytesV_whole L 16 hL] at this
  have a1 : ∀ w', Sw w' → w'.rangeAt w.heap.size 0 (bytesV key).toList := fun w' h => by rw [hSw] at h; exact hr _ _ _ hk h.1
  have a2 : ∀ w', Sw w' → w'.rangeAt w2.heap.size 0 (bytesV CM).toList := fun w' h => by rw [hSw] at h; exact hr _ _ _ hcl.out h.2.1
  have a3 : ∀ w', Sw w' → Bsl w' (.slice a l.length cap) l := fun w' h => by rw [hSw] at h; exact h.2.2.1
  have a4 : ∀ w', Sw w' → Bsl w' o l := fun w' h => by rw [hSw] at h; exact h.2.2.2.1
  have a5 : ∀ w', Sw w' → Below w.heap.size w w' := fun w' h => by rw [hSw] at h; exact h.2.2.2.2
  have a7 : ∀ w' w'', Sw w' → Below w'.heap.size w' w'' → Sw w'' := fun w' w'' h k => by
    rw [hSw] at h ⊢
    exact ⟨h.1.below k h.1.lt, h.2.1.below k h.2.1.lt, h.2.2.1.below k, h.2.2.2.1.below k, bnext h.2.2.2.2 k⟩
  have r1 : (Try.prog.info? 22).map (·.size) = some (bytesV key).toList.length := by rw [Array.length_toList, bytesV_size, hk]; exact row22.2
  have r2 : (Try.prog.info? 22).map (·.size) = some (bytesV CM).toList.length := by rw [Array.length_toList, bytesV_size, hcl.out]; exact row22.2
  clear hr hSw b0 g1 hv' hO hB hsum
  refine wp_region_held_drew (S := Sw) (by kernel_rfl) s0 (fun hHeld => ?_)
  clear hHeld
  refine wpAnyH_one 0 rfl (by kernel_rfl) (fun K' hK' => ?_)
  go_simp
  refine hK'.out _ _ (by assumption) ?_; clear hK' K'; try simp only [Act.put, List.setIfInBounds_toArray, List.set_cons_zero, List.set_cons_succ]
  refine wpAnyH_one 1 rfl (by kernel_rfl) (fun K' hK' => ?_)
  go_simp
  refine hK'.out _ _ (by assumption) ?_; clear hK' K'; try simp only [Act.put, List.setIfInBounds_toArray, List.set_cons_zero, List.set_cons_succ]
  refine wpAnyH_one 2 rfl (by kernel_rfl) (fun K' hK' => ?_)
  go_simp
  refine hK'.out _ _ (by assumption) ?_; clear hK' K'; try simp only [Act.put, List.setIfInBounds_toArray, List.set_cons_zero, List.set_cons_succ]
  refine wpAnyH_takeD 3 (some 23) rfl rfl (by kernel_rfl) (by kernel_rfl) (by kernel_rfl) (fun _ _ _ h => h) (yieldsIf_load_mid rfl 22 _ rfl w2.heap.size 0 rfl (bytesV CM).toList _ a2 Try.underlying22 rfl r2) (by assumption) ?_
  try simp only [Act.put, List.setIfInBounds_toArray, List.set_cons_zero, List.set_cons_succ, Array.toArray_toList]
  refine wpAnyH_takeD 4 (some 24) rfl rfl (by kernel_rfl) (by kernel_rfl) (by kernel_rfl) (fun _ _ _ h => h) (yieldsIf_load_mid rfl 22 _ rfl w.heap.size 0 rfl (bytesV key).toList _ a1 Try.underlying22 rfl r1) (by assumption) ?_
  try simp only [Act.put, List.setIfInBounds_toArray, List.set_cons_zero, List.set_cons_succ, Array.toArray_toList]
  refine wpAnyH_takeD 5 (some 25) rfl rfl (by kernel_rfl) (by kernel_rfl) (by kernel_rfl) (fun _ _ _ h => h) (yieldsIf_move rfl _ rfl (.slice a l.length cap) rfl) (by assumption) ?_
  try simp only [Act.put, List.setIfInBounds_toArray, List.set_cons_zero, List.set_cons_succ, Array.toArray_toList]
  refine wpAnyH_one 6 rfl (by kernel_rfl) (fun K' hK' => ?_)
  go_simp
  (go_at_call 53; (with_reducible refine (href _ _ (a3 _ s0)).mono ?_); rintro e w5 ⟨rfl, hb5⟩; have s1 := a7 _ _ s0 hb5; clear hb5)
  go_wp2
  refine hK'.out _ _ (by assumption) ?_; clear hK' K'; try simp only [Act.put, List.setIfInBounds_toArray, List.set_cons_zero, List.set_cons_succ]
  refine wpAnyH_one 7 rfl (by kernel_rfl) (fun K' hK' => ?_)
  go_simp
  refine hK'.out _ _ (by assumption) ?_; clear hK' K'; try simp only [Act.put, List.setIfInBounds_toArray, List.set_cons_zero, List.set_cons_succ]
  refine wpAnyH_one 8 rfl (by kernel_rfl) (fun K' hK' => ?_)
  go_simp
  refine hK'.out _ _ (by assumption) ?_; clear hK' K'; try simp only [Act.put, List.setIfInBounds_toArray, List.set_cons_zero, List.set_cons_succ]
  refine wpAnyH_one 9 rfl (by kernel_rfl) (fun K' hK' => ?_)
  go_simp
  refine hK'.out _ _ (by assumption) ?_; clear hK' K'; try simp only [Act.put, List.setIfInBounds_toArray, List.set_cons_zero, List.set_cons_succ]
  refine wpAnyH_takeD 10 (some 30) rfl rfl (by kernel_rfl) (by kernel_rfl) (by kernel_rfl) (fun _ _ _ h => h) (yieldsIf_move rfl _ rfl (o) rfl) (by assumption) ?_
  try simp only [Act.put, List.setIfInBounds_toArray, List.set_cons_zero, List.set_cons_succ, Array.toArray_toList]
  refine wpAnyH_takeD 11 (some 31) rfl rfl (by kernel_rfl) (by kernel_rfl) (by kernel_rfl) (fun _ _ _ h => h) (yieldsIf_move rfl _ rfl (.slice a l.length cap) rfl) (by assumption) ?_
  try simp only [Act.put, List.setIfInBounds_toArray, List.set_cons_zero, List.set_cons_succ, Array.toArray_toList]
  refine wpAnyH_one 12 rfl (by kernel_rfl) (fun K' hK' => ?_)
  go_simp
  (go_at_call 44; (with_reducible refine (bsame_any l l _ _ _ (a4 _ s1) (a3 _ s1) ?_).mono ?_); (omega); rintro e w6 ⟨rfl, hb6⟩; rw [decide_eq_true rfl]; have s2 := a7 _ _ s1 hb6; clear hb6)
  go_wp2
  refine hK'.out _ _ (by assumption) ?_; clear hK' K'; try simp only [Act.put, List.setIfInBounds_toArray, List.set_cons_zero, List.set_cons_succ]
  refine wpAnyH_one 13 rfl (by kernel_rfl) (fun K' hK' => ?_)
  go_simp
  refine hK'.out _ _ (by assumption) ?_; clear hK' K'; try simp only [Act.put, List.setIfInBounds_toArray, List.set_cons_zero, List.set_cons_succ]
  refine wpAnyH_one 14 rfl (by kernel_rfl) (fun K' hK' => ?_)
  go_simp
  refine hK'.out _ _ (by assumption) ?_; clear hK' K'; try simp only [Act.put, List.setIfInBounds_toArray, List.set_cons_zero, List.set_cons_succ]
  refine wpAnyH_one 15 rfl (by kernel_rfl) (fun K' hK' => ?_)
  go_simp
  (go_at_call 51; refine (known41 _).mono ?_; rintro e w7 ⟨rfl, hb7⟩; have s3 := a7 _ _ s2 hb7; clear hb7)
  go_wp2
  refine hK'.out _ _ (by assumption) ?_; clear hK' K'; try simp only [Act.put, List.setIfInBounds_toArray, List.set_cons_zero, List.set_cons_succ]
  refine wpAnyH_one 16 rfl (by kernel_rfl) (fun K' hK' => ?_)
  go_simp
  refine hK'.out _ _ (by assumption) ?_; clear hK' K'; try simp only [Act.put, List.setIfInBounds_toArray, List.set_cons_zero, List.set_cons_succ]
  refine wpAnyH_one 17 rfl (by kernel_rfl) (fun K' hK' => ?_)
  go_simp
  refine hK'.out _ _ (by assumption) ?_; clear hK' K'; try simp only [Act.put, List.setIfInBounds_toArray, List.set_cons_zero, List.set_cons_succ]
  refine wpAnyH_done (by kernel_rfl) ?_ _
  go_wp2
  go_ret
  exact ⟨rfl, a5 _ s3⟩
theorem walk_CmacSums (key : List UInt8) (hk : key.length = 16) (v : Value) (l : List UInt8) (w : World) (hv : Bsl w v l) :
    Calls Try.prog 19 #[.agg (bytesV key), v] w fun e w' => e = .returned (.bool true) ∧ Below w.heap.size w w' := by
  by_cases hlen : l.length ≤ 300
  · exact cmacsums_ok key hk v l w hv hlen
  · have hB : Below w.heap.size w (w.alloc (.cells (bytesV key) 22)) := (Below.refl _ _).alloc (Nat.le_refl _) _
    obtain ⟨a, cap, rfl, h1, h2, h3, h4⟩ := hv
    clear h1 h2 h3 h4
    have hlt : (300 : Int) < l.length := by omega
    go_enter Try.func19, Try.ntmps19
    go_wp2_with (first
      | (go_at_call 51; refine (known41 _).mono ?_; rintro e w4 ⟨rfl, hb4⟩; replace hB := bnext hB hb4; clear hb4)
      | fail)
    go_ret
    exact ⟨rfl, hB⟩
end Go.Proofs.Ytdgmahgidmjniaa
