import Derived.Test.YtdgmahgidmjniaaCtr2
namespace Go.Proofs.Ytdgmahgidmjniaa
open Go.RowKit
attribute [-go_sem] Instr.build
theorem arr28 : ArrTy Try.prog 28 8 := ⟨⟨5, Try.underlying28, Try.underlying5, by kernel_rfl⟩, by kernel_rfl⟩
theorem guard28 : Try.prog.eqGuardType Try.prog.depth 28 = false := by kernel_rfl
theorem guard22 : Try.prog.eqGuardType Try.prog.depth 22 = false := by kernel_rfl

def KP : List UInt8 := [0, 0, 0, 1, 28, 0, 0, 0]
def KB : List UInt8 := [0, 0, 0, 1, 28, 0, 0, 0, 0, 0, 0, 0, 0, 0, 1, 2]
theorem kp_eq : half (pre 1 3 1) = KP := by decide +kernel
theorem kb_eq : cblk 1 3 1 258 = KB := by decide +kernel
theorem prefix_131 (w : World) : Calls Try.prog 26 #[.int .u32 1, .int .i64 3, .int .i64 1] w fun e w' => e = .returned (.tuple #[.agg (bytesV KP), .int .i64 0]) ∧ Below w.heap.size w w' := by
  have := prefix_ok 1 3 1 (by omega) (by omega) (by omega) w
  rwa [kp_eq] at this
theorem prefix_320 (w : World) : Calls Try.prog 26 #[.int .u32 0, .int .i64 32, .int .i64 0] w fun e w' => e = .returned (.tuple #[.agg (bytesV Z8), .int .i64 2]) ∧ Below w.heap.size w w' := prefix_err 0 32 0 (by omega) w
theorem block_131 (w : World) : Calls Try.prog 27 #[.int .u32 1, .int .i64 3, .int .i64 1, .int .u64 258] w fun e w' => e = .returned (.tuple #[.agg (bytesV KB), .int .i64 0]) ∧ Below w.heap.size w w' := by
  have := block_ok 1 3 1 258 (by omega) (by omega) (by omega) w
  rwa [kb_eq] at this
set_option maxRecDepth 100000 in
set_option maxHeartbeats 4000000 in
theorem known40 (w : World) : Calls Try.prog 29 #[] w fun e w' => e = .returned (.bool true) ∧ Below w.heap.size w w' := by
  have z1 : ∀ w, (zeroValue 28).run Try.prog w = .ok (.agg (bytesV Z8)) w := (zero_of_info zero28).1
  have z2 : ∀ w, (zeroValue 22).run Try.prog w = .ok (.agg (bytesV Z16)) w := (zero_of_info zero22).1
  have e1 : ∀ w, (binOp .eql 28 (.agg (bytesV KP)) (.agg (bytesV KP))).run Try.prog w = .ok (.bool true) w := fun w => by rw [run_eql_arr arr28 _ _ rfl rfl, decide_self]
  have e2 : ∀ w, (binOp .eql 22 (.agg (bytesV KB)) (.agg (bytesV KB))).run Try.prog w = .ok (.bool true) w := fun w => by rw [run_eql_arr arr22 _ _ rfl rfl, decide_self]
  have u1 : ∀ w, (Instr.build 28 #[(0, .int .u8 0), (1, .int .u8 0), (2, .int .u8 0), (3, .int .u8 1), (4, .int .u8 28)]).run Try.prog w = .ok (.agg (bytesV KP)) w := fun w => run_build w 28 _ _ (by kernel_rfl)
  have u2 : ∀ w, (Instr.build 22 #[(0, .int .u8 0), (1, .int .u8 0), (2, .int .u8 0), (3, .int .u8 1), (4, .int .u8 28), (5, .int .u8 0), (6, .int .u8 0), (7, .int .u8 0), (8, .int .u8 0), (9, .int .u8 0), (10, .int .u8 0), (11, .int .u8 0), (12, .int .u8 0), (13, .int .u8 0), (14, .int .u8 1), (15, .int .u8 2)]).run Try.prog w = .ok (.agg (bytesV KB)) w := fun w => run_build w 22 _ _ (by kernel_rfl)
  have hB := Below.refl w.heap.size w
  have hG1 := guard22
  have hG2 := guard28
  go_enter Try.func29, Try.ntmps29
  go_wp2_with (first
    | (go_at_call 26; with_reducible refine (prefix_131 _).mono ?_; rintro e w1 ⟨rfl, hb'⟩; replace hB := bnext hB hb'; clear hb')
    | ((with_reducible refine wpList_store_blk rfl 28 (.tmp 1) (.tmp 9) rfl w1.heap.size 0 8 (bytesV KP) rfl rfl (C := bytesV Z8) (t := 28) ?_ row28 ?_ ?_ (bytesV_one _) ?_); (exact Blk.new' rfl); (rfl); (rw [bytesV_size]; decide); intro w2 c1 ho3; rw [splice_all _ _ (by rfl)] at c1; replace hB := below_only (hB.alloc hB.size (.cells (bytesV Z8) 28)) ho3 hB.size; clear ho3)
    | (go_at_call 27; with_reducible refine (block_131 _).mono ?_; rintro e w3 ⟨rfl, hb'⟩; replace hB := bnext hB hb'; have c2 := c1.below hb' c1.lt; have s2 := hb'.size; have s1 := c1.lt; clear hb')
    | (go_at_call 26; with_reducible refine (prefix_320 _).mono ?_; rintro e w5 ⟨rfl, hb'⟩; replace hB := bnext hB hb'; have c4 := c3.below hb' c3.lt; have d2 := d1.below hb' d1.lt; have s5 := c4.lt; have s6 := d2.lt; clear hb')
    | ((with_reducible refine wpList_store_blk rfl 28 (.tmp 5) (.tmp 17) rfl w5.heap.size 0 8 (bytesV Z8) rfl rfl (C := bytesV Z8) (t := 28) ?_ row28 ?_ ?_ (bytesV_one _) ?_); (exact Blk.new' rfl); (rfl); (rw [bytesV_size]; decide); intro w6 f1 ho3; replace hB := below_only (hB.alloc hB.size (.cells (bytesV Z8) 28)) ho3 hB.size; have c5 := (c4.alloc (.cells (bytesV Z8) 28)).only ho3 (by omega); have d3 := (d2.alloc (.cells (bytesV Z8) 28)).only ho3 (by omega); clear ho3)
    | ((with_reducible refine wpList_load_blk rfl 28 (.tmp 1) rfl w1.heap.size 0 8 rfl c5 row28 ?_ (bytesV KP) ?_ ?_); (rw [bytesV_size]; decide); (exact bytesV_whole _ _ rfl))
    | ((with_reducible refine wpList_load_blk_g 22 (.tmp 3) rfl w3.heap.size 0 16 rfl d3 row22 ?_ ?_ (bytesV KB) ?_ ?_); (rfl); (rw [bytesV_size]; decide); (exact bytesV_whole _ _ rfl))
    | ((with_reducible refine wpList_store_blk rfl 22 (.tmp 3) (.tmp 13) rfl w3.heap.size 0 16 (bytesV KB) rfl rfl (C := bytesV Z16) (t := 22) ?_ row22 ?_ ?_ (bytesV_one _) ?_); (exact Blk.new' rfl); (rfl); (rw [bytesV_size]; decide); intro w4 d1 ho3; rw [splice_all _ _ (by rfl)] at d1; replace hB := below_only (hB.alloc hB.size (.cells (bytesV Z16) 22)) ho3 hB.size; have c3 := (c2.alloc (.cells (bytesV Z16) 22)).only ho3 (by omega); clear ho3))
  go_ret
  exact ⟨rfl, hB⟩
end Go.Proofs.Ytdgmahgidmjniaa
