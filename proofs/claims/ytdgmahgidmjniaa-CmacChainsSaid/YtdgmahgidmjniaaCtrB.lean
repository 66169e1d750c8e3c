import Derived.Test.YtdgmahgidmjniaaCtr3
import Derived.Test.YtdgmahgidmjniaaOpen
namespace Go.Proofs.Ytdgmahgidmjniaa
open Go.RowKit
attribute [-go_sem] Instr.build

/-- Params as a value. -/
def parV (key : List UInt8) (c b d : Int) : Array Value := (key.map B ++ [Value.int .u32 c, Value.int .i64 b, Value.int .i64 d]).toArray
theorem parV_key (key : List UInt8) (hk : key.length = 16) (c b d : Int) : (parV key c b d).extract 0 (0 + 16) = bytesV key := by
  apply Array.toList_inj.1
  simp [parV, List.extract_eq_take_drop, bytesV, ← hk]
theorem parV_16 (key : List UInt8) (hk : key.length = 16) (c b d : Int) : (parV key c b d)[16]? = some (.int .u32 c) := by
  simp [parV, hk]
theorem parV_17 (key : List UInt8) (hk : key.length = 16) (c b d : Int) : (parV key c b d)[17]? = some (.int .i64 b) := by
  simp [parV, hk]
theorem parV_18 (key : List UInt8) (hk : key.length = 16) (c b d : Int) : (parV key c b d)[18]? = some (.int .i64 d) := by
  simp [parV, hk]
theorem parV_size (key : List UInt8) (hk : key.length = 16) (c b d : Int) : (parV key c b d).size = 19 := by
  simp [parV, hk]

theorem cases_par (b d : Int) : (∃ b' d' : Nat, b = b' ∧ d = d' ∧ b' ≤ 31 ∧ d' ≤ 1) ∨ (b < 0 ∨ 31 < b ∨ (d ≠ 0 ∧ d ≠ 1)) := by
  by_cases h : 0 ≤ b ∧ b ≤ 31 ∧ (d = 0 ∨ d = 1)
  · exact .inl ⟨b.toNat, d.toNat, by omega, by omega, by omega, by omega⟩
  · exact .inr (by omega)


theorem arrayAt8 (w : World) (o : Nat) : (Instr.arrayAt 28 (.slice (some ⟨o, 0, none⟩) 8 16)).run Try.prog w = .ok (.pointer (some ⟨o, 0, none⟩)) w := by
  simp [Instr.arrayAt, run_underlying Try.underlying28]
set_option maxRecDepth 100000 in
set_option maxHeartbeats 4000000 in
theorem ctrblocks_ok (key : List UInt8) (hk : key.length = 16) (c b d i : Nat) (hc : c < 2 ^ 32) (hb : b ≤ 31) (hd : d ≤ 1) (w : World) :
    Calls Try.prog 3 #[.agg (parV key c b d), .int .u64 i] w fun e w' => e = .returned (.bool true) ∧ Below w.heap.size w w' := by
  have z1 : ∀ w, (zeroValue 28).run Try.prog w = .ok (.agg (bytesV Z8)) w := (zero_of_info zero28).1
  have z2 : ∀ w, (zeroValue 22).run Try.prog w = .ok (.agg (bytesV Z16)) w := (zero_of_info zero22).1
  obtain ⟨p, hp⟩ : ∃ p, p = half (pre c b d) := ⟨_, rfl⟩
  obtain ⟨T, hT⟩ : ∃ T, T = cblk c b d i := ⟨_, rfl⟩
  have lp := Lib.hid (show p.length = 8 by rw [hp, len_half])
  have lT := Lib.hid (show T.length = 16 by rw [hT, cblk_length])
  have hpT := Lib.hid (show T.take 8 = p by rw [hT, hp, cblk, List.take_append_of_le_length (by rw [len_half]; exact Nat.le_refl _), List.take_of_length_le (by rw [len_half]; exact Nat.le_refl _)])
  have e1 : ∀ w, (binOp .eql 28 (.agg (bytesV p)) (.agg (bytesV p))).run Try.prog w = .ok (.bool true) w := fun w => by rw [run_eql_arr arr28 _ _ lp.out lp.out, decide_self]
  have e2 : ∀ w, (binOp .eql 22 (.agg (bytesV T)) (.agg (bytesV T))).run Try.prog w = .ok (.bool true) w := fun w => by rw [run_eql_arr arr22 _ _ lT.out lT.out, decide_self]
  replace hp := Lib.hid hp
  replace hT := Lib.hid hT
  have hap := arrayAt8
  have hG1 := guard22
  have hG2 := guard28
  obtain ⟨C, hC⟩ : ∃ C, C = parV key c b d := ⟨_, rfl⟩
  have a0 : Blk (w.alloc (.cells C 26)) w.heap.size C 26 := Blk.new' rfl
  have hB : Below w.heap.size w (w.alloc (.cells C 26)) := (Below.refl _ _).alloc (Nat.le_refl _) _
  have cells : Hid (∀ w', Blk w' w.heap.size C 26 → w'.cell? ⟨w.heap.size, 16, none⟩ = some (.int .u32 c) ∧ w'.cell? ⟨w.heap.size, 17, none⟩ = some (.int .i64 b) ∧ w'.cell? ⟨w.heap.size, 18, none⟩ = some (.int .i64 d)) :=
    fun w' h => by rw [h.cell, h.cell, h.cell, hC]; exact ⟨parV_16 key hk c b d, parV_17 key hk c b d, parV_18 key hk c b d⟩
  rw [← hC]
  obtain ⟨q0, q1, q2⟩ := cells.out _ a0
  clear hC
  go_enter Try.func3, Try.ntmps3
  go_wp2_with (first
    | (go_at_call 26; with_reducible refine (prefix_ok c b d hc hb hd _).mono ?_; rintro e w1 ⟨rfl, hb'⟩; rw [← hp.out]; have a1 := a0.below hb' a0.lt; have s1 := a1.lt; replace hB := bnext hB hb'; clear hb' q0 q1 q2 a0)
    | ((with_reducible refine wpList_store_blk rfl 28 (.tmp 5) (.tmp 18) rfl w1.heap.size 0 8 (bytesV p) rfl rfl (C := bytesV Z8) (t := 28) ?_ row28 ?_ ?_ (bytesV_one _) ?_); (exact Blk.new' rfl); (rw [bytesV_size, lp.out]); (rw [bytesV_size]; decide); intro w2 c1 ho3; rw [splice_all _ _ (by rw [lp.out]; rfl)] at c1; replace hB := below_only (hB.alloc hB.size (.cells (bytesV Z8) 28)) ho3 hB.size; have a2 := (a1.alloc (.cells (bytesV Z8) 28)).only ho3 (by omega); obtain ⟨q0, q1, q2⟩ := cells.out _ a2; clear ho3 a1)
    | (go_at_call 27; with_reducible refine (block_ok c b d i hc hb hd _).mono ?_; rintro e w3 ⟨rfl, hb'⟩; rw [← hT.out]; have a3 := a2.below hb' a2.lt; have c2 := c1.below hb' c1.lt; have s3 := a3.lt; have s4 := c2.lt; replace hB := bnext hB hb'; clear hb' q0 q1 q2 a2)
    | ((with_reducible refine wpList_store_blk rfl 22 (.tmp 7) (.tmp 29) rfl w3.heap.size 0 16 (bytesV T) rfl rfl (C := bytesV Z16) (t := 22) ?_ row22 ?_ ?_ (bytesV_one _) ?_); (exact Blk.new' rfl); (rw [bytesV_size, lT.out]); (rw [bytesV_size]; decide); intro w4 d1 ho3; rw [splice_all _ _ (by rw [lT.out]; rfl)] at d1; replace hB := below_only (hB.alloc hB.size (.cells (bytesV Z16) 22)) ho3 hB.size; have a4 := (a3.alloc (.cells (bytesV Z16) 22)).only ho3 (by omega); have c3 := (c2.alloc (.cells (bytesV Z16) 22)).only ho3 (by omega); obtain ⟨q0, q1, q2⟩ := cells.out _ a4; clear ho3 a3)
    | (go_at_call 28; with_reducible refine (valid_ok b d hb hd _).mono ?_; rintro e w5 ⟨rfl, rfl⟩)
    | (go_at_call 30; with_reducible refine (refblock_ok c b d i hb hd _).mono ?_; rintro e w5 ⟨rfl, hb'⟩; rw [← hT.out]; have c4 := c3.below hb' c3.lt; have d2 := d1.below hb' d1.lt; have s5 := c4.lt; have s6 := d2.lt; replace hB := bnext hB hb'; clear hb' q0 q1 q2)
    | ((with_reducible refine wpList_store_blk rfl 22 (.tmp 9) (.tmp 63) rfl w5.heap.size 0 16 (bytesV T) rfl rfl (C := bytesV Z16) (t := 22) ?_ row22 ?_ ?_ (bytesV_one _) ?_); (exact Blk.new' rfl); (rw [bytesV_size, lT.out]); (rw [bytesV_size]; decide); intro w6 f1 ho3; rw [splice_all _ _ (by rw [lT.out]; rfl)] at f1; replace hB := below_only (hB.alloc hB.size (.cells (bytesV Z16) 22)) ho3 hB.size; have c5 := (c4.alloc (.cells (bytesV Z16) 22)).only ho3 (by omega); have d3 := (d2.alloc (.cells (bytesV Z16) 22)).only ho3 (by omega); clear ho3))
  clear a4 c1 c2 c3 c4 d1 d2 cells z1 z2
  go_still_tail 19, (by kernel_rfl)
  refine wpStill_load_blk 28 (.tmp 5) rfl w1.heap.size 0 8 rfl c5.drew row28 (by rfl) (by rw [bytesV_size, lp.out]; exact Nat.le_refl _) (bytesV p) (bytesV_whole _ _ lp.out) ?_
  repeat still_step
  refine wpStill_load_blk 28 (.tmp 69) rfl w5.heap.size 0 8 rfl f1.drew row28 (by rfl) (by rw [bytesV_size, lT.out]; decide) (bytesV p) (by rw [bytesV_extract]; simp only [List.drop_zero, Nat.zero_add, Nat.sub_zero, hpT.out]) ?_
  repeat still_step
  refine wpStill_load_blk 22 (.tmp 7) rfl w3.heap.size 0 16 rfl d3.drew row22 (by rfl) (by rw [bytesV_size, lT.out]; exact Nat.le_refl _) (bytesV T) (bytesV_whole _ _ lT.out) ?_
  refine wpStill_load_blk 22 (.tmp 9) rfl w5.heap.size 0 16 rfl f1.drew row22 (by rfl) (by rw [bytesV_size, lT.out]; exact Nat.le_refl _) (bytesV T) (bytesV_whole _ _ lT.out) ?_
  repeat still_step
  refine wpStill_nil ?_
  change wpList _ _ _ _ _ w6.drew
  go_wp2_with (first
    | (go_at_call 29; with_reducible refine (known40 _).mono ?_; rintro e w7 ⟨rfl, hb'⟩; replace hB := bnext hB.drew hb'; clear hb'))
  go_ret
  exact ⟨rfl, hB⟩
set_option maxRecDepth 100000 in
set_option maxHeartbeats 4000000 in
theorem ctrblocks_err (key : List UInt8) (hk : key.length = 16) (c b d i : Int) (hbad : b < 0 ∨ 31 < b ∨ (d ≠ 0 ∧ d ≠ 1)) (w : World) :
    Calls Try.prog 3 #[.agg (parV key c b d), .int .u64 i] w fun e w' => e = .returned (.bool true) ∧ Below w.heap.size w w' := by
  have z1 : ∀ w, (zeroValue 28).run Try.prog w = .ok (.agg (bytesV Z8)) w := (zero_of_info zero28).1
  have z2 : ∀ w, (zeroValue 22).run Try.prog w = .ok (.agg (bytesV Z16)) w := (zero_of_info zero22).1
  have e1 : ∀ w, (binOp .eql 28 (.agg (bytesV Z8)) (.agg (bytesV Z8))).run Try.prog w = .ok (.bool true) w := fun w => by rw [run_eql_arr arr28 _ _ rfl rfl, decide_self]
  have e2 : ∀ w, (binOp .eql 22 (.agg (bytesV Z16)) (.agg (bytesV Z16))).run Try.prog w = .ok (.bool true) w := fun w => by rw [run_eql_arr arr22 _ _ rfl rfl, decide_self]
  have u1 : ∀ w, (Instr.build 28 #[]).run Try.prog w = .ok (.agg (bytesV Z8)) w := fun w => run_build w 28 _ _ (by kernel_rfl)
  have u2 : ∀ w, (Instr.build 22 #[]).run Try.prog w = .ok (.agg (bytesV Z16)) w := fun w => run_build w 22 _ _ (by kernel_rfl)
  have hG1 := guard22
  have hG2 := guard28
  obtain ⟨C, hC⟩ : ∃ C, C = parV key c b d := ⟨_, rfl⟩
  have a0 : Blk (w.alloc (.cells C 26)) w.heap.size C 26 := Blk.new' rfl
  have hB : Below w.heap.size w (w.alloc (.cells C 26)) := (Below.refl _ _).alloc (Nat.le_refl _) _
  have cells : Hid (∀ w', Blk w' w.heap.size C 26 → w'.cell? ⟨w.heap.size, 16, none⟩ = some (.int .u32 c) ∧ w'.cell? ⟨w.heap.size, 17, none⟩ = some (.int .i64 b) ∧ w'.cell? ⟨w.heap.size, 18, none⟩ = some (.int .i64 d)) :=
    fun w' h => by rw [h.cell, h.cell, h.cell, hC]; exact ⟨parV_16 key hk c b d, parV_17 key hk c b d, parV_18 key hk c b d⟩
  rw [← hC]
  obtain ⟨q0, q1, q2⟩ := cells.out _ a0
  clear hC
  go_enter Try.func3, Try.ntmps3
  go_wp2_with (first
    | (go_at_call 26; with_reducible refine (prefix_err c b d hbad _).mono ?_; rintro e w1 ⟨rfl, hb'⟩; have a1 := a0.below hb' a0.lt; have s1 := a1.lt; replace hB := bnext hB hb'; clear hb' q0 q1 q2 a0)
    | ((with_reducible refine wpList_store_blk rfl 28 (.tmp 5) (.tmp 18) rfl w1.heap.size 0 8 (bytesV Z8) rfl rfl (C := bytesV Z8) (t := 28) ?_ row28 ?_ ?_ (bytesV_one _) ?_); (exact Blk.new' rfl); (rfl); (rw [bytesV_size]; decide); intro w2 c1 ho3; rw [splice_all _ _ rfl] at c1; replace hB := below_only (hB.alloc hB.size (.cells (bytesV Z8) 28)) ho3 hB.size; have a2 := (a1.alloc (.cells (bytesV Z8) 28)).only ho3 (by omega); obtain ⟨q0, q1, q2⟩ := cells.out _ a2; clear ho3 a1)
    | (go_at_call 27; with_reducible refine (block_err c b d i hbad _).mono ?_; rintro e w3 ⟨rfl, hb'⟩; have a3 := a2.below hb' a2.lt; have c2 := c1.below hb' c1.lt; have s3 := a3.lt; have s4 := c2.lt; replace hB := bnext hB hb'; clear hb' q0 q1 q2 a2)
    | ((with_reducible refine wpList_store_blk rfl 22 (.tmp 7) (.tmp 29) rfl w3.heap.size 0 16 (bytesV Z16) rfl rfl (C := bytesV Z16) (t := 22) ?_ row22 ?_ ?_ (bytesV_one _) ?_); (exact Blk.new' rfl); (rfl); (rw [bytesV_size]; decide); intro w4 d1 ho3; rw [splice_all _ _ rfl] at d1; replace hB := below_only (hB.alloc hB.size (.cells (bytesV Z16) 22)) ho3 hB.size; have a4 := (a3.alloc (.cells (bytesV Z16) 22)).only ho3 (by omega); have c3 := (c2.alloc (.cells (bytesV Z16) 22)).only ho3 (by omega); obtain ⟨q0, q1, q2⟩ := cells.out _ a4; clear ho3 a3)
    | (go_at_call 28; with_reducible refine (valid_err b d hbad _).mono ?_; rintro e w5 ⟨rfl, rfl⟩)
    | ((with_reducible refine wpList_load_blk_g 28 (.tmp 5) rfl w1.heap.size 0 8 rfl c3 row28 ?_ ?_ (bytesV Z8) ?_ ?_); (rfl); (rw [bytesV_size]; decide); (exact bytesV_whole _ _ rfl))
    | ((with_reducible refine wpList_load_blk_g 22 (.tmp 7) rfl w3.heap.size 0 16 rfl d1 row22 ?_ ?_ (bytesV Z16) ?_ ?_); (rfl); (rw [bytesV_size]; decide); (exact bytesV_whole _ _ rfl))
    | (go_at_call 29; with_reducible refine (known40 _).mono ?_; rintro e w6 ⟨rfl, hb'⟩; replace hB := bnext hB hb'; clear hb'))

  go_ret
  exact ⟨rfl, hB⟩

theorem bounds_u32' {a : Int} (h : (Lit.int .u32 a).wf = true) : 0 ≤ a ∧ a < 2 ^ 32 := by
  have hmin : IntKind.u32.min = 0 := rfl
  have hmax : IntKind.u32.max = 4294967295 := rfl
  simp only [Lit.wf, Bool.and_eq_true, decide_eq_true_eq] at h
  omega
theorem bounds_u64' {a : Int} (h : (Lit.int .u64 a).wf = true) : 0 ≤ a ∧ a < 2 ^ 64 := by
  have hmin : IntKind.u64.min = 0 := rfl
  have hmax : IntKind.u64.max = 18446744073709551615 := rfl
  simp only [Lit.wf, Bool.and_eq_true, decide_eq_true_eq] at h
  omega
theorem walk_CtrBlocks (key : List UInt8) (hk : key.length = 16) (c b d : Int) (wc : (Lit.int .u32 c).wf = true) (i : Int) (wi : (Lit.int .u64 i).wf = true) (w : World) :
    Calls Try.prog 3 #[.agg (parV key c b d), .int .u64 i] w fun e w' => e = .returned (.bool true) ∧ Below w.heap.size w w' := by
  obtain ⟨c0, c1⟩ := bounds_u32' wc
  obtain ⟨i0, _⟩ := bounds_u64' wi
  obtain ⟨c, rfl⟩ := Int.eq_ofNat_of_zero_le c0
  obtain ⟨i, rfl⟩ := Int.eq_ofNat_of_zero_le i0
  rcases cases_par b d with ⟨b', d', rfl, rfl, hb, hd⟩ | h
  · exact ctrblocks_ok key hk c b' d' i (by omega) hb hd w
  · exact ctrblocks_err key hk c b d i h w

section
variable {H : Type} {enc : TypeId × Value → H} {W : World} {base : Nat} {sp : Nat → Bool} {held : Bool}
theorem cells22 : Try.prog.cellsOf 22 = 16 := by kernel_rfl
theorem cells5 : Try.prog.cellsOf 5 = 1 := by kernel_rfl
theorem cells23 : Try.prog.cellsOf 23 = 1 := by kernel_rfl
theorem cells3 : Try.prog.cellsOf 3 = 1 := by kernel_rfl
theorem cells24 : Try.prog.cellsOf 24 = 1 := by kernel_rfl
theorem cells26 : Try.prog.cellsOf 26 = 19 := by kernel_rfl
set_option maxRecDepth 100000 in
theorem open_par {v : Value} {d : DataW H} {ps : List MemPlace} {r : Reach} {b0 : Nat} (hval : Value.okWide Try.prog W r b0 26 v) (hd : DataW.Trod enc Try.prog W base sp held 26 v d ps) :
    ∃ (key : List UInt8) (c b e : Int), v = .agg (parV key c b e) ∧ key.length = 16 ∧ (Lit.int .u32 c).wf = true := by
  simp only [Value.okWide, Try.underlying26] at hval
  obtain ⟨cs, rfl, hsz, _⟩ := hval
  obtain ⟨fuel, hf⟩ := hd
  obtain ⟨m, _, hfs⟩ := trod_fields (L := [(22, 0), (23, 16), (3, 17), (24, 18)]) Try.underlying26 (by kernel_rfl) hf
  rw [cells26] at hsz
  obtain ⟨_, f0⟩ := hfs 0 22 0 rfl
  obtain ⟨_, f1⟩ := hfs 1 23 16 rfl
  obtain ⟨_, f2⟩ := hfs 2 3 17 rfl
  obtain ⟨_, f3⟩ := hfs 3 24 18 rfl
  rw [cells22] at f0
  rw [cells23] at f1
  rw [cells3] at f2
  rw [cells24] at f3
  simp only [Value.cells, List.drop_zero] at f0 f1 f2 f3
  obtain ⟨key, k1, k2⟩ := trod_bytes Try.underlying22 Try.underlying5 cells5 cells22 f0
  obtain ⟨c, c1, _, c2⟩ := DataW.trod_int Try.underlying23 f1
  obtain ⟨b, b1, _, _⟩ := DataW.trod_int Try.underlying3 f2
  obtain ⟨e, e1, _, _⟩ := DataW.trod_int Try.underlying24 f3
  refine ⟨key, c, b, e, ?_, k2, c2⟩
  congr 1
  apply Array.toList_inj.1
  have hlen : cs.toList.length = 19 := by simpa using hsz
  rw [parV, ← k1]
  have t1 : cs.toList = cs.toList.take 16 ++ ((cs.toList.drop 16).take 1 ++ ((cs.toList.drop 17).take 1 ++ ((cs.toList.drop 18).take 1))) := by
    have g3 : (cs.toList.drop 18).take 1 = cs.toList.drop 18 := List.take_of_length_le (by rw [List.length_drop]; omega)
    have g2 : (cs.toList.drop 17).take 1 ++ cs.toList.drop 18 = cs.toList.drop 17 := by
      have := List.take_append_drop 1 (cs.toList.drop 17)
      rwa [List.drop_drop] at this
    have g1 : (cs.toList.drop 16).take 1 ++ cs.toList.drop 17 = cs.toList.drop 16 := by
      have := List.take_append_drop 1 (cs.toList.drop 16)
      rwa [List.drop_drop] at this
    rw [g3, g2, g1, List.take_append_drop]
  rw [c1, b1, e1] at t1
  simpa using t1
end
end Go.Proofs.Ytdgmahgidmjniaa
