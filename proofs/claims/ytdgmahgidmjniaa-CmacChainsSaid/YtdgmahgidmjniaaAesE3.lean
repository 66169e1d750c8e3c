/-
  AES, encryption: the steps of a round.
-/
import Derived.Test.YtdgmahgidmjniaaAesE2
import Derived.Conc.MuLone
namespace Go.Proofs.Ytdgmahgidmjniaa
open Go.RowKit

theorem cf79 (args : Array Value) (w : World) : (callFunc 79 args).run Try.prog w = .ok (.enter 79 args) w := Go.MuLone.run_callFunc_enter (f := 79) Try.func79 rfl rfl args w
def addL (K : List UInt8) (n : Nat) (l : List UInt8) : List UInt8 := eachL (addG K n) l

set_option maxRecDepth 100000 in
set_option maxHeartbeats 4000000 in
theorem addS_any (K : List UInt8) (hK : K.length = 176) (n : Nat) (hn : n ≤ 10) (l : List UInt8) (hl : l.length = 16) (bC : Nat) (w : World) (hC : Blk w bC (bytesV (cip K)) 59) :
    Calls Try.prog 63 #[.pointer (some ⟨bC, 0, none⟩), .agg (bytesV l), .int .i64 n] w fun e w' => e = .returned (.agg (bytesV (addL K n l))) ∧ Below w.heap.size w w' := by
  have z1 : ∀ w, (zeroValue 56).run Try.prog w = .ok (.agg (bytesV Z16)) w := (zero_of_info zero56).1
  have hmf : ∀ (fn : Fn) (first cap : Array Value) (w : World), (Instr.makeFunc fn first cap).run Try.prog w = .ok (.func fn first cap) w := fun _ _ _ _ => rfl
  obtain ⟨M, hM⟩ : ∃ M, M = addL K n l := ⟨_, rfl⟩
  have hMl := Lib.hid (show M.length = 16 by rw [hM, addL, eachL_length])
  have HM := Lib.hid hM
  clear hM
  obtain ⟨W, hW⟩ : ∃ W, W = (((w.alloc (.cells #[.pointer (some ⟨bC, 0, none⟩)] 47)).alloc (.cells (bytesV l) 56)).alloc (.cells #[.int .i64 n] 3)).alloc (.cells (bytesV Z16) 56) := ⟨_, rfl⟩
  have b0 : Blk W w.heap.size #[.pointer (some ⟨bC, 0, none⟩)] 47 := by rw [hW]; exact (((Blk.new' rfl).alloc _).alloc _).alloc _
  have b1 : Blk W (w.heap.size + 1) (bytesV l) 56 := by rw [hW]; exact ((Blk.new' (by simp)).alloc _).alloc _
  have b2 : Blk W (w.heap.size + 1 + 1) #[.int .i64 n] 3 := by rw [hW]; exact (Blk.new' (by simp)).alloc _
  have b3 : Blk W (w.heap.size + 1 + 1 + 1) (bytesV Z16) 56 := by rw [hW]; exact Blk.new' (by simp)
  have bc : Blk W bC (bytesV (cip K)) 59 := by rw [hW]; exact (((hC.alloc _).alloc _).alloc _).alloc _
  have hB : Below w.heap.size w W := by rw [hW]; exact ((((Below.refl _ _).alloc (Nat.le_refl _) _).alloc (by simp) _).alloc (by simp; omega) _).alloc (by simp; omega) _
  have hg : Hid (∀ (i : Nat) (x : UInt8) (w' : World), i < 16 → Below W.heap.size W w' → Calls Try.prog 79 (#[.int .i64 i, .int .u8 x.toNat] ++ #[.pointer (some ⟨w.heap.size, 0, none⟩), .pointer (some ⟨w.heap.size + 1 + 1, 0, none⟩)]) w' (Drawn (.int .u8 (addG K n i x).toNat) w')) :=
    fun i x w' hi hb => add1_any K hK n i hn hi x _ _ bC w' ((b0.below hb b0.lt).cell 0) ((b2.below hb b2.lt).cell 0) (bc.below hb bc.lt)
  have HW := Lib.hid hW
  clear hW hC
  go_enter Try.func63, Try.ntmps63
  go_wp2_with (first
    | ((with_reducible refine wpList_load_blk rfl 56 (.tmp 4) rfl (w.heap.size + 1) 0 16 rfl (HW.out ▸ b1) row56 ?_ (bytesV l) ?_ ?_); (rw [bytesV_size, hl]; exact Nat.le_refl _); (exact bytesV_whole _ _ hl))
    | (go_at_call 78; rw [← HW.out]; refine (each_any 79 _ cf79 l hl (addG K n) W hg.out).mono ?_; rintro e w2 ⟨rfl, hb⟩; rw [← addL, ← HM.out])
    | ((with_reducible refine wpList_store_blk rfl 56 (.tmp 6) (.tmp 9) rfl (w.heap.size + 1 + 1 + 1) 0 16 (bytesV M) rfl rfl (b3.below hb b3.lt) row56 ?_ ?_ (bytesV_one _) ?_); (rw [bytesV_size, hMl.out]); (rw [bytesV_size]; decide); intro w8 hb8 ho8; rw [splice_all _ _ (by rw [hMl.out]; rfl)] at hb8))
  refine bodyPost_ret (results_blk rfl _ _ _ (bytesV M) 56 16 rfl hb8 row56 (by rw [bytesV_size, hMl.out])) rfl ?_
  exact ⟨by rw [HM.out], below_only (bnext hB hb) ho8 (by omega)⟩

theorem cf80 (args : Array Value) (w : World) : (callFunc 80 args).run Try.prog w = .ok (.enter 80 args) w := Go.MuLone.run_callFunc_enter (f := 80) Try.func80 rfl rfl args w
def subL (l : List UInt8) : List UInt8 := eachL (fun _ x => sbox x) l
set_option maxRecDepth 100000 in
set_option maxHeartbeats 4000000 in
theorem subS_any (K : List UInt8) (n : Int) (l : List UInt8) (hl : l.length = 16) (bC : Nat) (w : World) (hC : Blk w bC (bytesV (cip K)) 59) :
    Calls Try.prog 64 #[.pointer (some ⟨bC, 0, none⟩), .agg (bytesV l), .int .i64 n] w fun e w' => e = .returned (.agg (bytesV (subL l))) ∧ Below w.heap.size w w' := by
  have z1 : ∀ w, (zeroValue 56).run Try.prog w = .ok (.agg (bytesV Z16)) w := (zero_of_info zero56).1
  have hmf : ∀ (fn : Fn) (first cap : Array Value) (w : World), (Instr.makeFunc fn first cap).run Try.prog w = .ok (.func fn first cap) w := fun _ _ _ _ => rfl
  obtain ⟨M, hM⟩ : ∃ M, M = subL l := ⟨_, rfl⟩
  have hMl := Lib.hid (show M.length = 16 by rw [hM, subL, eachL_length])
  have HM := Lib.hid hM
  clear hM
  obtain ⟨W, hW⟩ : ∃ W, W = ((w.alloc (.cells #[.pointer (some ⟨bC, 0, none⟩)] 47)).alloc (.cells (bytesV l) 56)).alloc (.cells (bytesV Z16) 56) := ⟨_, rfl⟩
  have b0 : Blk W w.heap.size #[.pointer (some ⟨bC, 0, none⟩)] 47 := by rw [hW]; exact ((Blk.new' rfl).alloc _).alloc _
  have b1 : Blk W (w.heap.size + 1) (bytesV l) 56 := by rw [hW]; exact (Blk.new' (by simp)).alloc _
  have b3 : Blk W (w.heap.size + 1 + 1) (bytesV Z16) 56 := by rw [hW]; exact Blk.new' (by simp)
  have bc : Blk W bC (bytesV (cip K)) 59 := by rw [hW]; exact ((hC.alloc _).alloc _).alloc _
  have hB : Below w.heap.size w W := by rw [hW]; exact (((Below.refl _ _).alloc (Nat.le_refl _) _).alloc (by simp) _).alloc (by simp; omega) _
  have hg : Hid (∀ (i : Nat) (x : UInt8) (w' : World), i < 16 → Below W.heap.size W w' → Calls Try.prog 80 (#[.int .i64 i, .int .u8 x.toNat] ++ #[.pointer (some ⟨w.heap.size, 0, none⟩)]) w' (Drawn (.int .u8 (sbox x).toNat) w')) :=
    fun i x w' _ hb => sub1_any K i x _ bC w' ((b0.below hb b0.lt).cell 0) (bc.below hb bc.lt)
  have HW := Lib.hid hW
  clear hW hC
  go_enter Try.func64, Try.ntmps64
  go_wp2_with (first
    | ((with_reducible refine wpList_load_blk rfl 56 (.tmp 4) rfl (w.heap.size + 1) 0 16 rfl (HW.out ▸ b1) row56 ?_ (bytesV l) ?_ ?_); (rw [bytesV_size, hl]; exact Nat.le_refl _); (exact bytesV_whole _ _ hl))
    | (go_at_call 78; rw [← HW.out]; refine (each_any 80 _ cf80 l hl (fun _ x => sbox x) W hg.out).mono ?_; rintro e w2 ⟨rfl, hb⟩; rw [← subL, ← HM.out])
    | ((with_reducible refine wpList_store_blk rfl 56 (.tmp 6) (.tmp 9) rfl (w.heap.size + 1 + 1) 0 16 (bytesV M) rfl rfl (b3.below hb b3.lt) row56 ?_ ?_ (bytesV_one _) ?_); (rw [bytesV_size, hMl.out]); (rw [bytesV_size]; decide); intro w8 hb8 ho8; rw [splice_all _ _ (by rw [hMl.out]; rfl)] at hb8))
  refine bodyPost_ret (results_blk rfl _ _ _ (bytesV M) 56 16 rfl hb8 row56 (by rw [bytesV_size, hMl.out])) rfl ?_
  exact ⟨by rw [HM.out], below_only (bnext hB hb) ho8 (by omega)⟩

theorem cf84 (args : Array Value) (w : World) : (callFunc 84 args).run Try.prog w = .ok (.enter 84 args) w := Go.MuLone.run_callFunc_enter (f := 84) Try.func84 rfl rfl args w
def unsubL (l : List UInt8) : List UInt8 := eachL (fun _ x => inbox x) l
set_option maxRecDepth 100000 in
set_option maxHeartbeats 4000000 in
theorem unsubS_any (K : List UInt8) (n : Int) (l : List UInt8) (hl : l.length = 16) (bC : Nat) (w : World) (hC : Blk w bC (bytesV (cip K)) 59) :
    Calls Try.prog 70 #[.pointer (some ⟨bC, 0, none⟩), .agg (bytesV l), .int .i64 n] w fun e w' => e = .returned (.agg (bytesV (unsubL l))) ∧ Below w.heap.size w w' := by
  have z1 : ∀ w, (zeroValue 56).run Try.prog w = .ok (.agg (bytesV Z16)) w := (zero_of_info zero56).1
  have hmf : ∀ (fn : Fn) (first cap : Array Value) (w : World), (Instr.makeFunc fn first cap).run Try.prog w = .ok (.func fn first cap) w := fun _ _ _ _ => rfl
  obtain ⟨M, hM⟩ : ∃ M, M = unsubL l := ⟨_, rfl⟩
  have hMl := Lib.hid (show M.length = 16 by rw [hM, unsubL, eachL_length])
  have HM := Lib.hid hM
  clear hM
  obtain ⟨W, hW⟩ : ∃ W, W = ((w.alloc (.cells #[.pointer (some ⟨bC, 0, none⟩)] 47)).alloc (.cells (bytesV l) 56)).alloc (.cells (bytesV Z16) 56) := ⟨_, rfl⟩
  have b0 : Blk W w.heap.size #[.pointer (some ⟨bC, 0, none⟩)] 47 := by rw [hW]; exact ((Blk.new' rfl).alloc _).alloc _
  have b1 : Blk W (w.heap.size + 1) (bytesV l) 56 := by rw [hW]; exact (Blk.new' (by simp)).alloc _
  have b3 : Blk W (w.heap.size + 1 + 1) (bytesV Z16) 56 := by rw [hW]; exact Blk.new' (by simp)
  have bc : Blk W bC (bytesV (cip K)) 59 := by rw [hW]; exact ((hC.alloc _).alloc _).alloc _
  have hB : Below w.heap.size w W := by rw [hW]; exact (((Below.refl _ _).alloc (Nat.le_refl _) _).alloc (by simp) _).alloc (by simp; omega) _
  have hg : Hid (∀ (i : Nat) (x : UInt8) (w' : World), i < 16 → Below W.heap.size W w' → Calls Try.prog 84 (#[.int .i64 i, .int .u8 x.toNat] ++ #[.pointer (some ⟨w.heap.size, 0, none⟩)]) w' (Drawn (.int .u8 (inbox x).toNat) w')) :=
    fun i x w' _ hb => unsub1_any K i x _ bC w' ((b0.below hb b0.lt).cell 0) (bc.below hb bc.lt)
  have HW := Lib.hid hW
  clear hW hC
  go_enter Try.func70, Try.ntmps70
  go_wp2_with (first
    | ((with_reducible refine wpList_load_blk rfl 56 (.tmp 4) rfl (w.heap.size + 1) 0 16 rfl (HW.out ▸ b1) row56 ?_ (bytesV l) ?_ ?_); (rw [bytesV_size, hl]; exact Nat.le_refl _); (exact bytesV_whole _ _ hl))
    | (go_at_call 78; rw [← HW.out]; refine (each_any 84 _ cf84 l hl (fun _ x => inbox x) W hg.out).mono ?_; rintro e w2 ⟨rfl, hb⟩; rw [← unsubL, ← HM.out])
    | ((with_reducible refine wpList_store_blk rfl 56 (.tmp 6) (.tmp 9) rfl (w.heap.size + 1 + 1) 0 16 (bytesV M) rfl rfl (b3.below hb b3.lt) row56 ?_ ?_ (bytesV_one _) ?_); (rw [bytesV_size, hMl.out]); (rw [bytesV_size]; decide); intro w8 hb8 ho8; rw [splice_all _ _ (by rw [hMl.out]; rfl)] at hb8))
  refine bodyPost_ret (results_blk rfl _ _ _ (bytesV M) 56 16 rfl hb8 row56 (by rw [bytesV_size, hMl.out])) rfl ?_
  exact ⟨by rw [HM.out], below_only (bnext hB hb) ho8 (by omega)⟩

theorem cf81 (args : Array Value) (w : World) : (callFunc 81 args).run Try.prog w = .ok (.enter 81 args) w := Go.MuLone.run_callFunc_enter (f := 81) Try.func81 rfl rfl args w
def shiftL (l : List UInt8) : List UInt8 := eachL (fun i _ => shG l 4 i) l
set_option maxRecDepth 100000 in
set_option maxHeartbeats 4000000 in
theorem shiftS_any (p : Value) (n : Int) (l : List UInt8) (hl : l.length = 16) (w : World) :
    Calls Try.prog 65 #[p, .agg (bytesV l), .int .i64 n] w fun e w' => e = .returned (.agg (bytesV (shiftL l))) ∧ Below w.heap.size w w' := by
  have z1 : ∀ w, (zeroValue 56).run Try.prog w = .ok (.agg (bytesV Z16)) w := (zero_of_info zero56).1
  have hmf : ∀ (fn : Fn) (first cap : Array Value) (w : World), (Instr.makeFunc fn first cap).run Try.prog w = .ok (.func fn first cap) w := fun _ _ _ _ => rfl
  obtain ⟨M, hM⟩ : ∃ M, M = shiftL l := ⟨_, rfl⟩
  have hMl := Lib.hid (show M.length = 16 by rw [hM, shiftL, eachL_length])
  have HM := Lib.hid hM
  clear hM
  obtain ⟨W, hW⟩ : ∃ W, W = (w.alloc (.cells (bytesV l) 56)).alloc (.cells (bytesV Z16) 56) := ⟨_, rfl⟩
  have b1 : Blk W w.heap.size (bytesV l) 56 := by rw [hW]; exact (Blk.new' rfl).alloc _
  have b3 : Blk W (w.heap.size + 1) (bytesV Z16) 56 := by rw [hW]; exact Blk.new' (by simp)
  have hB : Below w.heap.size w W := by rw [hW]; exact ((Below.refl _ _).alloc (Nat.le_refl _) _).alloc (by simp) _
  have hg : Hid (∀ (i : Nat) (x : UInt8) (w' : World), i < 16 → Below W.heap.size W w' → Calls Try.prog 81 (#[.int .i64 i, .int .u8 x.toNat] ++ #[.pointer (some ⟨w.heap.size, 0, none⟩)]) w' (Drawn (.int .u8 (shG l 4 i).toNat) w')) :=
    fun i x w' hi hb => shift1_any l hl i hi x _ w' (b1.below hb b1.lt)
  have HW := Lib.hid hW
  clear hW
  go_enter Try.func65, Try.ntmps65
  go_wp2_with (first
    | ((with_reducible refine wpList_load_blk rfl 56 (.tmp 4) rfl w.heap.size 0 16 rfl (HW.out ▸ b1) row56 ?_ (bytesV l) ?_ ?_); (rw [bytesV_size, hl]; exact Nat.le_refl _); (exact bytesV_whole _ _ hl))
    | (go_at_call 78; rw [← HW.out]; refine (each_any 81 _ cf81 l hl (fun i _ => shG l 4 i) W hg.out).mono ?_; rintro e w2 ⟨rfl, hb⟩; rw [← shiftL, ← HM.out])
    | ((with_reducible refine wpList_store_blk rfl 56 (.tmp 6) (.tmp 9) rfl (w.heap.size + 1) 0 16 (bytesV M) rfl rfl (b3.below hb b3.lt) row56 ?_ ?_ (bytesV_one _) ?_); (rw [bytesV_size, hMl.out]); (rw [bytesV_size]; decide); intro w8 hb8 ho8; rw [splice_all _ _ (by rw [hMl.out]; rfl)] at hb8))
  refine bodyPost_ret (results_blk rfl _ _ _ (bytesV M) 56 16 rfl hb8 row56 (by rw [bytesV_size, hMl.out])) rfl ?_
  exact ⟨by rw [HM.out], below_only (bnext hB hb) ho8 (by omega)⟩

theorem cf83 (args : Array Value) (w : World) : (callFunc 83 args).run Try.prog w = .ok (.enter 83 args) w := Go.MuLone.run_callFunc_enter (f := 83) Try.func83 rfl rfl args w
def unshiftL (l : List UInt8) : List UInt8 := eachL (fun i _ => shG l 12 i) l
set_option maxRecDepth 100000 in
set_option maxHeartbeats 4000000 in
theorem unshiftS_any (p : Value) (n : Int) (l : List UInt8) (hl : l.length = 16) (w : World) :
    Calls Try.prog 69 #[p, .agg (bytesV l), .int .i64 n] w fun e w' => e = .returned (.agg (bytesV (unshiftL l))) ∧ Below w.heap.size w w' := by
  have z1 : ∀ w, (zeroValue 56).run Try.prog w = .ok (.agg (bytesV Z16)) w := (zero_of_info zero56).1
  have hmf : ∀ (fn : Fn) (first cap : Array Value) (w : World), (Instr.makeFunc fn first cap).run Try.prog w = .ok (.func fn first cap) w := fun _ _ _ _ => rfl
  obtain ⟨M, hM⟩ : ∃ M, M = unshiftL l := ⟨_, rfl⟩
  have hMl := Lib.hid (show M.length = 16 by rw [hM, unshiftL, eachL_length])
  have HM := Lib.hid hM
  clear hM
  obtain ⟨W, hW⟩ : ∃ W, W = (w.alloc (.cells (bytesV l) 56)).alloc (.cells (bytesV Z16) 56) := ⟨_, rfl⟩
  have b1 : Blk W w.heap.size (bytesV l) 56 := by rw [hW]; exact (Blk.new' rfl).alloc _
  have b3 : Blk W (w.heap.size + 1) (bytesV Z16) 56 := by rw [hW]; exact Blk.new' (by simp)
  have hB : Below w.heap.size w W := by rw [hW]; exact ((Below.refl _ _).alloc (Nat.le_refl _) _).alloc (by simp) _
  have hg : Hid (∀ (i : Nat) (x : UInt8) (w' : World), i < 16 → Below W.heap.size W w' → Calls Try.prog 83 (#[.int .i64 i, .int .u8 x.toNat] ++ #[.pointer (some ⟨w.heap.size, 0, none⟩)]) w' (Drawn (.int .u8 (shG l 12 i).toNat) w')) :=
    fun i x w' hi hb => unshift1_any l hl i hi x _ w' (b1.below hb b1.lt)
  have HW := Lib.hid hW
  clear hW
  go_enter Try.func69, Try.ntmps69
  go_wp2_with (first
    | ((with_reducible refine wpList_load_blk rfl 56 (.tmp 4) rfl w.heap.size 0 16 rfl (HW.out ▸ b1) row56 ?_ (bytesV l) ?_ ?_); (rw [bytesV_size, hl]; exact Nat.le_refl _); (exact bytesV_whole _ _ hl))
    | (go_at_call 78; rw [← HW.out]; refine (each_any 83 _ cf83 l hl (fun i _ => shG l 12 i) W hg.out).mono ?_; rintro e w2 ⟨rfl, hb⟩; rw [← unshiftL, ← HM.out])
    | ((with_reducible refine wpList_store_blk rfl 56 (.tmp 6) (.tmp 9) rfl (w.heap.size + 1) 0 16 (bytesV M) rfl rfl (b3.below hb b3.lt) row56 ?_ ?_ (bytesV_one _) ?_); (rw [bytesV_size, hMl.out]); (rw [bytesV_size]; decide); intro w8 hb8 ho8; rw [splice_all _ _ (by rw [hMl.out]; rfl)] at hb8))
  refine bodyPost_ret (results_blk rfl _ _ _ (bytesV M) 56 16 rfl hb8 row56 (by rw [bytesV_size, hMl.out])) rfl ?_
  exact ⟨by rw [HM.out], below_only (bnext hB hb) ho8 (by omega)⟩
end Go.Proofs.Ytdgmahgidmjniaa
