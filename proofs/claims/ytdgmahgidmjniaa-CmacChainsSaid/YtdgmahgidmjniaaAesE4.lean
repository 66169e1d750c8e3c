/-
  AES, encryption: mixing the columns.
-/
import Derived.Test.YtdgmahgidmjniaaAesE3
namespace Go.Proofs.Ytdgmahgidmjniaa
open Go.RowKit
attribute [-go_sem] Instr.build

theorem cf90 (args : Array Value) (w : World) : (callFunc 90 args).run Try.prog w = .ok (.enter 90 args) w := Go.MuLone.run_callFunc_enter (f := 90) Try.func90 rfl rfl args w
def mixL (f l : List UInt8) : List UInt8 := eachL (fun i _ => mixS f l i 4) l
def mixN (f : List UInt8) (n : Nat) (l : List UInt8) : List UInt8 := if n = 10 then l else mixL f l
theorem mixN_length (f : List UInt8) (n : Nat) (l : List UInt8) (hl : l.length = 16) : (mixN f n l).length = 16 := by
  unfold mixN
  split
  · exact hl
  · rw [mixL, eachL_length]

set_option maxRecDepth 100000 in
set_option maxHeartbeats 4000000 in
theorem mixed_any (f : List UInt8) (hf : f.length = 4) (n : Nat) (l : List UInt8) (hl : l.length = 16) (w : World) :
    Calls Try.prog 82 #[.agg (bytesV l), .int .i64 n, .agg (bytesV f)] w fun e w' => e = .returned (.agg (bytesV (mixN f n l))) ∧ Below w.heap.size w w' := by
  have z1 : ∀ w, (zeroValue 56).run Try.prog w = .ok (.agg (bytesV Z16)) w := (zero_of_info zero56).1
  have hmf : ∀ (fn : Fn) (first cap : Array Value) (w : World), (Instr.makeFunc fn first cap).run Try.prog w = .ok (.func fn first cap) w := fun _ _ _ _ => rfl
  obtain ⟨W, hW⟩ : ∃ W, W = ((w.alloc (.cells (bytesV l) 56)).alloc (.cells (bytesV f) 89)).alloc (.cells (bytesV Z16) 56) := ⟨_, rfl⟩
  have b0 : Blk W w.heap.size (bytesV l) 56 := by rw [hW]; exact ((Blk.new' rfl).alloc _).alloc _
  have b1 : Blk W (w.heap.size + 1) (bytesV f) 89 := by rw [hW]; exact (Blk.new' (by simp)).alloc _
  have b3 : Blk W (w.heap.size + 1 + 1) (bytesV Z16) 56 := by rw [hW]; exact Blk.new' (by simp)
  have hB : Below w.heap.size w W := by rw [hW]; exact (((Below.refl _ _).alloc (Nat.le_refl _) _).alloc (by simp) _).alloc (by simp; omega) _
  have hg : Hid (∀ (i : Nat) (x : UInt8) (w' : World), i < 16 → Below W.heap.size W w' → Calls Try.prog 90 (#[.int .i64 i, .int .u8 x.toNat] ++ #[.pointer (some ⟨w.heap.size + 1, 0, none⟩), .pointer (some ⟨w.heap.size, 0, none⟩)]) w' (Drawn (.int .u8 (mixS f l i 4).toNat) w')) :=
    fun i x w' hi hb => mixed1_any l f hl hf i hi x _ _ w' (b0.below hb b0.lt) (b1.below hb b1.lt)
  have HW := Lib.hid hW
  clear hW
  by_cases h10 : n = 10
  · subst h10
    have e : mixN f 10 l = l := by simp [mixN]
    rw [e]
    go_enter Try.func82, Try.ntmps82
    go_wp2_with (first
      | ((with_reducible refine wpList_load_blk rfl 56 (.tmp 3) rfl w.heap.size 0 16 rfl (HW.out ▸ b0) row56 ?_ (bytesV l) ?_ ?_); (rw [bytesV_size, hl]; exact Nat.le_refl _); (exact bytesV_whole _ _ hl))
      | ((with_reducible refine wpList_store_blk rfl 56 (.tmp 6) (.tmp 9) rfl (w.heap.size + 1 + 1) 0 16 (bytesV l) rfl rfl (HW.out ▸ b3) row56 ?_ ?_ (bytesV_one _) ?_); (rw [bytesV_size, hl]); (rw [bytesV_size]; decide); intro w8 hb8 ho8; rw [splice_all _ _ (by rw [hl]; rfl)] at hb8))
    rw [← HW.out] at ho8
    refine bodyPost_ret (results_blk rfl _ _ _ (bytesV l) 56 16 rfl hb8 row56 (by rw [bytesV_size, hl])) rfl ?_
    exact ⟨rfl, below_only hB ho8 (by omega)⟩
  · have hn : ((n : Int) == 10) = false := by simp; omega
    obtain ⟨M, hM⟩ : ∃ M, M = mixL f l := ⟨_, rfl⟩
    have hMl := Lib.hid (show M.length = 16 by rw [hM, mixL, eachL_length])
    have HM := Lib.hid hM
    have e : mixN f n l = M := by rw [mixN, if_neg h10, hM]
    rw [e]
    clear hM e
    go_enter Try.func82, Try.ntmps82
    go_wp2_with (first
      | ((with_reducible refine wpList_load_blk rfl 56 (.tmp 3) rfl w.heap.size 0 16 rfl (HW.out ▸ b0) row56 ?_ (bytesV l) ?_ ?_); (rw [bytesV_size, hl]; exact Nat.le_refl _); (exact bytesV_whole _ _ hl))
      | (go_at_call 78; rw [← HW.out]; refine (each_any 90 _ cf90 l hl (fun i _ => mixS f l i 4) W hg.out).mono ?_; rintro e w2 ⟨rfl, hb⟩; rw [← mixL, ← HM.out])
      | ((with_reducible refine wpList_store_blk rfl 56 (.tmp 6) (.tmp 12) rfl (w.heap.size + 1 + 1) 0 16 (bytesV M) rfl rfl (b3.below hb b3.lt) row56 ?_ ?_ (bytesV_one _) ?_); (rw [bytesV_size, hMl.out]); (rw [bytesV_size]; decide); intro w8 hb8 ho8; rw [splice_all _ _ (by rw [hMl.out]; rfl)] at hb8))
    refine bodyPost_ret (results_blk rfl _ _ _ (bytesV M) 56 16 rfl hb8 row56 (by rw [bytesV_size, hMl.out])) rfl ?_
    exact ⟨rfl, below_only (bnext hB hb) ho8 (by omega)⟩

def F1 : List UInt8 := [2, 3, 1, 1]
def F2 : List UInt8 := [14, 11, 13, 9]

set_option maxRecDepth 100000 in
set_option maxHeartbeats 4000000 in
theorem mixS_any (p : Value) (n : Nat) (l : List UInt8) (hl : l.length = 16) (w : World) :
    Calls Try.prog 66 #[p, .agg (bytesV l), .int .i64 n] w fun e w' => e = .returned (.agg (bytesV (mixN F1 n l))) ∧ Below w.heap.size w w' := by
  have z1 : ∀ w, (zeroValue 56).run Try.prog w = .ok (.agg (bytesV Z16)) w := (zero_of_info zero56).1
  have u1 : ∀ w, (Instr.build 89 #[(0, .int .u8 2), (1, .int .u8 3), (2, .int .u8 1), (3, .int .u8 1)]).run Try.prog w = .ok (.agg (bytesV F1)) w := fun w => run_build w 89 _ _ (by kernel_rfl)
  obtain ⟨M, hM⟩ : ∃ M, M = mixN F1 n l := ⟨_, rfl⟩
  have hMl := Lib.hid (show M.length = 16 by rw [hM, mixN_length _ _ _ hl])
  have HM := Lib.hid hM
  clear hM
  obtain ⟨W, hW⟩ : ∃ W, W = (w.alloc (.cells (bytesV l) 56)).alloc (.cells (bytesV Z16) 56) := ⟨_, rfl⟩
  have b0 : Blk W w.heap.size (bytesV l) 56 := by rw [hW]; exact (Blk.new' rfl).alloc _
  have b3 : Blk W (w.heap.size + 1) (bytesV Z16) 56 := by rw [hW]; exact Blk.new' (by simp)
  have hB : Below w.heap.size w W := by rw [hW]; exact ((Below.refl _ _).alloc (Nat.le_refl _) _).alloc (by simp) _
  have HW := Lib.hid hW
  clear hW
  go_enter Try.func66, Try.ntmps66
  go_wp2_with (first
    | ((with_reducible refine wpList_load_blk rfl 56 (.tmp 4) rfl w.heap.size 0 16 rfl (HW.out ▸ b0) row56 ?_ (bytesV l) ?_ ?_); (rw [bytesV_size, hl]; exact Nat.le_refl _); (exact bytesV_whole _ _ hl))
    | (go_at_call 82; rw [← HW.out]; refine (mixed_any F1 rfl n l hl W).mono ?_; rintro e w2 ⟨rfl, hb⟩; rw [← HM.out])
    | ((with_reducible refine wpList_store_blk rfl 56 (.tmp 6) (.tmp 10) rfl (w.heap.size + 1) 0 16 (bytesV M) rfl rfl (b3.below hb b3.lt) row56 ?_ ?_ (bytesV_one _) ?_); (rw [bytesV_size, hMl.out]); (rw [bytesV_size]; decide); intro w8 hb8 ho8; rw [splice_all _ _ (by rw [hMl.out]; rfl)] at hb8))
  refine bodyPost_ret (results_blk rfl _ _ _ (bytesV M) 56 16 rfl hb8 row56 (by rw [bytesV_size, hMl.out])) rfl ?_
  exact ⟨by rw [HM.out], below_only (bnext hB hb) ho8 (by omega)⟩

set_option maxRecDepth 100000 in
set_option maxHeartbeats 4000000 in
theorem unmixS_any (p : Value) (n : Nat) (l : List UInt8) (hl : l.length = 16) (w : World) :
    Calls Try.prog 68 #[p, .agg (bytesV l), .int .i64 n] w fun e w' => e = .returned (.agg (bytesV (mixN F2 n l))) ∧ Below w.heap.size w w' := by
  have z1 : ∀ w, (zeroValue 56).run Try.prog w = .ok (.agg (bytesV Z16)) w := (zero_of_info zero56).1
  have u1 : ∀ w, (Instr.build 89 #[(0, .int .u8 14), (1, .int .u8 11), (2, .int .u8 13), (3, .int .u8 9)]).run Try.prog w = .ok (.agg (bytesV F2)) w := fun w => run_build w 89 _ _ (by kernel_rfl)
  obtain ⟨M, hM⟩ : ∃ M, M = mixN F2 n l := ⟨_, rfl⟩
  have hMl := Lib.hid (show M.length = 16 by rw [hM, mixN_length _ _ _ hl])
  have HM := Lib.hid hM
  clear hM
  obtain ⟨W, hW⟩ : ∃ W, W = (w.alloc (.cells (bytesV l) 56)).alloc (.cells (bytesV Z16) 56) := ⟨_, rfl⟩
  have b0 : Blk W w.heap.size (bytesV l) 56 := by rw [hW]; exact (Blk.new' rfl).alloc _
  have b3 : Blk W (w.heap.size + 1) (bytesV Z16) 56 := by rw [hW]; exact Blk.new' (by simp)
  have hB : Below w.heap.size w W := by rw [hW]; exact ((Below.refl _ _).alloc (Nat.le_refl _) _).alloc (by simp) _
  have HW := Lib.hid hW
  clear hW
  go_enter Try.func68, Try.ntmps68
  go_wp2_with (first
    | ((with_reducible refine wpList_load_blk rfl 56 (.tmp 4) rfl w.heap.size 0 16 rfl (HW.out ▸ b0) row56 ?_ (bytesV l) ?_ ?_); (rw [bytesV_size, hl]; exact Nat.le_refl _); (exact bytesV_whole _ _ hl))
    | (go_at_call 82; rw [← HW.out]; refine (mixed_any F2 rfl n l hl W).mono ?_; rintro e w2 ⟨rfl, hb⟩; rw [← HM.out])
    | ((with_reducible refine wpList_store_blk rfl 56 (.tmp 6) (.tmp 10) rfl (w.heap.size + 1) 0 16 (bytesV M) rfl rfl (b3.below hb b3.lt) row56 ?_ ?_ (bytesV_one _) ?_); (rw [bytesV_size, hMl.out]); (rw [bytesV_size]; decide); intro w8 hb8 ho8; rw [splice_all _ _ (by rw [hMl.out]; rfl)] at hb8))
  refine bodyPost_ret (results_blk rfl _ _ _ (bytesV M) 56 16 rfl hb8 row56 (by rw [bytesV_size, hMl.out])) rfl ?_
  exact ⟨by rw [HM.out], below_only (bnext hB hb) ho8 (by omega)⟩
end Go.Proofs.Ytdgmahgidmjniaa
