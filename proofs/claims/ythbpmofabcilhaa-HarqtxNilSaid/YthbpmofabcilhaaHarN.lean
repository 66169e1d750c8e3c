/-
  No process: the results of all methods; the statement HarqtxNil, the walk.
-/
import Derived.Test.YthbpmofabcilhaaHarL
namespace Go.Proofs.Ythbpmofabcilhaa
open Go.RowKit
attribute [-go_sem] Instr.build

def NP (w : World) (p : Option Addr) : Prop := p = none ∨ ∃ b, p = some ⟨b, 0, none⟩ ∧ Blk w b (cellsH (.slice none 0 0) (H0 0)) 64
theorem NP.nil (w : World) : NP w none := .inl rfl
theorem NP.below {w w' : World} {p : Option Addr} (h : NP w p) (hb : Below w.heap.size w w') : NP w' p := by
  rcases h with h | ⟨b, h, k⟩
  · exact .inl h
  · exact .inr ⟨b, h, k.below hb k.lt⟩
theorem none_np (p : Option Addr) (w : World) (h : NP w p) : Calls Try.prog 25 #[.pointer p] w fun e w' => e = .returned (.bool true) ∧ w' = w := by
  rcases h with rfl | ⟨b, rfl, k⟩
  · exact none_nil w
  · exact none_any b _ _ w k
theorem load_np (p : Option Addr) (u : Value) (w : World) (h : NP w p) : Calls Try.prog 11 #[.pointer p, u] w fun e w' => e = .returned (.int .i64 1) ∧ w' = w := by
  go_enter Try.func11, Try.ntmps11
  go_wp2_with (go_at_call 25; (with_reducible refine (none_np p _ h).mono ?_); rintro e w' ⟨rfl, hw⟩; subst w')
  go_ret
  exact ⟨rfl, rfl⟩
theorem send_np (p : Option Addr) (t : Int) (w : World) (h : NP w p) : Calls Try.prog 12 #[.pointer p, .int .i64 t] w fun e w' => e = .returned (.tuple #[.agg #[.slice none 0 0, .int .i64 0, .int .i64 0, .bool false], .int .i64 1]) ∧ Below w.heap.size w w' := by
  have z1 : ∀ w, (zeroValue 32).run Try.prog w = .ok (.agg trZ) w := (zero_of_info zero32).1
  have hbz := build32z
  have b1 : Blk (w.alloc (.cells trZ 32)) w.heap.size trZ 32 := Blk.new' rfl
  have hB : Below w.heap.size w (w.alloc (.cells trZ 32)) := (Below.refl _ _).alloc (Nat.le_refl _) _
  have h' := h.below hB
  go_enter Try.func12, Try.ntmps12
  go_wp2_with (first
    | (go_at_call 25; (with_reducible refine (none_np p _ h').mono ?_); rintro e w' ⟨rfl, hw⟩; subst w')
    | ((with_reducible refine wpList_store_blk rfl 32 (.tmp 4) (.tmp 10) rfl w.heap.size 0 4 trZ rfl rfl b1 row32 ?_ ?_ trZ_one ?_); (rfl); (exact Nat.le_refl 4); intro w4 hb4 ho4; rw [splice_full _ _ rfl] at hb4))
  refine bodyPost_ret (results_blk_tmp rfl _ _ w.heap.size trZ 32 4 _ rfl rfl hb4 row32 rfl) rfl ?_
  exact ⟨rfl, below_only hB ho4 (Nat.le_refl _)⟩
theorem fb_np (p : Option Addr) (t a : Int) (w : World) (h : NP w p) : Calls Try.prog 15 #[.pointer p, .int .i64 t, .int .i64 a] w fun e w' => e = .returned (.tuple #[.int .i64 0, .int .i64 1]) ∧ w' = w := by
  go_enter Try.func15, Try.ntmps15
  go_wp2_with (go_at_call 25; (with_reducible refine (none_np p _ h).mono ?_); rintro e w' ⟨rfl, hw⟩; subst w')
  go_ret2
  exact ⟨rfl, rfl⟩
theorem drop_np (p : Option Addr) (w : World) (h : NP w p) : Calls Try.prog 22 #[.pointer p] w fun e w' => e = .returned (.tuple #[.slice none 0 0, .int .i64 1]) ∧ w' = w := by
  go_enter Try.func22, Try.ntmps22
  go_wp2_with (go_at_call 25; (with_reducible refine (none_np p _ h).mono ?_); rintro e w' ⟨rfl, hw⟩; subst w')
  go_ret2
  exact ⟨rfl, rfl⟩
theorem state_np (p : Option Addr) (w : World) (h : NP w p) : Calls Try.prog 14 #[.pointer p] w fun e w' => e = .returned (.int .i64 0) ∧ w' = w := by
  go_enter Try.func14, Try.ntmps14
  go_wp2_with (go_at_call 25; (with_reducible refine (none_np p _ h).mono ?_); rintro e w' ⟨rfl, hw⟩; subst w')
  go_ret
  exact ⟨rfl, rfl⟩
theorem number_np (p : Option Addr) (w : World) (h : NP w p) : Calls Try.prog 21 #[.pointer p] w fun e w' => e = .returned (.int .i64 0) ∧ w' = w := by
  go_enter Try.func21, Try.ntmps21
  go_wp2_with (go_at_call 25; (with_reducible refine (none_np p _ h).mono ?_); rintro e w' ⟨rfl, hw⟩; subst w')
  go_ret
  exact ⟨rfl, rfl⟩
theorem due_np (p : Option Addr) (w : World) (h : NP w p) : Calls Try.prog 16 #[.pointer p] w fun e w' => e = .returned (.int .i64 (-1)) ∧ w' = w := by
  go_enter Try.func16, Try.ntmps16
  go_wp2_with (go_at_call 25; (with_reducible refine (none_np p _ h).mono ?_); rintro e w' ⟨rfl, hw⟩; subst w')
  go_ret
  exact ⟨rfl, rfl⟩
theorem copy_np (p : Option Addr) (w : World) (h : NP w p) : Calls Try.prog 23 #[.pointer p] w fun e w' => e = .returned (.pointer none) ∧ w' = w := by
  go_enter Try.func23, Try.ntmps23
  go_wp2_with (go_at_call 25; (with_reducible refine (none_np p _ h).mono ?_); rintro e w' ⟨rfl, hw⟩; subst w')
  go_ret
  exact ⟨rfl, rfl⟩
theorem build64z (w : World) : (Instr.build 64 #[]).run Try.prog w = .ok (.agg (cellsH (.slice none 0 0) (H0 0))) w := run_build w 64 _ _ (by kernel_rfl)
theorem build32e (w : World) : (Instr.build 32 #[]).run Try.prog w = .ok (.agg #[.slice none 0 0, .int .i64 0, .int .i64 0, .bool false]) w := build32z w

set_option maxRecDepth 100000 in
set_option maxHeartbeats 4000000 in
theorem walk_HarqtxNil (v0 : Value) (l : List UInt8) (t : Int) (_ : (Lit.int .i64 t).wf = true) (a : Int) (_ : (Lit.int .i64 a).wf = true) (w : World) (hb : Bsl w v0 l) : Calls Try.prog 8 #[v0, .int .i64 t, .int .i64 a] w fun e w' => e = .returned (.bool true) ∧ Below w.heap.size w w' := by
  have hz := z32
  have hbz := build64z
  have hbe := build32e
  obtain ⟨W, hW⟩ : ∃ W, W = (w.alloc (.cells (cellsH (.slice none 0 0) (H0 0)) 64)).alloc (.cells #[.pointer none, .pointer (some ⟨w.heap.size, 0, none⟩)] 25) := ⟨_, rfl⟩
  have b0 : Blk W w.heap.size (cellsH (.slice none 0 0) (H0 0)) 64 := by rw [hW]; exact (Blk.new' rfl).alloc _
  have b1 : Blk W (w.heap.size + 1) #[.pointer none, .pointer (some ⟨w.heap.size, 0, none⟩)] 25 := by rw [hW]; exact Blk.new' (by simp)
  have hB : Below w.heap.size w W := by rw [hW]; exact ((Below.refl _ _).alloc (Nat.le_refl _) _).alloc (by simp) _
  have hN : NP W (some ⟨w.heap.size, 0, none⟩) := .inr ⟨_, rfl, b0⟩
  have HW := Lib.hid hW
  obtain ⟨aa, cap, rfl, h1, h2, h3, h4⟩ := hb
  clear hW h1 h2 h3 h4 b0
  go_enter Try.func8, Try.ntmps8
  go_wp2
  rw [← HW.out]
  clear HW hbz
  have c0 : W.cell? ⟨w.heap.size + 1, 0, none⟩ = some (.pointer none) := b1.cell 0
  refine wp_loop_rounds 3 ?_
  rw [rounds_succ]
  go_wp2_with (first
    | (go_at_call 11; (with_reducible refine (load_np none _ _ (NP.nil _)).mono ?_); rintro e w' ⟨rfl, hw⟩; subst w')
    | (go_at_call 12; (with_reducible refine (send_np none _ _ (NP.nil _)).mono ?_); rintro e w1 ⟨rfl, hb1⟩; have b2 := b1.below hb1 b1.lt; have hB2 := bnext hB hb1; have hN2 := hN.below hb1; clear hb1 b1 hB hN c0)
    | (go_at_call 15; (with_reducible refine (fb_np none _ _ _ (NP.nil _)).mono ?_); rintro e w' ⟨rfl, hw⟩; subst w')
    | (go_at_call 22; (with_reducible refine (drop_np none _ (NP.nil _)).mono ?_); rintro e w' ⟨rfl, hw⟩; subst w')
    | (go_at_call 24; (with_reducible refine (rsame_eq [] _ _ _ _ _ _ (bsl_nil _) (bsl_nil _)).mono ?_); rintro e w2 ⟨rfl, hb2⟩; have hb3 := bnext (alloc_below w1 _) hb2; have b3 := b2.below hb3 b2.lt; have hB3 := bnext hB2 hb3; have hN3 := hN2.below hb3; clear hb2 hb3 b2 hB2 hN2)
    | (go_at_call 14; (with_reducible refine (state_np none _ (NP.nil _)).mono ?_); rintro e w' ⟨rfl, hw⟩; subst w')
    | (go_at_call 21; (with_reducible refine (number_np none _ (NP.nil _)).mono ?_); rintro e w' ⟨rfl, hw⟩; subst w')
    | (go_at_call 16; (with_reducible refine (due_np none _ (NP.nil _)).mono ?_); rintro e w' ⟨rfl, hw⟩; subst w')
    | (go_at_call 23; (with_reducible refine (copy_np none _ (NP.nil _)).mono ?_); rintro e w' ⟨rfl, hw⟩; subst w'))
  rw [rounds_succ]
  have c1 : w2.cell? ⟨w.heap.size + 1, 1, none⟩ = some (.pointer (some ⟨w.heap.size, 0, none⟩)) := b3.cell 1
  go_wp2_with (first
    | (go_at_call 11; (with_reducible refine (load_np _ _ _ hN3).mono ?_); rintro e w' ⟨rfl, hw⟩; subst w')
    | (go_at_call 12; (with_reducible refine (send_np _ _ _ hN3).mono ?_); rintro e w4 ⟨rfl, hb1⟩; have b2 := b3.below hb1 b3.lt; have hB4 := bnext hB3 hb1; have hN4 := (hN3.below hb1).below (alloc_below w4 (.cells #[.slice none 0 0, .int .i64 0, .int .i64 0, .bool false] 32)); clear hb1 b3 hB3 hN3 c1)
    | (go_at_call 15; (with_reducible refine (fb_np _ _ _ _ hN4).mono ?_); rintro e w' ⟨rfl, hw⟩; subst w')
    | (go_at_call 22; (with_reducible refine (drop_np _ _ hN4).mono ?_); rintro e w' ⟨rfl, hw⟩; subst w')
    | (go_at_call 24; (with_reducible refine (rsame_eq [] _ _ _ _ _ _ (bsl_nil _) (bsl_nil _)).mono ?_); rintro e w5 ⟨rfl, hb2⟩; have hb3 := bnext (alloc_below w4 _) hb2; have b5 := b2.below hb3 b2.lt; have hB5 := bnext hB4 hb3; have hN5 := hN4.below hb2; clear hb2 hb3 b2 hB4 hN4)
    | (go_at_call 14; (with_reducible refine (state_np _ _ hN5).mono ?_); rintro e w' ⟨rfl, hw⟩; subst w')
    | (go_at_call 21; (with_reducible refine (number_np _ _ hN5).mono ?_); rintro e w' ⟨rfl, hw⟩; subst w')
    | (go_at_call 16; (with_reducible refine (due_np _ _ hN5).mono ?_); rintro e w' ⟨rfl, hw⟩; subst w')
    | (go_at_call 23; (with_reducible refine (copy_np _ _ hN5).mono ?_); rintro e w' ⟨rfl, hw⟩; subst w'))
  rw [rounds_succ]
  go_wp2_with (go_at_call 9; (with_reducible refine (known_any _).mono ?_); rintro e w9 ⟨rfl, hb9⟩)
  go_ret
  exact ⟨rfl, bnext hB5 hb9⟩
end Go.Proofs.Ythbpmofabcilhaa
