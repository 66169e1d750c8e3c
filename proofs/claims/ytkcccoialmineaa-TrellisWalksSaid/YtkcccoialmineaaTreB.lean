/-
  The trellis, walks: Step, its reference, an encoder's step.
-/
import Derived.Test.YtkcccoialmineaaTreA
import Derived.OwnWalk
namespace Go.Proofs.Ytkcccoialmineaa
open Go.RowKit

theorem rg_size (s : Nat) : (rg s).size = 3 := rfl
theorem rg_one (s : Nat) : (rg s).all (·.oneCell') = true := by
  rw [Array.all_eq_true_iff_forall_mem]
  intro v hv
  simp only [rg, List.mem_toArray, List.mem_cons, List.not_mem_nil, or_false] at hv
  rcases hv with rfl | rfl | rfl <;> rfl
theorem rg_whole (s : Nat) : (rg s).extract 0 (0 + 3) = rg s := rfl

theorem fits_any (s b : Int) (w : World) :
    Calls Try.prog 29 #[.int .i64 s, .int .i64 b] w fun e w' => e = .returned (.bool (decide (0 ≤ s ∧ s < 8 ∧ 0 ≤ b ∧ b < 2))) ∧ w' = w := by
  obtain ⟨r, hr⟩ : ∃ r, r = decide (0 ≤ s ∧ s < 8 ∧ 0 ≤ b ∧ b < 2) := ⟨_, rfl⟩
  rw [← hr]
  have H := Lib.hid hr
  clear hr
  go_enter Try.func29, Try.ntmps29
  go_wp2
  all_goals
    go_ret
    refine ⟨?_, rfl⟩
    rw [H.out]
    refine congrArg (fun b => Ending.returned (Value.bool b)) ?_
    first
      | exact decide_eq_decide.2 (by omega)
      | exact (decide_eq_false (by omega)).symm

theorem num_any (n : Int) (w : World) : Calls Try.prog 15 #[.int .i64 n] w fun e w' => e = .returned (.int .i64 n) ∧ w' = w := by
  go_enter Try.func15, Try.ntmps15
  go_wp2
  go_ret
  exact ⟨rfl, rfl⟩

theorem rvalid_any (s : Int) (w : World) : Calls Try.prog 12 #[.int .i64 s] w fun e w' => e = .returned (.bool (decide (0 ≤ s ∧ s < 8))) ∧ w' = w := by
  obtain ⟨r, hr⟩ : ∃ r, r = decide (0 ≤ s ∧ s < 8) := ⟨_, rfl⟩
  rw [← hr]
  have H := Lib.hid hr
  clear hr
  go_enter Try.func12, Try.ntmps12
  go_wp2
  all_goals
    go_ret
    refine ⟨?_, rfl⟩
    rw [H.out]
    refine congrArg (fun b => Ending.returned (Value.bool b)) ?_
    first
      | exact decide_eq_decide.2 (by omega)
      | exact (decide_eq_false (by omega)).symm

theorem step_ok (s b : Nat) (hs : s < 8) (hb : b < 2) (w : World) :
    Calls Try.prog 10 #[.int .i64 s, .int .i64 b] w fun e w' => e = .returned (.tuple #[.int .i64 (nx s b), .int .i64 (pr s b), .int .i64 0]) ∧ Below w.heap.size w w' := by
  have hn := nx_lt s b hs
  have hf : decide (0 ≤ (s : Int) ∧ (s : Int) < 8 ∧ 0 ≤ (b : Int) ∧ (b : Int) < 2) = true := decide_eq_true (by omega)
  obtain ⟨W, hW⟩ : ∃ W, W = w.alloc (.cells #[.int .i64 0, .int .i64 0, .int .i64 0] 64) := ⟨_, rfl⟩
  have b0 : Blk W w.heap.size #[.int .i64 0, .int .i64 0, .int .i64 0] 64 := by rw [hW]; exact Blk.new' rfl
  have hB : Below w.heap.size w W := by rw [hW]; exact (Below.refl _ _).alloc (Nat.le_refl _) _
  have HW := Lib.hid hW
  clear hW
  go_enter Try.func10, Try.ntmps10
  go_wp2
  go_step3
  go_wp2_with (first
    | (go_at_call 29; rw [← HW.out]; (with_reducible refine (fits_any _ _ _).mono ?_); rintro e w2 ⟨rfl, rfl⟩; rw [hf])
    | (go_at_call 30; (with_reducible refine (at_any s hs _).mono ?_); rintro e w3 ⟨rfl, hb1⟩; replace b0 := b0.below hb1 b0.lt; replace hB := bnext hB hb1; clear hb1)
    | (go_at_call 31; (with_reducible refine (step_any s b hs hb _).mono ?_); rintro e w4 ⟨rfl, hb1⟩; replace b0 := b0.below hb1 b0.lt; replace hB := bnext hB hb1; clear hb1)
    | ((with_reducible refine wpList_store_blk rfl 64 (.tmp 7) (.tmp 17) rfl w.heap.size 0 3 (rg (nx s b)) rfl rfl b0 row64 ?_ ?_ (rg_one _) ?_); (rfl); (decide); intro w5 hb5 ho5; replace b0 : Blk w5 w.heap.size (rg (nx s b)) 64 := hb5; replace hB := below_only hB ho5 (Nat.le_refl _))
    | ((with_reducible refine wpList_load_blk rfl 64 (.tmp 7) rfl w.heap.size 0 3 rfl b0 row64 ?_ (rg (nx s b)) ?_ ?_); (exact Nat.le_refl 3); (rfl))
    | (go_at_call 32; (with_reducible refine (state_any (nx s b) hn _).mono ?_); rintro e w6 ⟨rfl, hb1⟩; replace hB := bnext hB hb1; clear hb1))
  rw [Exit.noGoto_ret]
  go_ret3
  exact ⟨rfl, hB⟩

theorem step_err (s b : Int) (h : ¬ (0 ≤ s ∧ s < 8 ∧ 0 ≤ b ∧ b < 2)) (w : World) :
    Calls Try.prog 10 #[.int .i64 s, .int .i64 b] w fun e w' => e = .returned (.tuple #[.int .i64 0, .int .i64 0, .int .i64 2]) ∧ Below w.heap.size w w' := by
  have hf : decide (0 ≤ s ∧ s < 8 ∧ 0 ≤ b ∧ b < 2) = false := decide_eq_false h
  go_enter Try.func10, Try.ntmps10
  go_wp2
  refine wp_scope_jumps 0 (fun a' w' => a' = { tmps := #[.int .i64 s, .int .i64 b, undef, undef, .int .i64 0, .int .i64 0, .int .i64 2, .pointer (some ⟨w.heap.size, 0, none⟩), .int .i64 s, .int .i64 b, .bool false, .bool true, undef, undef, undef, undef, undef, undef, undef, undef, undef, undef, undef], defers := [] } ∧ Below w.heap.size w w') (fun _ _ => 0) rfl ?_ ?_
  · go_wp2_with (first
      | (go_at_call 29; (with_reducible refine (fits_any _ _ _).mono ?_); rintro e w2 ⟨rfl, rfl⟩; rw [hf]))
    go_step3
    exact ⟨rfl, rfl, (Below.refl _ _).alloc (Nat.le_refl _) _⟩
  · rintro a1 w1 ⟨rfl, hB⟩
    go_wp2
    simp only [Exit.jump]
    go_ret3
    exact ⟨rfl, hB⟩

theorem rstep_ok (s b : Nat) (hs : s < 8) (hb : b < 2) (w : World) :
    Calls Try.prog 16 #[.int .i64 s, .int .i64 b] w fun e w' => e = .returned (.tuple #[.int .i64 (nx s b), .int .i64 (pr s b)]) ∧ w' = w := by
  have h1 := Lib.hid (show (4 * (((b : Int) + (s : Int) / 2 % 2 + s) % 2) + 2 * ((s : Int) / 4) + (s : Int) / 2 % 2) = (nx s b : Nat) ∧ ((((b : Int) + (s : Int) / 2 % 2 + s) % 2 + (s : Int) / 4 + (s : Int) % 2) % 2) = (pr s b : Nat) by unfold nx pr; omega)
  go_enter Try.func16, Try.ntmps16
  go_wp2
  go_ret2
  refine ⟨?_, rfl⟩
  obtain ⟨h1, h2⟩ := h1.out
  rw [← h1, ← h2]
  rfl
end Go.Proofs.Ytkcccoialmineaa
