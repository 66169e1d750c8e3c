/-
  The trellis, walks: the table of branches, Branches.
-/
import Derived.Test.YtkcccoialmineaaTreE
namespace Go.Proofs.Ytkcccoialmineaa
open Go.RowKit
attribute [-go_sem] Instr.build

/-- Branch number i. -/
def brn (i : Nat) : List Value := [.int .i64 ((i / 2 : Nat) : Int), .int .i64 ((i % 2 : Nat) : Int), .int .i64 (pr (i / 2) (i % 2) : Nat), .int .i64 (nx (i / 2) (i % 2) : Nat)]
def tabV (k : Nat) : Array Value := ((List.range 16).flatMap (fun i => if i < k then brn i else [.int .i64 0, .int .i64 0, .int .i64 0, .int .i64 0])).toArray
theorem row50 : RowTy Try.prog 50 4 := ⟨⟨_, Try.underlying50, rfl⟩, by kernel_rfl⟩
theorem row75 : RowTy Try.prog 75 64 := ⟨⟨_, Try.underlying75, rfl⟩, by kernel_rfl⟩
theorem zero75 : (Try.prog.info? 75).map (fun i => (i.zero, i.size)) = some (some (.agg (tabV 0)), 64) := by kernel_rfl
theorem lt16 {p : Nat → Prop} (h : p 0 ∧ p 1 ∧ p 2 ∧ p 3 ∧ p 4 ∧ p 5 ∧ p 6 ∧ p 7 ∧ p 8 ∧ p 9 ∧ p 10 ∧ p 11 ∧ p 12 ∧ p 13 ∧ p 14 ∧ p 15) (k : Nat) (hk : k < 16) : p k := by
  obtain ⟨h0, h1, h2, h3, h4, h5, h6, h7, h8, h9, h10, h11, h12, h13, h14, h15⟩ := h
  match k, hk with
  | 0, _ => exact h0
  | 1, _ => exact h1
  | 2, _ => exact h2
  | 3, _ => exact h3
  | 4, _ => exact h4
  | 5, _ => exact h5
  | 6, _ => exact h6
  | 7, _ => exact h7
  | 8, _ => exact h8
  | 9, _ => exact h9
  | 10, _ => exact h10
  | 11, _ => exact h11
  | 12, _ => exact h12
  | 13, _ => exact h13
  | 14, _ => exact h14
  | 15, _ => exact h15
  | n + 16, h => exact absurd h (by omega)
theorem tab_next (k : Nat) (hk : k < 16) : splice (tabV k) (4 * k) (brn k) = tabV (k + 1) :=
  lt16 (p := fun k => splice (tabV k) (4 * k) (brn k) = tabV (k + 1)) ⟨rfl, rfl, rfl, rfl, rfl, rfl, rfl, rfl, rfl, rfl, rfl, rfl, rfl, rfl, rfl, rfl⟩ k hk
theorem tab_size (k : Nat) : (tabV k).size = 64 := by
  have : ∀ k, (tabV k).size = ((List.range 16).map (fun i => 4)).sum := fun k => by
    unfold tabV
    simp only [List.size_toArray, List.length_flatMap]
    congr 1
    apply List.map_congr_left
    intro i _
    by_cases h : i < k <;> simp [h, brn]
  rw [this]; rfl
theorem brn_one (i : Nat) : (brn i).toArray.all (·.oneCell') = true := by
  rw [Array.all_eq_true_iff_forall_mem]
  intro v hv
  simp only [brn, List.mem_toArray, List.mem_cons, List.not_mem_nil, or_false] at hv
  rcases hv with rfl | rfl | rfl | rfl <;> rfl
theorem tab_one (k : Nat) : (tabV k).all (·.oneCell') = true := by
  rw [Array.all_eq_true_iff_forall_mem]
  intro v hv
  simp only [tabV, List.mem_toArray, List.mem_flatMap] at hv
  obtain ⟨i, _, hv⟩ := hv
  by_cases h : i < k
  · rw [if_pos h] at hv
    simp only [brn, List.mem_cons, List.not_mem_nil, or_false] at hv
    rcases hv with rfl | rfl | rfl | rfl <;> rfl
  · rw [if_neg h] at hv
    simp only [List.mem_cons, List.not_mem_nil, or_false] at hv
    rcases hv with rfl | rfl | rfl | rfl <;> rfl
theorem build50 (a b c d : Int) (w : World) : (Instr.build 50 #[(0, .int .i64 a), (1, .int .i64 b), (2, .int .i64 c), (3, .int .i64 d)]).run Try.prog w = .ok (.agg #[.int .i64 a, .int .i64 b, .int .i64 c, .int .i64 d]) w := run_build w 50 _ _ (by kernel_rfl)
theorem brn_eq (k : Nat) (a b : Int) (ha : a = (k / 2 : Nat)) (hb : b = (k % 2 : Nat)) : #[.int .i64 a, .int .i64 b, .int .i64 (pr (k / 2) (k % 2) : Nat), .int .i64 (nx (k / 2) (k % 2) : Nat)] = (brn k).toArray := by subst ha hb; rfl

theorem tab_whole : (tabV 16).extract 0 (0 + 64) = tabV 16 := by kernel_rfl
theorem tab_put0 : splice (tabV 0) 0 (tabV 16).toList = tabV 16 := by kernel_rfl
theorem tab_put : splice (tabV 16) 0 (tabV 16).toList = tabV 16 := by kernel_rfl
set_option maxHeartbeats 1000000 in
theorem table_any (w : World) : Calls Try.prog 38 #[] w fun e w' => e = .returned (.agg (tabV 16)) ∧ Below w.heap.size w w' := by
  have z1 : ∀ w, (zeroValue 75).run Try.prog w = .ok (.agg (tabV 0)) w := (zero_of_info zero75).1
  have b0 : Blk (w.alloc (.cells (tabV 0) 75)) w.heap.size (tabV 0) 75 := Blk.new' rfl
  have hB : Below w.heap.size w (w.alloc (.cells (tabV 0) 75)) := (Below.refl _ _).alloc (Nat.le_refl _) _
  go_enter Try.func38, Try.ntmps38
  go_wp2
  go_loopw [4] (fun t wr => ∃ k : Nat, k ≤ 16 ∧ t = .int .i64 k ∧ Blk wr w.heap.size (tabV k) 75 ∧ Below w.heap.size w wr) (fun t _ => 16 - (intOf t).toNat)
  case atStart => exact ⟨0, by omega, rfl, b0, hB⟩
  case round =>
    clear b0 hB
    obtain ⟨k, hk, rfl, hb, hB⟩ := hrel
    by_cases hlt : k < 16
    · have hn := tab_next k hlt
      have hsz := tab_size k
      have e1 : ((k : Int) / 2) = ((k / 2 : Nat) : Int) := by omega
      have e2 : ((k : Int) % 2) = ((k % 2 : Nat) : Int) := by omega
      have hs8 : k / 2 < 8 := by omega
      have hb2 : k % 2 < 2 := by omega
      have hn8 := nx_lt (k / 2) (k % 2) hs8
      have hbe := brn_eq k
      obtain ⟨s, hs⟩ : ∃ s, s = k / 2 := ⟨_, rfl⟩
      obtain ⟨u, hu⟩ : ∃ u, u = k % 2 := ⟨_, rfl⟩
      rw [← hs] at e1 hs8 hn8 hbe
      rw [← hu] at e2 hb2 hn8 hbe
      have HN := Lib.hid hn
      have HSZ := Lib.hid hsz
      have HBE := Lib.hid hbe
      clear hs hu hn hsz hbe
      go_wp2_with (first
        | (go_at_call 30; (with_reducible refine (at_any s hs8 _).mono ?_); rintro e w3 ⟨rfl, hb1⟩; replace hb := hb.below hb1 hb.lt; replace hB := bnext hB hb1; clear hb1)
        | (go_at_call 31; (with_reducible refine (step_any s u hs8 hb2 _).mono ?_); rintro e w4 ⟨rfl, hb1⟩; replace hb := hb.below hb1 hb.lt; replace hB := bnext hB hb1; clear hb1)
        | ((with_reducible refine wpList_store_blk rfl 64 (.tmp 2) (.tmp 14) rfl w4.heap.size 0 3 (rg (nx s u)) rfl rfl (Blk.new' rfl) row64 ?_ ?_ (rg_one _) ?_); (rfl); (exact Nat.le_refl 3); intro w5 h5 o5; replace hb := (hb.alloc _).only o5 (by have := hb.lt; omega); replace hB := below_only (hB.alloc hB.size _) o5 hB.size; replace h5 : Blk w5 w4.heap.size (rg (nx s u)) 64 := h5)
        | ((with_reducible refine wpList_load_blk rfl 64 (.tmp 2) rfl w4.heap.size 0 3 rfl h5 row64 ?_ (rg (nx s u)) ?_ ?_); (exact Nat.le_refl 3); (exact rg_whole _))
        | (go_at_call 32; (with_reducible refine (state_any (nx s u) hn8 _).mono ?_); rintro e w6 ⟨rfl, hb1⟩; replace hb := hb.below hb1 hb.lt; replace hB := bnext hB hb1; have hbd := fun a b c d w => build50 a b c d w; clear hb1)
        | ((with_reducible refine wpList_store_blk rfl 50 (.tmp 25) (.tmp 24) rfl w.heap.size (k * 4) 4 #[.int .i64 (s : Int), .int .i64 (u : Int), .int .i64 (pr s u : Nat), .int .i64 (nx s u : Nat)] rfl rfl hb row50 ?_ ?_ ?_ ?_); (rfl); (rw [HSZ.out]; omega); (rw [HBE.out _ _ rfl rfl]; exact brn_one k); intro w7 h7 o7; rw [HBE.out _ _ rfl rfl, Nat.mul_comm k 4, List.toList_toArray, HN.out] at h7; replace hB := below_only hB o7 (Nat.le_refl _)))
      exact ⟨⟨k + 1, by omega, by go_num, h7, hB⟩, by simp [intOf]; omega⟩
    · obtain rfl : k = 16 := by omega
      have hsz := Lib.hid (tab_size 16)
      go_wp2_with (first
        | ((with_reducible refine wpList_load_blk rfl 75 (.tmp 0) rfl w.heap.size 0 64 rfl hb row75 ?_ (tabV 16) ?_ ?_); (rw [hsz.out]; exact Nat.le_refl _); (exact tab_whole))
        | ((with_reducible refine wpList_store_blk rfl 75 (.tmp 0) (.tmp 27) rfl w.heap.size 0 64 (tabV 16) rfl rfl hb row75 ?_ ?_ (tab_one _) ?_); (rw [hsz.out]); (rw [hsz.out]; exact Nat.le_refl _); intro w5 hb5 ho5; rw [tab_put] at hb5))
      refine bodyPost_ret (results_blk rfl _ _ _ (tabV 16) 75 64 rfl hb5 row75 hsz.out) rfl ?_
      exact ⟨rfl, below_only hB ho5 (Nat.le_refl _)⟩

theorem branches_any (w : World) : Calls Try.prog 22 #[] w fun e w' => ∃ g, e = .returned (.slice (some ⟨g, 0, none⟩) 16 16) ∧ Blk w' g (tabV 16) 75 ∧ Below w.heap.size w w' := by
  have z1 : ∀ w, (zeroValue 75).run Try.prog w = .ok (.agg (tabV 0)) w := (zero_of_info zero75).1
  have hsz := Lib.hid (tab_size 16)
  have hs0 := Lib.hid (tab_size 0)
  go_enter Try.func22, Try.ntmps22
  go_wp2_with (first
    | (go_at_call 38; (with_reducible refine (table_any _).mono ?_); rintro e w2 ⟨rfl, hB⟩)
    | ((with_reducible refine wpList_store_blk rfl 75 (.tmp 1) (.tmp 2) rfl w2.heap.size 0 64 (tabV 16) rfl rfl (Blk.new' rfl) row75 ?_ ?_ (tab_one _) ?_); (rw [hsz.out]); (rw [hs0.out]; exact Nat.le_refl _); intro w5 hb5 ho5; rw [tab_put0] at hb5; replace hB := below_only (hB.alloc hB.size _) ho5 hB.size))
  go_ret
  exact ⟨_, rfl, hb5, hB⟩
end Go.Proofs.Ytkcccoialmineaa
