/-
  Fractions, the laws' walks: comparing is an order.
-/
import Derived.Test.YtdnpbemkobhlcaaRatP
namespace Go.Proofs.Ytdnpbemkobhlcaa
open Go.RowKit
attribute [-go_sem] Instr.build

theorem three_cases (x y z : Int) (h1 : -1 ≤ x ∧ x ≤ 1) (h2 : -1 ≤ y ∧ y ≤ 1) (h3 : -1 ≤ z ∧ z ≤ 1) (h4 : x ≤ 0 → y ≤ 0 → z ≤ 0) (h5 : 0 ≤ x → 0 ≤ y → 0 ≤ z) : (x = -1 ∧ y = -1 ∧ z = -1) ∨ (x = -1 ∧ y = -1 ∧ z = 0) ∨ (x = -1 ∧ y = 0 ∧ z = -1) ∨ (x = -1 ∧ y = 0 ∧ z = 0) ∨ (x = -1 ∧ y = 1 ∧ z = -1) ∨ (x = -1 ∧ y = 1 ∧ z = 0) ∨ (x = -1 ∧ y = 1 ∧ z = 1) ∨ (x = 0 ∧ y = -1 ∧ z = -1) ∨ (x = 0 ∧ y = -1 ∧ z = 0) ∨ (x = 0 ∧ y = 0 ∧ z = 0) ∨ (x = 0 ∧ y = 1 ∧ z = 0) ∨ (x = 0 ∧ y = 1 ∧ z = 1) ∨ (x = 1 ∧ y = -1 ∧ z = -1) ∨ (x = 1 ∧ y = -1 ∧ z = 0) ∨ (x = 1 ∧ y = -1 ∧ z = 1) ∨ (x = 1 ∧ y = 0 ∧ z = 0) ∨ (x = 1 ∧ y = 0 ∧ z = 1) ∨ (x = 1 ∧ y = 1 ∧ z = 0) ∨ (x = 1 ∧ y = 1 ∧ z = 1) := by
  have a1 : x = -1 ∨ x = 0 ∨ x = 1 := by omega
  have a2 : y = -1 ∨ y = 0 ∨ y = 1 := by omega
  have a3 : z = -1 ∨ z = 0 ∨ z = 1 := by omega
  clear h1 h2 h3
  rcases a1 with rfl | rfl | rfl <;> rcases a2 with rfl | rfl | rfl <;> rcases a3 with rfl | rfl | rfl <;> first | exact absurd (h4 (by decide) (by decide)) (by decide) | exact absurd (h5 (by decide) (by decide)) (by decide) | (clear h4 h5; simp; done)
theorem Compare_good (p q : Nat × Nat) (hp : F64 p) (hq : F64 q) (h1 : ¬ Bad p) (h2 : ¬ Bad q) (r : Int) (hr : cmpF p q = r) (w : World) :
    Calls Try.prog 32 #[.agg (fV p), .agg (fV q)] w fun e w' => e = .returned (.tuple #[.int .i64 r, .int .i64 0]) ∧ Below w.heap.size w w' := by
  have := Compare_any p q hp hq w
  rw [if_neg (fun k => k.elim h1 h2), if_neg (fun k => k.elim h1 h2), hr] at this
  exact this
/-- The cells of three fractions. -/
structure Three (w : World) (b n d m k u v : Nat) : Prop where
  t0 : Two w b n d
  t1 : Two w (b + 1) m k
  t2 : Two w (b + 2) u v
theorem Three.below {w w' : World} {b n d m k u v : Nat} (h : Three w b n d m k u v) (hb : Below w.heap.size w w') : Three w' b n d m k u v := ⟨h.t0.below hb, h.t1.below hb, h.t2.below hb⟩
set_option maxHeartbeats 4000000 in
theorem walk_RatioPreorder (p : Nat × Nat) (hp : F64 p) (q : Nat × Nat) (hq : F64 q) (s : Nat × Nat) (hs : F64 s) (w : World) :
    Calls Try.prog 7 #[.agg (fV p), .agg (fV q), .agg (fV s)] w fun e w' => e = .returned (.bool true) ∧ Below w.heap.size w w' := by
  have b1 := lawbad_any p
  have b2 := lawbad_any q
  have b3 := lawbad_any s
  have hk := known_any
  have hgood : ¬ Bad p → ¬ Bad q → ¬ Bad s → ∃ x y z : Int, ((x = -1 ∧ y = -1 ∧ z = -1) ∨ (x = -1 ∧ y = -1 ∧ z = 0) ∨ (x = -1 ∧ y = 0 ∧ z = -1) ∨ (x = -1 ∧ y = 0 ∧ z = 0) ∨ (x = -1 ∧ y = 1 ∧ z = -1) ∨ (x = -1 ∧ y = 1 ∧ z = 0) ∨ (x = -1 ∧ y = 1 ∧ z = 1) ∨ (x = 0 ∧ y = -1 ∧ z = -1) ∨ (x = 0 ∧ y = -1 ∧ z = 0) ∨ (x = 0 ∧ y = 0 ∧ z = 0) ∨ (x = 0 ∧ y = 1 ∧ z = 0) ∨ (x = 0 ∧ y = 1 ∧ z = 1) ∨ (x = 1 ∧ y = -1 ∧ z = -1) ∨ (x = 1 ∧ y = -1 ∧ z = 0) ∨ (x = 1 ∧ y = -1 ∧ z = 1) ∨ (x = 1 ∧ y = 0 ∧ z = 0) ∨ (x = 1 ∧ y = 0 ∧ z = 1) ∨ (x = 1 ∧ y = 1 ∧ z = 0) ∨ (x = 1 ∧ y = 1 ∧ z = 1)) ∧
      (∀ w, Calls Try.prog 32 #[.agg (fV p), .agg (fV q)] w fun e w' => e = .returned (.tuple #[.int .i64 x, .int .i64 0]) ∧ Below w.heap.size w w') ∧
      (∀ w, Calls Try.prog 32 #[.agg (fV q), .agg (fV p)] w fun e w' => e = .returned (.tuple #[.int .i64 (-x), .int .i64 0]) ∧ Below w.heap.size w w') ∧
      (∀ w, Calls Try.prog 32 #[.agg (fV q), .agg (fV s)] w fun e w' => e = .returned (.tuple #[.int .i64 y, .int .i64 0]) ∧ Below w.heap.size w w') ∧
      (∀ w, Calls Try.prog 32 #[.agg (fV p), .agg (fV s)] w fun e w' => e = .returned (.tuple #[.int .i64 z, .int .i64 0]) ∧ Below w.heap.size w w') ∧
      (∀ w, Calls Try.prog 32 #[.agg (fV p), .agg (fV p)] w fun e w' => e = .returned (.tuple #[.int .i64 0, .int .i64 0]) ∧ Below w.heap.size w w') := fun g1 g2 g3 =>
    ⟨cmpF p q, cmpF q s, cmpF p s, three_cases _ _ _ (cmpF_range _ _) (cmpF_range _ _) (cmpF_range _ _) (cmpF_trans p q s g2) (cmpF_trans' p q s g2),
      Compare_good p q hp hq g1 g2 _ rfl, Compare_good q p hq hp g2 g1 _ (cmpF_neg q p), Compare_good q s hq hs g2 g3 _ rfl, Compare_good p s hp hs g1 g3 _ rfl, Compare_good p p hp hp g1 g1 _ (cmpF_self p)⟩
  obtain ⟨n, d⟩ := p
  obtain ⟨m, k⟩ := q
  obtain ⟨u, v⟩ := s
  have T : Three (((w.alloc (.cells #[.int .u64 n, .int .u64 d] 56)).alloc (.cells #[.int .u64 m, .int .u64 k] 56)).alloc (.cells #[.int .u64 u, .int .u64 v] 56)) w.heap.size n d m k u v := ⟨((Two.new' n d 56 rfl).alloc _).alloc _, (Two.new' m k 56 (by simp)).alloc _, Two.new' u v 56 (by simp)⟩
  have hB := below_new (below_new (below_new (Below.refl w.heap.size w) (.cells #[.int .u64 n, .int .u64 d] 56)) (.cells #[.int .u64 m, .int .u64 k] 56)) (.cells #[.int .u64 u, .int .u64 v] 56)
  have c0 := T.t0.c0
  have c1 := T.t0.c1
  have d0 := T.t1.c0
  have d1 := T.t1.c1
  have e0 := T.t2.c0
  have e1 := T.t2.c1
  by_cases x1 : Bad (n, d)
  · rw [decide_eq_true x1] at b1
    clear hgood x1
    unfold fV at *
    go_enter Try.func7, Try.ntmps7
    go_wp2_with (first
      | (go_at_call 33; (with_reducible refine (b1 _).mono ?_); rintro e w1 ⟨rfl, hw⟩; have hB1 := bnext hB hw)
      | (go_at_call 31; (with_reducible refine (hk _).mono ?_); rintro e w8 ⟨rfl, hw8⟩; have hB8 := bnext hB1 hw8))
    go_ret
    exact ⟨rfl, hB8⟩
  rw [decide_eq_false x1] at b1
  by_cases x2 : Bad (m, k)
  · rw [decide_eq_true x2] at b2
    clear hgood x1 x2
    unfold fV at *
    go_enter Try.func7, Try.ntmps7
    go_wp2_with (first
      | (go_at_call 33; first | ((with_reducible refine (b1 _).mono ?_); rintro e w1 ⟨rfl, hw⟩; have hB1 := bnext hB hw; have T1 := T.below hw; have d0 := T1.t1.c0; have d1 := T1.t1.c1) | ((with_reducible refine (b2 _).mono ?_); rintro e w2 ⟨rfl, hw2⟩; have hB2 := bnext hB1 hw2))
      | (go_at_call 31; (with_reducible refine (hk _).mono ?_); rintro e w8 ⟨rfl, hw8⟩; have hB8 := bnext hB2 hw8))
    go_ret
    exact ⟨rfl, hB8⟩
  rw [decide_eq_false x2] at b2
  by_cases x3 : Bad (u, v)
  · rw [decide_eq_true x3] at b3
    clear hgood x1 x2 x3
    unfold fV at *
    go_enter Try.func7, Try.ntmps7
    go_wp2_with (first
      | (go_at_call 33; first | ((with_reducible refine (b1 _).mono ?_); rintro e w1 ⟨rfl, hw⟩; have hB1 := bnext hB hw; have T1 := T.below hw; have d0 := T1.t1.c0; have d1 := T1.t1.c1) | ((with_reducible refine (b2 _).mono ?_); rintro e w2 ⟨rfl, hw2⟩; have hB2 := bnext hB1 hw2; have T2 := T1.below hw2; have d0 := T2.t2.c0; have d1 := T2.t2.c1) | ((with_reducible refine (b3 _).mono ?_); rintro e w3 ⟨rfl, hw3⟩; have hB3 := bnext hB2 hw3))
      | (go_at_call 31; (with_reducible refine (hk _).mono ?_); rintro e w8 ⟨rfl, hw8⟩; have hB8 := bnext hB3 hw8))
    go_ret
    exact ⟨rfl, hB8⟩
  rw [decide_eq_false x3] at b3
  obtain ⟨x, y, z, hx, q1, q2, q3, q4, q5⟩ := hgood x1 x2 x3
  replace hx := Lib.hid hx
  clear x1 x2 x3 hgood
  unfold fV at *
  go_enter Try.func7, Try.ntmps7
  go_wp2_with (first
    | (go_at_call 33; first | ((with_reducible refine (b1 _).mono ?_); rintro e w1 ⟨rfl, hw⟩; have hB1 := bnext hB hw; have T1 := T.below hw; have d0 := T1.t1.c0; have d1 := T1.t1.c1) | ((with_reducible refine (b2 _).mono ?_); rintro e w2 ⟨rfl, hw2⟩; have hB2 := bnext hB1 hw2; have T2 := T1.below hw2; have d0 := T2.t2.c0; have d1 := T2.t2.c1) | ((with_reducible refine (b3 _).mono ?_); rintro e w3 ⟨rfl, hw3⟩; have hB3 := bnext hB2 hw3; have T3 := T2.below hw3; have c0 := T3.t0.c0; have c1 := T3.t0.c1; have d0 := T3.t1.c0; have d1 := T3.t1.c1))
    | (go_at_call 32; first
      | ((with_reducible refine (q1 _).mono ?_); rintro e w4 ⟨rfl, hw4⟩; have hB4 := bnext hB3 hw4; have T4 := T3.below hw4; have c0 := T4.t0.c0; have c1 := T4.t0.c1; have d0 := T4.t1.c0; have d1 := T4.t1.c1)
      | ((with_reducible refine (q2 _).mono ?_); rintro e w5 ⟨rfl, hw5⟩; have hB5 := bnext hB4 hw5; have T5 := T4.below hw5; have d0 := T5.t1.c0; have d1 := T5.t1.c1; have e0 := T5.t2.c0; have e1 := T5.t2.c1)
      | ((with_reducible refine (q3 _).mono ?_); rintro e w6 ⟨rfl, hw6⟩; have hB6 := bnext hB5 hw6; have T6 := T5.below hw6; have c0 := T6.t0.c0; have c1 := T6.t0.c1; have e0 := T6.t2.c0; have e1 := T6.t2.c1)
      | ((with_reducible refine (q4 _).mono ?_); rintro e w7 ⟨rfl, hw7⟩; have hB7 := bnext hB6 hw7; have T7 := T6.below hw7; have c0 := T7.t0.c0; have c1 := T7.t0.c1)
      | ((with_reducible refine (q5 _).mono ?_); rintro e w9 ⟨rfl, hw9⟩; have hB9 := bnext hB7 hw9; clear q1 q2 q3 q4 q5; rcases hx.out with ⟨rfl, rfl, rfl⟩ | ⟨rfl, rfl, rfl⟩ | ⟨rfl, rfl, rfl⟩ | ⟨rfl, rfl, rfl⟩ | ⟨rfl, rfl, rfl⟩ | ⟨rfl, rfl, rfl⟩ | ⟨rfl, rfl, rfl⟩ | ⟨rfl, rfl, rfl⟩ | ⟨rfl, rfl, rfl⟩ | ⟨rfl, rfl, rfl⟩ | ⟨rfl, rfl, rfl⟩ | ⟨rfl, rfl, rfl⟩ | ⟨rfl, rfl, rfl⟩ | ⟨rfl, rfl, rfl⟩ | ⟨rfl, rfl, rfl⟩ | ⟨rfl, rfl, rfl⟩ | ⟨rfl, rfl, rfl⟩ | ⟨rfl, rfl, rfl⟩ | ⟨rfl, rfl, rfl⟩))
    | (go_at_call 31; (with_reducible refine (hk _).mono ?_); rintro e w8 ⟨rfl, hw8⟩; have hB8 := bnext hB9 hw8))
  all_goals go_ret
  all_goals exact ⟨rfl, hB8⟩
end Go.Proofs.Ytdnpbemkobhlcaa
