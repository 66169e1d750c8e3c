/-
  Fractions, the laws' walks: equal fractions have the same lowest terms.
-/
import Derived.Test.YtdnpbemkobhlcaaRatP
namespace Go.Proofs.Ytdnpbemkobhlcaa
open Go.RowKit
attribute [-go_sem] Instr.build

/-- What a law on two valid fractions needs of their lowest terms: the comparison's sign, and how the terms differ. -/
theorem terms_cases (p q : Nat × Nat) (hp : ¬ Bad p) (hq : ¬ Bad q) : (cmpF p q = 0 ∧ redF p = redF q) ∨ (cmpF p q ≠ 0 ∧ ((redF p).1 ≠ (redF q).1 ∨ ((redF p).1 = (redF q).1 ∧ (redF p).2 ≠ (redF q).2))) := by
  have h := red_iff p q hp hq
  by_cases c : cmpF p q = 0
  · exact .inl ⟨c, h.1 c⟩
  · refine .inr ⟨c, ?_⟩
    by_cases d : (redF p).1 = (redF q).1
    · exact .inr ⟨d, fun e => c (h.2 (Prod.ext d e))⟩
    · exact .inl d
set_option maxHeartbeats 4000000 in
theorem walk_RatioTerms (p : Nat × Nat) (hp : F64 p) (q : Nat × Nat) (hq : F64 q) (w : World) :
    Calls Try.prog 11 #[.agg (fV p), .agg (fV q)] w fun e w' => e = .returned (.bool true) ∧ Below w.heap.size w w' := by
  have b1 := lawbad_any p
  have b2 := lawbad_any q
  have hk := known_any
  have z1 : ∀ w, (zeroValue 56).run Try.prog w = .ok (.agg #[.int .u64 0, .int .u64 0]) w := (zero_of_info zero56).1
  have hgood : ¬ Bad p → ¬ Bad q → ∃ (x : Int) (u v : Nat × Nat), ((x = 0 ∧ u = v) ∨ (x ≠ 0 ∧ (u.1 ≠ v.1 ∨ (u.1 = v.1 ∧ u.2 ≠ v.2)))) ∧
      (∀ w, Calls Try.prog 32 #[.agg (fV p), .agg (fV q)] w fun e w' => e = .returned (.tuple #[.int .i64 x, .int .i64 0]) ∧ Below w.heap.size w w') ∧
      (∀ w, Calls Try.prog 37 #[.agg (fV p)] w fun e w' => e = .returned (.tuple #[.agg (fV u), .int .i64 0]) ∧ Below w.heap.size w w') ∧
      (∀ w, Calls Try.prog 37 #[.agg (fV q)] w fun e w' => e = .returned (.tuple #[.agg (fV v), .int .i64 0]) ∧ Below w.heap.size w w') := fun g1 g2 =>
    ⟨cmpF p q, redF p, redF q, terms_cases p q g1 g2, fun w => by
      have := Compare_any p q hp hq w
      rwa [if_neg (fun k => k.elim g1 g2), if_neg (fun k => k.elim g1 g2)] at this, reduce_ok p hp g1, reduce_ok q hq g2⟩
  obtain ⟨n, d⟩ := p
  obtain ⟨m, k⟩ := q
  have t0 := (Two.new w n d 56).alloc (.cells #[.int .u64 m, .int .u64 k] 56)
  have t1 : Two ((w.alloc (.cells #[.int .u64 n, .int .u64 d] 56)).alloc (.cells #[.int .u64 m, .int .u64 k] 56)) (w.heap.size + 1) m k := Two.new' m k 56 (by simp)
  have hB := below_new (below_new (Below.refl w.heap.size w) (.cells #[.int .u64 n, .int .u64 d] 56)) (.cells #[.int .u64 m, .int .u64 k] 56)
  have c0 := t0.c0
  have c1 := t0.c1
  have d0 := t1.c0
  have d1 := t1.c1
  by_cases x1 : Bad (n, d)
  · rw [decide_eq_true x1] at b1
    clear x1 hgood
    unfold fV at *
    go_enter Try.func11, Try.ntmps11
    go_wp2_with (first
      | (go_at_call 33; (with_reducible refine (b1 _).mono ?_); rintro e w2 ⟨rfl, hw2⟩; have hB2 := bnext hB hw2)
      | (go_at_call 31; (with_reducible refine (hk _).mono ?_); rintro e w8 ⟨rfl, hw8⟩; have hB8 := bnext hB2 hw8))
    go_ret
    exact ⟨rfl, hB8⟩
  rw [decide_eq_false x1] at b1
  by_cases x2 : Bad (m, k)
  · rw [decide_eq_true x2] at b2
    clear x1 x2 hgood
    unfold fV at *
    go_enter Try.func11, Try.ntmps11
    go_wp2_with (first
      | (go_at_call 33; first
        | ((with_reducible refine (b1 _).mono ?_); rintro e w2 ⟨rfl, hw2⟩; have hB2 := bnext hB hw2; have t5 := t1.below hw2; have c0 := t5.c0; have c1 := t5.c1)
        | ((with_reducible refine (b2 _).mono ?_); rintro e w3 ⟨rfl, hw3⟩; have hB3 := bnext hB2 hw3))
      | (go_at_call 31; (with_reducible refine (hk _).mono ?_); rintro e w8 ⟨rfl, hw8⟩; have hB8 := bnext hB3 hw8))
    go_ret
    exact ⟨rfl, hB8⟩
  rw [decide_eq_false x2] at b2
  obtain ⟨x, ⟨u1, u2⟩, ⟨v1, v2⟩, hx, hc, r1, r2⟩ := hgood x1 x2
  clear x1 x2 hgood
  have hfin : (x = 0 ∧ (u1 = v1 ∧ u2 = v2)) ∨ (x ≠ 0 ∧ u1 ≠ v1) ∨ (x ≠ 0 ∧ u1 = v1 ∧ u2 ≠ v2) := by
    simp only [Prod.mk.injEq] at hx
    rcases hx with h | ⟨h, k | k⟩
    · exact .inl h
    · exact .inr (.inl ⟨h, k⟩)
    · exact .inr (.inr ⟨h, k.1, k.2⟩)
  clear hx
  unfold fV at *
  go_enter Try.func11, Try.ntmps11
  have hf : ∃ f0 f1 f2 : Bool, (x == 0) = f0 ∧ (((u1 : Nat) : Int) == ((v1 : Nat) : Int)) = f1 ∧ (((u2 : Nat) : Int) == ((v2 : Nat) : Int)) = f2 ∧ ((f0 = true ∧ f1 = true ∧ f2 = true) ∨ (f0 = false ∧ f1 = false) ∨ (f0 = false ∧ f1 = true ∧ f2 = false)) := by
    refine ⟨_, _, _, rfl, rfl, rfl, ?_⟩
    rcases hfin with ⟨rfl, rfl, rfl⟩ | ⟨x0, x1⟩ | ⟨x0, rfl, x2⟩
    · simp
    · right; left
      exact ⟨by simpa using x0, by rw [beq_eq_false_iff_ne]; omega⟩
    · right; right
      exact ⟨by simpa using x0, by simp, by rw [beq_eq_false_iff_ne]; omega⟩
  obtain ⟨f0, f1, f2, h0, h1, h2, hf⟩ := hf
  clear hfin
  rcases hf with ⟨rfl, rfl, rfl⟩ | ⟨rfl, rfl⟩ | ⟨rfl, rfl, rfl⟩
  all_goals
    go_wp2_with (first
      | (go_at_call 33; first
        | ((with_reducible refine (b1 _).mono ?_); rintro e w2 ⟨rfl, hw2⟩; have hB2 := bnext hB hw2; have t4 := t0.below hw2; have t5 := t1.below hw2; have c0 := t5.c0; have c1 := t5.c1)
        | ((with_reducible refine (b2 _).mono ?_); rintro e w3 ⟨rfl, hw3⟩; have hB3 := bnext hB2 hw3; have t6 := t4.below hw3; have t7 := t5.below hw3; have g0 := t6.c0; have g1 := t6.c1))
      | (go_at_call 37; first
        | ((with_reducible refine (r1 _).mono ?_); rintro e w4 ⟨rfl, hw4⟩; have hB4 := below_new (bnext hB3 hw4) (.cells #[.int .u64 (u1 : Nat), .int .u64 (u2 : Nat)] 56); have t8 := (t6.below hw4).alloc (.cells #[.int .u64 (u1 : Nat), .int .u64 (u2 : Nat)] 56); have t9 := (t7.below hw4).alloc (.cells #[.int .u64 (u1 : Nat), .int .u64 (u2 : Nat)] 56); have s5 := Two.new w4 u1 u2 56; have g2 := t9.c0; have g3 := t9.c1; clear r1)
        | ((with_reducible refine (r2 _).mono ?_); rintro e w5 ⟨rfl, hw5⟩; have hB5 := below_new (bnext hB4 hw5) (.cells #[.int .u64 (v1 : Nat), .int .u64 (v2 : Nat)] 56); have ta := (t8.below hw5).alloc (.cells #[.int .u64 (v1 : Nat), .int .u64 (v2 : Nat)] 56); have tb := (t9.below hw5).alloc (.cells #[.int .u64 (v1 : Nat), .int .u64 (v2 : Nat)] 56); have s6 := (s5.below hw5).alloc (.cells #[.int .u64 (v1 : Nat), .int .u64 (v2 : Nat)] 56); have s7 := Two.new w5 v1 v2 56; have g4 := ta.c0; have g5 := ta.c1; have g6 := tb.c0; have g7 := tb.c1))
      | (go_at_call 32; (with_reducible refine (hc _).mono ?_); rintro e w6 ⟨rfl, hw6⟩; have hB6 := bnext hB5 hw6; have sa := s6.below hw6; have sb := s7.below hw6; have y0 := sa.c0; have y1 := sa.c1; have y2 := sb.c0; have y3 := sb.c1)
      | (go_at_call 31; (with_reducible refine (hk _).mono ?_); rintro e w8 ⟨rfl, hw8⟩; have hB8 := bnext hB6 hw8))
    go_ret
    exact ⟨rfl, hB8⟩
end Go.Proofs.Ytdnpbemkobhlcaa
