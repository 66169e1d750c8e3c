/-
  Fractions, the laws' walks: products, comparing, lowest terms compared.
-/
import Derived.Test.YtdnpbemkobhlcaaRatO
namespace Go.Proofs.Ytdnpbemkobhlcaa
open Go.RowKit
attribute [-go_sem] Instr.build

theorem blk56 (w : World) (p : Nat × Nat) : Blk (w.alloc (.cells (fV p) 56)) w.heap.size (fV p) 56 := Blk.new' rfl
/-- The cells of a fraction in a block. -/
structure Two (w : World) (b : Nat) (n d : Nat) : Prop where
  c0 : w.cell? ⟨b, 0, none⟩ = some (.int .u64 n)
  c1 : w.cell? ⟨b, 1, none⟩ = some (.int .u64 d)
  lt : b < w.heap.size
theorem Two.below {w w' : World} {b n d : Nat} (h : Two w b n d) (hb : Below w.heap.size w w') : Two w' b n d := ⟨(hb.cell h.lt).trans h.c0, (hb.cell h.lt).trans h.c1, Nat.lt_of_lt_of_le h.lt hb.size⟩
theorem Two.alloc {w : World} {b n d : Nat} (h : Two w b n d) (o : Obj) : Two (w.alloc o) b n d := h.below ((Below.refl _ _).alloc (Nat.le_refl _) _)
theorem Two.new (w : World) (n d t : Nat) : Two (w.alloc (.cells #[.int .u64 n, .int .u64 d] t)) w.heap.size n d := ⟨(Blk.new w _ t).cell 0, (Blk.new w _ t).cell 1, by simp⟩
theorem Two.new' {w : World} {b : Nat} (n d t : Nat) (h : b = w.heap.size) : Two (w.alloc (.cells #[.int .u64 n, .int .u64 d] t)) b n d := by subst h; exact Two.new w n d t
set_option maxHeartbeats 2000000 in
theorem walk_RatioProducts (a : Int) (ha : (Lit.int .u64 a).wf = true) (b : Int) (hb : (Lit.int .u64 b).wf = true) (w : World) :
    Calls Try.prog 5 #[.int .u64 a, .int .u64 b] w fun e w' => e = .returned (.bool true) ∧ Below w.heap.size w w' := by
  obtain ⟨x, rfl, hx⟩ := u64_nat ha
  obtain ⟨y, rfl, hy⟩ := u64_nat hb
  have hm := mul_any x y hx hy w
  have hr := refmul_any x y hx hy w
  have hd := mulD_lt x y hx hy
  have e1 : half (mulD x y) 0 = x * y % 18446744073709551616 := low_half x y hx hy
  have e2 : half (mulD x y) 4 = x * y / 18446744073709551616 := high_half x y hx hy
  have h0 := half_any (mulD x y) hd 0 0 (.inl ⟨rfl, rfl⟩)
  have h4 := half_any (mulD x y) hd 4 4 (.inr ⟨rfl, rfl⟩)
  rw [e1] at h0
  rw [e2] at h4
  clear e1 e2 hd ha hb
  generalize mulD x y = X at *
  generalize ((x * y / 18446744073709551616 : Nat) : Int) = H at *
  generalize ((x * y % 18446744073709551616 : Nat) : Int) = L at *
  have z1 : ∀ w, (zeroValue 51).run Try.prog w = .ok (.agg (dV fun _ => 0)) w := (zero_of_info zero51).1
  have hsz := dV_size
  clear hx hy
  go_enter Try.func5, Try.ntmps5
  go_wp2_with (first
    | (go_at_call 28; (with_reducible refine hm.mono ?_); rintro e w' ⟨rfl, hw⟩; rw [hw]; clear hw)
    | (go_at_call 29; (with_reducible refine hr.mono ?_); rintro e w1 ⟨rfl, hB⟩; have k0 : Blk (w1.alloc (.cells (dV fun _ => 0) 51)) w1.heap.size (dV fun _ => 0) 51 := Blk.new' rfl)
    | ((with_reducible refine wpList_store_blk rfl 51 (.tmp 7) (.tmp 16) rfl w1.heap.size 0 8 (dV X) rfl rfl k0 row51 ?_ ?_ (dV_one _) ?_); (rw [hsz]); (rw [hsz]; exact Nat.le_refl _); intro w5 hb5 ho5; rw [dV_splice] at hb5; have hB5 := below_only (below_new hB (.cells (dV fun _ => 0) 51)) ho5 hB.size)
    | ((with_reducible refine wpList_load_blk rfl 51 (.tmp 7) rfl w1.heap.size 0 8 rfl hb5 row51 ?_ (dV X) ?_ ?_); (rw [hsz]; exact Nat.le_refl _); (exact dV_whole _))
    | ((with_reducible refine wpList_load_blk_g 51 (.tmp 7) rfl w1.heap.size 0 8 rfl hb5 row51 rfl ?_ (dV X) ?_ ?_); (rw [hsz]; exact Nat.le_refl _); (exact dV_whole _))
    | (go_at_call 30; first
        | ((with_reducible refine (h0 _).mono ?_); rintro e w6 ⟨rfl, hw6⟩; have hb6 := hb5.below hw6 hb5.lt; have hB6 := bnext hB5 hw6; clear hb5 hB5; have hb5 := hb6; have hB5 := hB6; clear hb6 hB6)
        | ((with_reducible refine (h4 _).mono ?_); rintro e w7 ⟨rfl, hw7⟩; have hB7 := bnext hB5 hw7))
    | (go_at_call 31; (with_reducible refine (known_any _).mono ?_); rintro e w8 ⟨rfl, hw8⟩; have hB8 := bnext hB7 hw8))
  go_ret
  exact ⟨rfl, hB8⟩
set_option maxHeartbeats 2000000 in
theorem walk_RatioCompares (p : Nat × Nat) (hp : F64 p) (q : Nat × Nat) (hq : F64 q) (w : World) :
    Calls Try.prog 6 #[.agg (fV p), .agg (fV q)] w fun e w' => e = .returned (.bool true) ∧ Below w.heap.size w w' := by
  have hc := Compare_any p q hp hq
  have hl := lawcmp_any p q hp hq
  have b1 := lawbad_any p
  have b2 := lawbad_any q
  have hk := known_any
  generalize hr : cmpF p q = r at *
  clear hr
  obtain ⟨n, d⟩ := p
  obtain ⟨m, k⟩ := q
  have t0 := (Two.new w n d 56).alloc (.cells #[.int .u64 m, .int .u64 k] 56)
  have t1 : Two ((w.alloc (.cells #[.int .u64 n, .int .u64 d] 56)).alloc (.cells #[.int .u64 m, .int .u64 k] 56)) (w.heap.size + 1) m k := Two.new' m k 56 (by simp)
  have hB := below_new (below_new (Below.refl w.heap.size w) (.cells #[.int .u64 n, .int .u64 d] 56)) (.cells #[.int .u64 m, .int .u64 k] 56)
  have c0 := t0.c0
  have c1 := t0.c1
  have d0 := t1.c0
  have d1 := t1.c1
  by_cases x1 : Bad (n, d)
  · rw [if_pos (.inl x1), if_pos (.inl x1)] at hc
    rw [decide_eq_true x1] at b1
    clear x1 hl
    unfold fV at *
    go_enter Try.func6, Try.ntmps6
    go_wp2_with (first
      | (go_at_call 32; (with_reducible refine (hc _).mono ?_); rintro e w1 ⟨rfl, hw⟩; have hB1 := bnext hB hw; have c0 := (t0.below hw).c0; have c1 := (t0.below hw).c1)
      | (go_at_call 33; (with_reducible refine (b1 _).mono ?_); rintro e w2 ⟨rfl, hw2⟩; have hB2 := bnext hB1 hw2)
      | (go_at_call 31; (with_reducible refine (hk _).mono ?_); rintro e w8 ⟨rfl, hw8⟩; have hB8 := bnext hB2 hw8))
    go_ret
    exact ⟨rfl, hB8⟩
  · rw [decide_eq_false x1] at b1
    by_cases x2 : Bad (m, k)
    · rw [if_pos (.inr x2), if_pos (.inr x2)] at hc
      rw [decide_eq_true x2] at b2
      clear x1 x2 hl
      unfold fV at *
      go_enter Try.func6, Try.ntmps6
      go_wp2_with (first
        | (go_at_call 32; (with_reducible refine (hc _).mono ?_); rintro e w1 ⟨rfl, hw⟩; have hB1 := bnext hB hw; have t2 := t0.below hw; have t3 := t1.below hw; have c0 := t2.c0; have c1 := t2.c1)
        | (go_at_call 33; first
          | ((with_reducible refine (b1 _).mono ?_); rintro e w2 ⟨rfl, hw2⟩; have hB2 := bnext hB1 hw2; have c0 := (t3.below hw2).c0; have c1 := (t3.below hw2).c1)
          | ((with_reducible refine (b2 _).mono ?_); rintro e w3 ⟨rfl, hw3⟩; have hB3 := bnext hB2 hw3))
        | (go_at_call 31; (with_reducible refine (hk _).mono ?_); rintro e w8 ⟨rfl, hw8⟩; have hB8 := bnext hB3 hw8))
      go_ret
      exact ⟨rfl, hB8⟩
    · rw [if_neg (fun h => h.elim x1 x2), if_neg (fun h => h.elim x1 x2)] at hc
      rw [decide_eq_false x2] at b2
      clear x1 x2
      unfold fV at *
      go_enter Try.func6, Try.ntmps6
      go_wp2_with (first
        | (go_at_call 32; (with_reducible refine (hc _).mono ?_); rintro e w1 ⟨rfl, hw⟩; have hB1 := bnext hB hw; have t2 := t0.below hw; have t3 := t1.below hw; have c0 := t2.c0; have c1 := t2.c1)
        | (go_at_call 33; first
          | ((with_reducible refine (b1 _).mono ?_); rintro e w2 ⟨rfl, hw2⟩; have hB2 := bnext hB1 hw2; have t4 := t2.below hw2; have t5 := t3.below hw2; have c0 := t5.c0; have c1 := t5.c1)
          | ((with_reducible refine (b2 _).mono ?_); rintro e w3 ⟨rfl, hw3⟩; have hB3 := bnext hB2 hw3; have t6 := t4.below hw3; have t7 := t5.below hw3; have g0 := t6.c0; have g1 := t6.c1; have c0 := t7.c0; have c1 := t7.c1))
        | (go_at_call 34; (with_reducible refine (hl _).mono ?_); rintro e w4 ⟨rfl, hw4⟩; have hB4 := bnext hB3 hw4)
        | (go_at_call 31; (with_reducible refine (hk _).mono ?_); rintro e w8 ⟨rfl, hw8⟩; have hB8 := bnext hB4 hw8))
      go_ret
      exact ⟨rfl, hB8⟩
end Go.Proofs.Ytdnpbemkobhlcaa
