/-
  Fractions, walks: products, comparing.
-/
import Derived.Test.YtdnpbemkobhlcaaChecked
import Derived.Test.YtdnpbemkobhlcaaOne
import Derived.Test.YtdnpbemkobhlcaaHeld
import Derived.Test.YtdnpbemkobhlcaaIrw
import Derived.StillTailTactics
import Derived.BigQuiet
import Derived.BigRegion
import Derived.Deep.RegionHeld3
import Derived.Laws.OwnMore
import Derived.Lib.Mul64
import Derived.Laws.Bits64b
namespace Go.Proofs.Ytdnpbemkobhlcaa
open Go.RowKit
attribute [-go_sem] Instr.build

theorem mask32 (a : Nat) (ha : a < 18446744073709551616) : bits .and .u64 (a : Int) 4294967295 = ((a % 4294967296 : Nat) : Int) := by
  have h := bits_and_u64_nat a 4294967295 ha (by omega)
  have e : a &&& 4294967295 = a % 4294967296 := Nat.and_two_pow_sub_one_eq_mod a 32
  rw [e] at h
  exact h
theorem divN (a : Nat) : (a : Int) / 4294967296 = ((a / 4294967296 : Nat) : Int) := by omega
theorem mulN (a b : Nat) : (a : Int) * (b : Int) = ((a * b : Nat) : Int) := (Int.natCast_mul a b).symm
theorem addN (a b : Nat) : (a : Int) + (b : Int) = ((a + b : Nat) : Int) := (Int.natCast_add a b).symm
theorem wrapN (a : Nat) (ha : a < 18446744073709551616) : IntKind.u64.wrap (a : Int) = (a : Int) := by rw [IntKind.wrap_u64]; omega
theorem wrapM (a : Nat) : IntKind.u64.wrap (a : Int) = ((a % 18446744073709551616 : Nat) : Int) := by rw [IntKind.wrap_u64]; omega

set_option maxHeartbeats 1000000 in
theorem mul64_any (x y : Nat) (hx : x < 18446744073709551616) (hy : y < 18446744073709551616) (w : World) :
    Calls Try.prog 52 #[.int .u64 x, .int .u64 y] w fun e w' => e = .returned (.tuple #[.int .u64 ((x * y / 18446744073709551616 : Nat) : Int), .int .u64 ((x * y % 18446744073709551616 : Nat) : Int)]) ∧ w' = w := by
  obtain ⟨bd, bt, bw, hhi⟩ := Lib.mul64_hi x y hx hy
  have ba := Lib.half_mul_le (a := x / 4294967296) (b := y / 4294967296) (by omega) (by omega)
  have bb := Lib.half_mul_le (a := x / 4294967296) (b := y % 4294967296) (by omega) (by omega)
  have bc := Lib.half_mul_le (a := x % 4294967296) (b := y / 4294967296) (by omega) (by omega)
  have ba' : x / 4294967296 * (y / 4294967296) < 18446744073709551616 := by omega
  have bb' : x / 4294967296 * (y % 4294967296) < 18446744073709551616 := by omega
  have bc' : x % 4294967296 * (y / 4294967296) < 18446744073709551616 := by omega
  have bh1 : x / 4294967296 * (y / 4294967296) + (x / 4294967296 * (y % 4294967296) + x % 4294967296 * (y % 4294967296) / 4294967296) / 4294967296 < 18446744073709551616 := by omega
  have bh : x / 4294967296 * (y / 4294967296) + (x / 4294967296 * (y % 4294967296) + x % 4294967296 * (y % 4294967296) / 4294967296) / 4294967296 + ((x / 4294967296 * (y % 4294967296) + x % 4294967296 * (y % 4294967296) / 4294967296) % 4294967296 + x % 4294967296 * (y / 4294967296)) / 4294967296 < 18446744073709551616 := by omega
  go_enter Try.func52, Try.ntmps52
  go_wp2
  simp only [mask32 x hx, mask32 y hy, divN, mulN, addN, wrapN _ bd, wrapN _ bb', wrapN _ bt, mask32 _ bt, wrapN _ bc', wrapN _ bw, wrapN _ ba', wrapN _ bh1, wrapN _ bh, wrapM (x * y)]
  rw [hhi]
  go_ret2
  exact ⟨rfl, rfl⟩
theorem mul_any (x y : Nat) (hx : x < 18446744073709551616) (hy : y < 18446744073709551616) (w : World) :
    Calls Try.prog 28 #[.int .u64 x, .int .u64 y] w fun e w' => e = .returned (.tuple #[.int .u64 ((x * y / 18446744073709551616 : Nat) : Int), .int .u64 ((x * y % 18446744073709551616 : Nat) : Int)]) ∧ w' = w := by
  generalize hX : ((x : Nat) : Int) = X
  generalize hY : ((y : Nat) : Int) = Y
  have hm := mul64_any x y hx hy
  rw [hX, hY] at hm
  generalize ((x * y / 18446744073709551616 : Nat) : Int) = H at *
  generalize ((x * y % 18446744073709551616 : Nat) : Int) = L at *
  go_enter Try.func28, Try.ntmps28
  go_wp2_with (go_at_call 52; (with_reducible refine (hm _).mono ?_); rintro e w' ⟨rfl, hw⟩; rw [hw])
  go_ret2
  exact ⟨rfl, rfl⟩
theorem nan_any (x : Int) (w : World) : Calls Try.prog 68 #[.int .u64 x] w fun e w' => e = .returned (.bool false) ∧ w' = w := by
  have h : (x != x) = false := by simp
  go_enter Try.func68, Try.ntmps68
  go_wp2
  go_ret
  exact ⟨rfl, rfl⟩
theorem cmp_any (x y : Nat) (w : World) : Calls Try.prog 64 #[.int .u64 x, .int .u64 y] w fun e w' => e = .returned (.int .i64 (sgn x y)) ∧ w' = w := by
  go_enter Try.func64, Try.ntmps64
  unfold sgn
  by_cases h1 : x < y
  · rw [if_pos h1]
    go_wp2_with (go_at_call 68; (with_reducible refine (nan_any _ _).mono ?_); rintro e w' ⟨rfl, hw⟩; rw [hw])
    go_ret
    exact ⟨rfl, rfl⟩
  · rw [if_neg h1]
    by_cases h2 : y < x
    · rw [if_pos h2]
      go_wp2_with (go_at_call 68; (with_reducible refine (nan_any _ _).mono ?_); rintro e w' ⟨rfl, hw⟩; rw [hw])
      go_ret
      exact ⟨rfl, rfl⟩
    · rw [if_neg h2]
      go_wp2_with (go_at_call 68; (with_reducible refine (nan_any _ _).mono ?_); rintro e w' ⟨rfl, hw⟩; rw [hw])
      go_ret
      exact ⟨rfl, rfl⟩
theorem or_any (b : Nat) (x y : Int) (w : World) (h0 : w.cell? ⟨b, 0, none⟩ = some (.int .i64 x)) (h1 : w.cell? ⟨b, 1, none⟩ = some (.int .i64 y)) :
    Calls Try.prog 63 #[.slice (some ⟨b, 0, none⟩) 2 2] w fun e w' => e = .returned (.int .i64 (if x ≠ 0 then x else y)) ∧ w' = w := by
  generalize hR : (if x ≠ 0 then x else y) = R
  replace hR := Lib.hid hR
  go_enter Try.func63, Try.ntmps63
  go_wp2
  go_loopw [8] (fun t wr => ∃ k : Nat, k ≤ 2 ∧ t = .int .i64 k ∧ (1 ≤ k → x = 0) ∧ (2 ≤ k → y = 0) ∧ wr = w) (fun t _ => 2 - (intOf t).toNat)
  case atStart => exact ⟨0, by omega, rfl, by omega, by omega, rfl⟩
  case round =>
    obtain ⟨k, hk, rfl, hx, hy, rfl⟩ := hrel
    by_cases k0 : k = 0
    · subst k0
      by_cases c : x = 0
      · subst c
        go_wp2
        exact ⟨⟨1, by omega, rfl, fun _ => trivial, fun h => absurd h (by omega), trivial⟩, by simp [intOf]⟩
      · have hn : (x != 0) = true := by simp [c]
        go_wp2
        go_ret
        rw [← hR.out, if_pos c]
        exact ⟨rfl, rfl⟩
    · by_cases k1 : k = 1
      · subst k1
        obtain rfl := hx (by omega)
        by_cases c : y = 0
        · subst c
          go_wp2
          exact ⟨⟨2, by omega, rfl, fun _ => trivial, fun _ => trivial, trivial⟩, by simp [intOf]⟩
        · have hn : (y != 0) = true := by simp [c]
          go_wp2
          go_ret
          rw [← hR.out, if_neg (by simp)]
          exact ⟨rfl, rfl⟩
      · obtain rfl : k = 2 := by omega
        obtain rfl := hx (by omega)
        obtain rfl := hy (by omega)
        go_wp2
        go_ret
        rw [← hR.out, if_neg (by simp)]
        exact ⟨rfl, rfl⟩
/-- A fraction as a value. -/
def fV (p : Nat × Nat) : Array Value := #[.int .u64 p.1, .int .u64 p.2]
theorem row56 : RowTy Try.prog 56 2 := ⟨⟨_, Try.underlying56, rfl⟩, by kernel_rfl⟩
structure F64 (p : Nat × Nat) : Prop where
  n : p.1 < 18446744073709551616
  d : p.2 < 18446744073709551616
theorem sgn_zero (x y : Nat) (h : sgn (x / 18446744073709551616) (y / 18446744073709551616) = 0) : sgn (x % 18446744073709551616) (y % 18446744073709551616) = sgn x y := by
  have := cmp_halves x y
  rw [if_neg (by simp [h])] at this
  exact this
set_option maxHeartbeats 1000000 in
theorem compare_any (p q : Nat × Nat) (hp : F64 p) (hq : F64 q) (w : World) :
    Calls Try.prog 54 #[.agg (fV p), .agg (fV q)] w fun e w' => e = .returned (.int .i64 (cmpF p q)) ∧ Below w.heap.size w w' := by
  obtain ⟨a, b⟩ := p
  obtain ⟨c, d⟩ := q
  obtain ⟨ha, hb⟩ := hp
  obtain ⟨hc, hd⟩ := hq
  simp only at ha hb hc hd
  unfold cmpF fV
  simp only
  by_cases z : b = 0 ∧ d = 0
  · obtain ⟨rfl, rfl⟩ := z
    rw [if_pos ⟨rfl, rfl⟩]
    go_enter Try.func54, Try.ntmps54
    go_wp2
    go_ret
    exact ⟨rfl, ((Below.refl _ _).alloc (Nat.le_refl _) _).alloc (by simp) _⟩
  · rw [if_neg z]
    have e := cmp_halves (a * d) (c * b)
    have m1 := mul_any a d ha hd
    have m2 := mul_any c b hc hb
    have c1 := cmp_any (a * d / 18446744073709551616) (c * b / 18446744073709551616)
    have c2 := cmp_any (a * d % 18446744073709551616) (c * b % 18446744073709551616)
    rw [← e]
    generalize sgn (a * d / 18446744073709551616) (c * b / 18446744073709551616) = s1 at *
    generalize sgn (a * d % 18446744073709551616) (c * b % 18446744073709551616) = s2 at *
    generalize a * d / 18446744073709551616 = x1 at *
    generalize a * d % 18446744073709551616 = x2 at *
    generalize c * b / 18446744073709551616 = y1 at *
    generalize c * b % 18446744073709551616 = y2 at *
    clear e
    have hz : ((b : Int) == 0) = false ∨ (((b : Int) == 0) = true ∧ ((d : Int) == 0) = false) := by
      by_cases h : b = 0
      · right
        have : d ≠ 0 := fun k => z ⟨h, k⟩
        simp only [beq_iff_eq, beq_eq_false_iff_ne]
        omega
      · left
        rw [beq_eq_false_iff_ne]; omega
    go_enter Try.func54, Try.ntmps54
    rcases hz with hz | ⟨hz, hz2⟩
    all_goals
      go_wp2_with (first
        | (go_at_call 28; first | ((with_reducible refine (m1 _).mono ?_); rintro e w' ⟨rfl, hw⟩; rw [hw]) | ((with_reducible refine (m2 _).mono ?_); rintro e w' ⟨rfl, hw⟩; rw [hw]))
        | (go_at_call 64; first | ((with_reducible refine (c1 _).mono ?_); rintro e w' ⟨rfl, hw⟩; rw [hw]) | ((with_reducible refine (c2 _).mono ?_); rintro e w' ⟨rfl, hw⟩; rw [hw]))
        | (go_at_call 63; (with_reducible refine (or_any _ s1 s2 _ ?_ ?_).mono ?_); (exact (Blk.new' (by simp)).cell 0); (exact (Blk.new' (by simp)).cell 1); rintro e w' ⟨rfl, hw⟩; rw [hw]))
      all_goals go_ret
      all_goals exact ⟨rfl, by repeat' first | exact Below.refl _ _ | refine Below.alloc ?_ (by simp <;> omega) _⟩
theorem build56 (w : World) : (Instr.build 56 #[]).run Try.prog w = .ok (.agg #[.int .u64 0, .int .u64 0]) w := run_build w 56 _ _ (by kernel_rfl)
theorem bad_any (p : Nat × Nat) (w : World) : Calls Try.prog 53 #[.agg (fV p)] w fun e w' => e = .returned (.bool (decide (Bad p))) ∧ Below w.heap.size w w' := by
  obtain ⟨a, b⟩ := p
  unfold fV
  simp only
  have hb := build56
  go_enter Try.func53, Try.ntmps53
  go_wp2
  all_goals go_ret
  all_goals exact ⟨by simp [Bad, *], (Below.refl _ _).alloc (Nat.le_refl _) _⟩
theorem lawbad_any (p : Nat × Nat) (w : World) : Calls Try.prog 33 #[.agg (fV p)] w fun e w' => e = .returned (.bool (decide (Bad p))) ∧ Below w.heap.size w w' := by
  obtain ⟨a, b⟩ := p
  unfold fV
  simp only
  go_enter Try.func33, Try.ntmps33
  by_cases ha : a = 0
  · subst ha
    by_cases hb : b = 0
    · subst hb
      go_wp2
      go_ret
      exact ⟨by simp [Bad], (Below.refl _ _).alloc (Nat.le_refl _) _⟩
    · have hz : ((b : Int) == 0) = false := by rw [beq_eq_false_iff_ne]; omega
      go_wp2
      go_ret
      exact ⟨by simp [Bad, hb], (Below.refl _ _).alloc (Nat.le_refl _) _⟩
  · have hz : ((a : Int) == 0) = false := by rw [beq_eq_false_iff_ne]; omega
    go_wp2
    go_ret
    exact ⟨by simp [Bad, ha], (Below.refl _ _).alloc (Nat.le_refl _) _⟩
theorem zero56 : (Try.prog.info? 56).map (fun i => (i.zero, i.size)) = some (some (.agg (fV (0, 0))), 2) := by kernel_rfl
theorem of_any (a b : Nat) (w : World) : Calls Try.prog 38 #[.int .u64 a, .int .u64 b] w fun e w' => e = .returned (.agg (fV (a, b))) ∧ Below w.heap.size w w' := by
  have z1 : ∀ w, (zeroValue 56).run Try.prog w = .ok (.agg #[.int .u64 0, .int .u64 0]) w := (zero_of_info zero56).1
  have hbd : ∀ w, (Instr.build 56 #[(0, .int .u64 a), (1, .int .u64 b)]).run Try.prog w = .ok (.agg #[.int .u64 a, .int .u64 b]) w := fun w => run_build w 56 _ _ (by kernel_rfl)
  go_enter Try.func38, Try.ntmps38
  go_wp2
  refine bodyPost_ret (results_blk rfl _ _ _ (fV (a, b)) 56 2 rfl (Blk.new' rfl) row56 rfl) rfl ?_
  exact ⟨rfl, (Below.refl _ _).alloc (Nat.le_refl _) _⟩
theorem two_below {w w1 : World} {C D : Array Value} {t u : TypeId} (h : Below ((w.alloc (.cells C t)).alloc (.cells D u)).heap.size ((w.alloc (.cells C t)).alloc (.cells D u)) w1) : Below w.heap.size w w1 :=
  (((Below.refl _ _).alloc (Nat.le_refl _) _).alloc (by simp) _).trans (h.mono (by simp <;> omega))
theorem Compare_any (p q : Nat × Nat) (hp : F64 p) (hq : F64 q) (w : World) :
    Calls Try.prog 32 #[.agg (fV p), .agg (fV q)] w fun e w' => e = .returned (.tuple #[.int .i64 (if Bad p ∨ Bad q then 0 else cmpF p q), .int .i64 (if Bad p ∨ Bad q then 2 else 0)]) ∧ Below w.heap.size w w' := by
  have h1 := bad_any p
  have h2 := bad_any q
  have h3 := compare_any p q hp hq
  have b1 : Blk ((w.alloc (.cells (fV p) 56)).alloc (.cells (fV q) 56)) w.heap.size (fV p) 56 := (Blk.new' rfl).alloc _
  have b2 : Blk ((w.alloc (.cells (fV p) 56)).alloc (.cells (fV q) 56)) (w.heap.size + 1) (fV q) 56 := Blk.new' (by simp)
  by_cases c : Bad p
  · rw [if_pos (.inl c), if_pos (.inl c)]
    rw [decide_eq_true c] at h1
    clear h2 h3
    unfold fV at *
    go_enter Try.func32, Try.ntmps32
    go_wp2_with (go_at_call 53; (with_reducible refine (h1 _).mono ?_); rintro e w' ⟨rfl, hw⟩)
    go_ret2
    exact ⟨rfl, two_below hw⟩
  · rw [decide_eq_false c] at h1
    by_cases d : Bad q
    · rw [if_pos (.inr d), if_pos (.inr d)]
      rw [decide_eq_true d] at h2
      unfold fV at *
      go_enter Try.func32, Try.ntmps32
      go_wp2_with (go_at_call 53; first | ((with_reducible refine (h1 _).mono ?_); rintro e w1 ⟨rfl, hw⟩; have d0 := (b2.below hw b2.lt).cell 0; have d1 := (b2.below hw b2.lt).cell 1) | ((with_reducible refine (h2 _).mono ?_); rintro e w2 ⟨rfl, hw2⟩))
      go_ret2
      exact ⟨rfl, (two_below hw).trans (hw2.mono (two_below hw).size)⟩
    · rw [if_neg (fun k => k.elim c d), if_neg (fun k => k.elim c d)]
      rw [decide_eq_false d] at h2
      unfold fV at *
      go_enter Try.func32, Try.ntmps32
      go_wp2_with (first
        | (go_at_call 53; first
            | ((with_reducible refine (h1 _).mono ?_); rintro e w1 ⟨rfl, hw⟩; have d0 := (b2.below hw b2.lt).cell 0; have d1 := (b2.below hw b2.lt).cell 1)
            | ((with_reducible refine (h2 _).mono ?_); rintro e w2 ⟨rfl, hw2⟩; have l1 : w.heap.size < w1.heap.size := Nat.lt_of_lt_of_le b1.lt hw.size; have l2 : w.heap.size + 1 < w1.heap.size := Nat.lt_of_lt_of_le b2.lt hw.size; have f0 := ((b1.below hw b1.lt).below hw2 l1).cell 0; have f1 := ((b1.below hw b1.lt).below hw2 l1).cell 1; have g0 := ((b2.below hw b2.lt).below hw2 l2).cell 0; have g1 := ((b2.below hw b2.lt).below hw2 l2).cell 1))
        | (go_at_call 54; (with_reducible refine (h3 _).mono ?_); rintro e w3 ⟨rfl, hw3⟩))
      go_ret2
      exact ⟨rfl, bnext ((two_below hw).trans (hw2.mono (two_below hw).size)) hw3⟩
end Go.Proofs.Ytdnpbemkobhlcaa
