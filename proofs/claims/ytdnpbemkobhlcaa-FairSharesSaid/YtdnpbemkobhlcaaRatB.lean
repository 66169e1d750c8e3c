/-
  Fractions, walks: the reference's products digit by digit, and its comparing.
-/
import Derived.Test.YtdnpbemkobhlcaaRatA
namespace Go.Proofs.Ytdnpbemkobhlcaa
open Go.RowKit
attribute [-go_sem] Instr.build

/-- Eight digits as cells. -/
def dV (d : Nat → Nat) : Array Value := ((List.range 8).map fun i => Value.int .u64 (d i : Nat)).toArray
theorem dV_size (d : Nat → Nat) : (dV d).size = 8 := by simp [dV]
theorem dV_get (d : Nat → Nat) (i : Nat) (h : i < 8) : (dV d)[i]? = some (.int .u64 (d i : Nat)) := by simp [dV, h]
theorem dV_set (d : Nat → Nat) (i x : Nat) : (dV d).setIfInBounds i (.int .u64 (x : Nat)) = dV (upd d i x) := by
  apply Array.ext_getElem?
  intro j
  rw [Array.getElem?_setIfInBounds]
  by_cases hj : j < 8
  · rw [dV_get (upd d i x) _ hj]
    by_cases hij : i = j
    · subst hij; rw [if_pos rfl, if_pos (by rw [dV_size]; exact hj)]; unfold upd; rw [if_pos rfl]
    · rw [if_neg hij, dV_get d _ hj]; unfold upd; rw [if_neg (Ne.symm hij)]
  · have e : (dV (upd d i x))[j]? = none := by rw [Array.getElem?_eq_none]; rw [dV_size]; omega
    rw [e]
    have e2 : (dV d)[j]? = none := by rw [Array.getElem?_eq_none]; rw [dV_size]; omega
    by_cases hij : i = j
    · rw [if_pos hij, if_neg (by rw [dV_size]; omega)]
    · rw [if_neg hij, e2]
theorem dV_congr (d e : Nat → Nat) (h : ∀ i, i < 8 → d i = e i) : dV d = dV e := by
  unfold dV
  congr 1
  apply List.map_congr_left
  intro i hi
  rw [h i (List.mem_range.1 hi)]
theorem dV_one (d : Nat → Nat) : (dV d).all (·.oneCell') = true := by
  rw [Array.all_eq_true_iff_forall_mem]
  intro v hv
  simp only [dV, List.mem_toArray, List.mem_map] at hv
  obtain ⟨x, _, rfl⟩ := hv
  rfl
theorem dV_splice (d e : Nat → Nat) : splice (dV d) 0 (dV e).toList = dV e := by
  simp [dV, splice, List.range, List.range.loop]
theorem dV_whole (d : Nat → Nat) : (dV d).extract 0 (0 + 8) = dV d := by
  simp [dV, List.range, List.range.loop]
theorem row51 : RowTy Try.prog 51 8 := ⟨⟨_, Try.underlying51, rfl⟩, by kernel_rfl⟩
theorem zero51 : (Try.prog.info? 51).map (fun i => (i.zero, i.size)) = some (some (.agg (dV fun _ => 0)), 8) := by kernel_rfl
theorem addAt_upd (d : Nat → Nat) (i x : Nat) : addAt d i x = upd d i (d i + x) := by
  funext j; unfold addAt upd; split
  · rename_i h; rw [h]
  · rfl
theorem mask16 (a : Nat) (ha : a < 18446744073709551616) : bits .and .u64 (a : Int) 65535 = ((a % 65536 : Nat) : Int) := by
  have h := bits_and_u64_nat a 65535 ha (by omega)
  have e : a &&& 65535 = a % 65536 := Nat.and_two_pow_sub_one_eq_mod a 16
  rw [e] at h
  exact h
theorem dg_and (a i : Nat) (ha : a < 18446744073709551616) : bits .and .u64 ((a : Int) / 2 ^ (16 * i)) 65535 = (dg a i : Int) := by
  have e : ((a : Int) / 2 ^ (16 * i)) = ((a / 2 ^ (16 * i) : Nat) : Int) := by rw [Int.natCast_ediv]; simp
  rw [e, mask16 _ (Nat.lt_of_le_of_lt (Nat.div_le_self _ _) ha)]
  rfl
theorem mulS_next (a b i k : Nat) (h : k < 4) : mulS a b (4 * i + k + 1) = upd (upd (mulS a b (4 * i + k)) (i + k) (mulS a b (4 * i + k) (i + k) + dg a i * dg b k % 65536)) (i + k + 1) (mulS a b (4 * i + k) (i + k + 1) + dg a i * dg b k / 65536) := by
  rw [mulS, show (4 * i + k) / 4 = i by omega, show (4 * i + k) % 4 = k by omega, addAt_upd, addAt_upd]
  congr 1
  unfold upd
  rw [if_neg (by omega)]
theorem carS_next (a b t : Nat) : carS a b (t + 1) = upd (upd (carS a b t) (t + 1) (carS a b t (t + 1) + carS a b t t / 65536)) t (carS a b t t % 65536) := by
  funext j
  rw [carS]
  unfold upd
  rfl
theorem upd_at (d : Nat → Nat) (i x : Nat) : upd d i x i = x := by unfold upd; rw [if_pos rfl]
theorem upd_off (d : Nat → Nat) (i x j : Nat) (h : j ≠ i) : upd d i x j = d j := by unfold upd; rw [if_neg h]
set_option maxHeartbeats 2000000 in
theorem refmul_any (a b : Nat) (ha : a < 18446744073709551616) (hb : b < 18446744073709551616) (w : World) :
    Calls Try.prog 29 #[.int .u64 a, .int .u64 b] w fun e w' => e = .returned (.agg (dV (mulD a b))) ∧ Below w.heap.size w w' := by
  have z1 : ∀ w, (zeroValue 51).run Try.prog w = .ok (.agg (dV fun _ => 0)) w := (zero_of_info zero51).1
  have b0 : Blk ((w.alloc (.cells (dV fun _ => 0) 51)).alloc (.cells (dV fun _ => 0) 51)) w.heap.size (dV fun _ => 0) 51 := (Blk.new' rfl).alloc _
  have b1 : Blk ((w.alloc (.cells (dV fun _ => 0) 51)).alloc (.cells (dV fun _ => 0) 51)) (w.heap.size + 1) (dV fun _ => 0) 51 := Blk.new' (by simp)
  have hB : Below w.heap.size w ((w.alloc (.cells (dV fun _ => 0) 51)).alloc (.cells (dV fun _ => 0) 51)) := ((Below.refl _ _).alloc (Nat.le_refl _) _).alloc (by simp) _
  go_enter Try.func29, Try.ntmps29
  go_wp2
  go_loopw [6] (fun t wr => ∃ i : Nat, i ≤ 4 ∧ t = .int .i64 i ∧ Blk wr w.heap.size (dV fun _ => 0) 51 ∧ Blk wr (w.heap.size + 1) (dV (mulS a b (4 * i))) 51 ∧ Below w.heap.size w wr) (fun t _ => 4 - (intOf t).toNat)
  case atStart => exact ⟨0, by omega, rfl, b0, b1, hB⟩
  case round =>
    clear b0 b1 hB
    obtain ⟨i, hi, rfl, b0, b1, hB⟩ := hrel
    by_cases hlt : i < 4
    · go_wp2
      go_loopw [7] (fun t wr => ∃ k : Nat, k ≤ 4 ∧ t = .int .i64 k ∧ Blk wr w.heap.size (dV fun _ => 0) 51 ∧ Blk wr (w.heap.size + 1) (dV (mulS a b (4 * i + k))) 51 ∧ Below w.heap.size w wr) (fun t _ => 4 - (intOf t).toNat)
      case atStart => exact ⟨0, by omega, rfl, b0, b1, hB⟩
      case round =>
        clear b0 b1 hB
        obtain ⟨k, hk, rfl, b0, b1, hB⟩ := hrel
        by_cases hlt2 : k < 4
        · have hnext := mulS_next a b i k hlt2
          have q1 := mulS_lt a b (4 * i + k) (i + k)
          have q2 := mulS_lt a b (4 * i + k) (i + k + 1)
          have q3 : (4 * i + k) * 131070 ≤ 16 * 131070 := Nat.mul_le_mul_right _ (by omega)
          generalize mulS a b (4 * i + k) = d at *
          generalize hx : d (i + k) = x at *
          generalize hy : d (i + k + 1) = y at *
          have e1 := dg_and a i ha
          have e2 := dg_and b k hb
          have e3 := prod_lt a b i k
          generalize dg a i = u at *
          generalize dg b k = v at *
          have e4 : IntKind.u64.wrap ((u : Int) * v) = ((u * v : Nat) : Int) := by rw [mulN]; exact wrapN _ (by omega)
          generalize u * v = p at *
          have e5 := mask16 p (by omega)
          have e6 : ((p : Int) / 65536) = ((p / 65536 : Nat) : Int) := by omega
          have e7 : IntKind.u64.wrap ((x : Int) + ((p % 65536 : Nat) : Int)) = ((x + p % 65536 : Nat) : Int) := by rw [addN]; exact wrapN _ (by omega)
          have e8 : IntKind.u64.wrap ((y : Int) + ((p / 65536 : Nat) : Int)) = ((y + p / 65536 : Nat) : Int) := by rw [addN]; exact wrapN _ (by omega)
          generalize p % 65536 = lo at *
          generalize p / 65536 = hi2 at *
          generalize x + lo = x' at *
          generalize y + hi2 = y' at *
          have c0 : wr.cell? ⟨w.heap.size + 1, i + k, none⟩ = some (.int .u64 x) := by rw [← hx]; exact (b1.cell (i + k)).trans (dV_get _ _ (by omega))
          have f0 := b1.frozen (i + k)
          clear hx q1 q2 q3 e3
          go_wp2
          go_region
          have b0' := (b0.set_other (p := ⟨w.heap.size + 1, i + k, none⟩) (by show w.heap.size ≠ w.heap.size + 1; omega) (.int .u64 x')).drew
          have b1' := (b1.set (i + k) (.int .u64 x')).drew
          have hB' := (below_only hB (Only.setCell (b := w.heap.size + 1) wr (i + k) (.int .u64 x')) (Nat.le_succ _)).drew
          rw [dV_set] at b1'
          clear b0 b1 hB c0 f0
          generalize (wr.setCell ⟨w.heap.size + 1, i + k, none⟩ (.int .u64 x')).drew = W at *
          have c1 : W.cell? ⟨w.heap.size + 1, i + k + 1, none⟩ = some (.int .u64 y) := by rw [← hy, ← upd_off d (i + k) x' (i + k + 1) (by omega)]; exact (b1'.cell (i + k + 1)).trans (dV_get _ _ (by omega))
          have f1 := b1'.frozen (i + k + 1)
          clear hy
          go_wp2
          go_region
          have b0 := (b0'.set_other (p := ⟨w.heap.size + 1, i + k + 1, none⟩) (by show w.heap.size ≠ w.heap.size + 1; omega) (.int .u64 y')).drew
          have b1 := (b1'.set (i + k + 1) (.int .u64 y')).drew
          have hB := (below_only hB' (Only.setCell (b := w.heap.size + 1) W (i + k + 1) (.int .u64 y')) (Nat.le_succ _)).drew
          rw [dV_set, ← hnext] at b1
          clear b0' b1' hB' c1 f1 hnext
          generalize (W.setCell ⟨w.heap.size + 1, i + k + 1, none⟩ (.int .u64 y')).drew = V at *
          go_wp2
          exact ⟨⟨k + 1, by omega, by go_num, b0, b1, hB⟩, by simp [intOf]; omega⟩
        · obtain rfl : k = 4 := by omega
          go_wp2
          exact ⟨⟨i + 1, by omega, by go_num, b0, b1, hB⟩, by simp [intOf]; omega⟩
    · obtain rfl : i = 4 := by omega
      go_wp2
      go_loopw [8] (fun t wr => ∃ k : Nat, k ≤ 7 ∧ t = .int .i64 k ∧ Blk wr w.heap.size (dV fun _ => 0) 51 ∧ Blk wr (w.heap.size + 1) (dV (carS a b k)) 51 ∧ Below w.heap.size w wr) (fun t _ => 7 - (intOf t).toNat)
      case atStart => exact ⟨0, by omega, rfl, b0, b1, hB⟩
      case round =>
        clear b0 b1 hB
        obtain ⟨k, hk, rfl, b0, b1, hB⟩ := hrel
        by_cases hlt2 : k < 7
        · have hnext := carS_next a b k
          have q1 := carS_lt a b k k (by omega)
          have q2 := carS_lt a b k (k + 1) (by omega)
          have q3 := cap_le k (by omega)
          generalize carS a b k = d at *
          generalize hx : d k = x at *
          generalize hy : d (k + 1) = y at *
          generalize capS k = cp at *
          have e5 := mask16 x (by omega)
          have e6 : ((x : Int) / 65536) = ((x / 65536 : Nat) : Int) := by omega
          have e8 : IntKind.u64.wrap ((y : Int) + ((x / 65536 : Nat) : Int)) = ((y + x / 65536 : Nat) : Int) := by rw [addN]; exact wrapN _ (by omega)
          generalize x % 65536 = lo at *
          generalize x / 65536 = hi2 at *
          generalize y + hi2 = y' at *
          have c0 : wr.cell? ⟨w.heap.size + 1, k, none⟩ = some (.int .u64 x) := by rw [← hx]; exact (b1.cell k).trans (dV_get _ _ (by omega))
          have c1 : wr.cell? ⟨w.heap.size + 1, k + 1, none⟩ = some (.int .u64 y) := by rw [← hy]; exact (b1.cell (k + 1)).trans (dV_get _ _ (by omega))
          have f1 := b1.frozen (k + 1)
          clear hy q1 q2 q3
          go_wp2
          go_region
          have b0' := (b0.set_other (p := ⟨w.heap.size + 1, k + 1, none⟩) (by show w.heap.size ≠ w.heap.size + 1; omega) (.int .u64 y')).drew
          have b1' := (b1.set (k + 1) (.int .u64 y')).drew
          have hB' := (below_only hB (Only.setCell (b := w.heap.size + 1) wr (k + 1) (.int .u64 y')) (Nat.le_succ _)).drew
          rw [dV_set] at b1'
          clear b0 b1 hB c0 c1 f1
          generalize (wr.setCell ⟨w.heap.size + 1, k + 1, none⟩ (.int .u64 y')).drew = W at *
          have c0 : W.cell? ⟨w.heap.size + 1, k, none⟩ = some (.int .u64 x) := by rw [← hx, ← upd_off d (k + 1) y' k (by omega)]; exact (b1'.cell k).trans (dV_get _ _ (by omega))
          have f0 := b1'.frozen k
          clear hx
          go_wp2
          have b0 := (b0'.set_other (p := ⟨w.heap.size + 1, k, none⟩) (by show w.heap.size ≠ w.heap.size + 1; omega) (.int .u64 lo))
          have b1 := (b1'.set k (.int .u64 lo))
          have hB := (below_only hB' (Only.setCell (b := w.heap.size + 1) W k (.int .u64 lo)) (Nat.le_succ _))
          rw [dV_set, ← hnext] at b1
          exact ⟨⟨k + 1, by omega, by go_num, b0, b1, hB⟩, by simp [intOf]; omega⟩
        · obtain rfl : k = 7 := by omega
          have hsz := dV_size
          go_wp2_with (first
            | ((with_reducible refine wpList_load_blk rfl 51 (.tmp 5) rfl (w.heap.size + 1) 0 8 rfl b1 row51 ?_ (dV (mulD a b)) ?_ ?_); (rw [hsz]; exact Nat.le_refl _); (exact dV_whole _))
            | ((with_reducible refine wpList_store_blk rfl 51 (.tmp 4) (.tmp 76) rfl w.heap.size 0 8 (dV (mulD a b)) rfl rfl b0 row51 ?_ ?_ (dV_one _) ?_); (rw [hsz]); (rw [hsz]; exact Nat.le_refl _); intro w5 hb5 ho5; rw [dV_splice] at hb5))
          refine bodyPost_ret (results_blk rfl _ _ _ (dV (mulD a b)) 51 8 rfl hb5 row51 (hsz _)) rfl ?_
          exact ⟨rfl, below_only hB ho5 (Nat.le_refl _)⟩
end Go.Proofs.Ytdnpbemkobhlcaa
