/-
  Fractions, walks: lowest terms; rows of integers compared.
-/
import Derived.Test.YtdnpbemkobhlcaaRatK
namespace Go.Proofs.Ytdnpbemkobhlcaa
open Go.RowKit
attribute [-go_sem] Instr.build

theorem fV_one (p : Nat × Nat) : (fV p).all (·.oneCell') = true := by simp [fV, Value.oneCell']
theorem fV_splice (p q : Nat × Nat) : splice (fV p) 0 (fV q).toList = fV q := by simp [fV, splice]
theorem gcd_step (x y : Nat) : Nat.gcd y (x % y) = Nat.gcd x y := by rw [Nat.gcd_comm x y, Nat.gcd_rec y x, Nat.gcd_comm]
set_option maxHeartbeats 2000000 in
theorem reduce_bad (p : Nat × Nat) (hb : Bad p) (w : World) : Calls Try.prog 37 #[.agg (fV p)] w fun e w' => e = .returned (.tuple #[.agg (fV (0, 0)), .int .i64 2]) ∧ Below w.heap.size w w' := by
  have h1 := bad_any p
  rw [decide_eq_true hb] at h1
  have z1 : ∀ w, (zeroValue 56).run Try.prog w = .ok (.agg (fV (0, 0))) w := (zero_of_info zero56).1
  have hbd := build56
  have b0 : Blk ((w.alloc (.cells (fV p) 56)).alloc (.cells (fV (0, 0)) 56)) w.heap.size (fV p) 56 := (Blk.new' rfl).alloc _
  have b1 : Blk ((w.alloc (.cells (fV p) 56)).alloc (.cells (fV (0, 0)) 56)) (w.heap.size + 1) (fV (0, 0)) 56 := Blk.new' (by simp)
  have hB : Below w.heap.size w ((w.alloc (.cells (fV p) 56)).alloc (.cells (fV (0, 0)) 56)) := ((Below.refl _ _).alloc (Nat.le_refl _) _).alloc (by simp) _
  have u0 := b0.cell 0
  have u1 := b0.cell 1
  simp only [fV, List.getElem?_toArray, List.getElem?_cons_zero, List.getElem?_cons_succ] at u0 u1
  unfold fV at h1 hbd
  go_enter Try.func37, Try.ntmps37
  unfold fV at *
  go_wp2_with (go_at_call 53; (with_reducible refine (h1 _).mono ?_); rintro e w1 ⟨rfl, hw⟩; have b2 := b1.below hw b1.lt; have hB1 := bnext hB hw; have f0 := b2.frozen 0; have f1 := b2.frozen 1; have c0 : w1.cell? ⟨w.heap.size + 1, 0, none⟩ = some (.int .u64 0) := b2.cell 0; have c1 : w1.cell? ⟨w.heap.size + 1, 1, none⟩ = some (.int .u64 0) := b2.cell 1)
  have hb5 := (b2.set 0 (.int .u64 0)).set 1 (.int .u64 0)
  have hB5 := below_only (below_only hB1 (Only.setCell (b := w.heap.size + 1) w1 0 (.int .u64 0)) (Nat.le_succ _)) (Only.setCell (b := w.heap.size + 1) _ 1 (.int .u64 0)) (Nat.le_succ _)
  refine bodyPost_ret (results_blk_tmp rfl _ _ _ _ 56 2 _ rfl rfl hb5 row56 rfl) rfl ?_
  exact ⟨rfl, hB5⟩
set_option maxHeartbeats 2000000 in
theorem reduce_ok (p : Nat × Nat) (hp : F64 p) (hb : ¬ Bad p) (w : World) : Calls Try.prog 37 #[.agg (fV p)] w fun e w' => e = .returned (.tuple #[.agg (fV (redF p)), .int .i64 0]) ∧ Below w.heap.size w w' := by
  have h1 := bad_any p
  rw [decide_eq_false hb] at h1
  have z1 : ∀ w, (zeroValue 56).run Try.prog w = .ok (.agg (fV (0, 0))) w := (zero_of_info zero56).1
  have hg := gcd_pos' p hb
  obtain ⟨n, d⟩ := p
  obtain ⟨hn, hd⟩ := hp
  simp only at hn hd hg
  have b0 : Blk ((w.alloc (.cells (fV (n, d)) 56)).alloc (.cells (fV (0, 0)) 56)) w.heap.size (fV (n, d)) 56 := (Blk.new' rfl).alloc _
  have b1 : Blk ((w.alloc (.cells (fV (n, d)) 56)).alloc (.cells (fV (0, 0)) 56)) (w.heap.size + 1) (fV (0, 0)) 56 := Blk.new' (by simp)
  have hB : Below w.heap.size w ((w.alloc (.cells (fV (n, d)) 56)).alloc (.cells (fV (0, 0)) 56)) := ((Below.refl _ _).alloc (Nat.le_refl _) _).alloc (by simp) _
  have hbd : ∀ (a b : Nat) w, (Instr.build 56 #[(0, .int .u64 a), (1, .int .u64 b)]).run Try.prog w = .ok (.agg #[.int .u64 a, .int .u64 b]) w := fun a b w => run_build w 56 _ _ (by kernel_rfl)
  have e1 : (n : Int).tdiv ((Nat.gcd n d : Nat) : Int) = ((n / Nat.gcd n d : Nat) : Int) := rfl
  have e2 : (d : Int).tdiv ((Nat.gcd n d : Nat) : Int) = ((d / Nat.gcd n d : Nat) : Int) := rfl
  have e3 : redF (n, d) = (n / Nat.gcd n d, d / Nat.gcd n d) := rfl
  have q1 : n / Nat.gcd n d < 18446744073709551616 := Nat.lt_of_le_of_lt (Nat.div_le_self _ _) hn
  have q2 : d / Nat.gcd n d < 18446744073709551616 := Nat.lt_of_le_of_lt (Nat.div_le_self _ _) hd
  rw [e3]
  clear e3
  generalize n / Nat.gcd n d = n' at *
  generalize d / Nat.gcd n d = d' at *
  obtain ⟨g, hgg⟩ : ∃ g, g = Nat.gcd n d := ⟨_, rfl⟩
  rw [← hgg] at e1 e2 hg
  have e4 : IntKind.u64.wrap (n' : Int) = n' := wrapN _ q1
  have e5 : IntKind.u64.wrap (d' : Int) = d' := wrapN _ q2
  have e6 : ((g : Int) == 0) = false := by rw [beq_eq_false_iff_ne]; omega
  have e7 : (g : Int) ≠ 0 := by omega
  have hbd' := hbd n' d'
  replace hgg := Lib.hid hgg
  replace e1 := Lib.hid e1
  replace e2 := Lib.hid e2
  clear hb hbd
  go_enter Try.func37, Try.ntmps37
  unfold fV at *
  go_wp2_with (go_at_call 53; (with_reducible refine (h1 _).mono ?_); rintro e w1 ⟨rfl, hw⟩; have k0 := b0.below hw b0.lt; have k1 := b1.below hw b1.lt; have hB1 := bnext hB hw; have c0 : w1.cell? ⟨w.heap.size, 0, none⟩ = some (.int .u64 n) := k0.cell 0; have c1 : w1.cell? ⟨w.heap.size, 1, none⟩ = some (.int .u64 d) := k0.cell 1)
  clear b0 b1 hB hw h1
  go_region
  have k0' := k0.drew
  have k1' := k1.drew
  have hB2 := hB1.drew
  clear k0 k1 hB1 c0 c1
  generalize w1.drew = W at *
  go_wp2
  go_loopw [4, 5] (fun u v wr => ∃ x y : Nat, u = .int .u64 x ∧ v = .int .u64 y ∧ x < 18446744073709551616 ∧ y < 18446744073709551616 ∧ Nat.gcd x y = Nat.gcd n d ∧ Blk wr w.heap.size #[.int .u64 n, .int .u64 d] 56 ∧ Blk wr (w.heap.size + 1) #[.int .u64 0, .int .u64 0] 56 ∧ Below w.heap.size w wr) (fun _ v _ => (intOf v).toNat)
  case atStart => exact ⟨n, d, rfl, rfl, hn, hd, rfl, k0', k1', hB2⟩
  case round =>
    clear k0' k1' hB2
    obtain ⟨x, y, rfl, rfl, hx, hy, hxy, k0, k1, hB⟩ := hrel
    by_cases hz : y = 0
    · subst hz
      rw [Nat.gcd_zero_right, ← hgg.out] at hxy
      subst hxy
      have c0 : wr.cell? ⟨w.heap.size, 0, none⟩ = some (.int .u64 n) := k0.cell 0
      have c1 : wr.cell? ⟨w.heap.size, 1, none⟩ = some (.int .u64 d) := k0.cell 1
      have c2 : wr.cell? ⟨w.heap.size + 1, 0, none⟩ = some (.int .u64 0) := k1.cell 0
      have c3 : wr.cell? ⟨w.heap.size + 1, 1, none⟩ = some (.int .u64 0) := k1.cell 1
      have f0 := k1.frozen 0
      have f1 := k1.frozen 1
      have e1 := e1.out
      have e2 := e2.out
      clear hx hy hn hd q1 q2
      go_wp2
      go_region
      have hb5 := ((k1.set 0 (.int .u64 n')).set 1 (.int .u64 d')).drew
      have hB5 := (below_only (below_only hB (Only.setCell (b := w.heap.size + 1) wr 0 (.int .u64 n')) (Nat.le_succ _)) (Only.setCell (b := w.heap.size + 1) _ 1 (.int .u64 d')) (Nat.le_succ _)).drew
      go_wp2
      refine bodyPost_ret (results_blk_tmp rfl _ _ _ _ 56 2 _ rfl rfl hb5 row56 rfl) rfl ?_
      exact ⟨rfl, hB5⟩
    · have hlt : x % y < y := Nat.mod_lt _ (by omega)
      have hs := gcd_step x y
      rw [hxy] at hs
      have e1 : (x : Int).tmod (y : Int) = ((x % y : Nat) : Int) := rfl
      generalize x % y = z at *
      have e4 : IntKind.u64.wrap (z : Int) = z := wrapN _ (by omega)
      have hzz : ((y : Int) == 0) = false := by rw [beq_eq_false_iff_ne]; omega
      have e7 : (y : Int) ≠ 0 := by omega
      replace hs := Lib.hid hs
      clear hxy
      go_wp2
      go_region
      go_wp2
      exact ⟨⟨y, z, rfl, rfl, hy, by omega, hs.out, k0.drew, k1.drew, hB.drew⟩, by simp [intOf]; omega⟩
/-- The cells at address a are the integers xs. -/
def Ints (w : World) (a : Option Addr) (xs : List Int) : Prop :=
  0 < xs.length → ∃ b o, a = some ⟨b, o, none⟩ ∧ b < w.heap.size ∧ ∀ i, i < xs.length → w.cell? ⟨b, o + i, none⟩ = some (.int .i64 (xs.getD i 0))
theorem Ints.below {w w' : World} {a : Option Addr} {l : List Int} (h : Ints w a l) (hb : Below w.heap.size w w') : Ints w' a l := by
  intro h0
  obtain ⟨b, o, e, hlt, hc⟩ := h h0
  have hs := hb.size
  exact ⟨b, o, e, by omega, fun i hi => (hb.cell hlt).trans (hc i hi)⟩
theorem Ints.nil (w : World) (a : Option Addr) : Ints w a [] := fun h => absurd h (by simp)
theorem Ints.drew {w : World} {a : Option Addr} {l : List Int} (h : Ints w a l) : Ints w.drew a l := h
theorem list_ext_getD {xs ys : List Int} (hl : xs.length = ys.length) (h : ∀ i, i < xs.length → xs.getD i 0 = ys.getD i 0) : xs = ys := by
  apply List.ext_getElem hl
  intro i h1 h2
  have := h i h1
  simpa [h1, h2] using this
set_option maxHeartbeats 1000000 in
theorem same_any (a b : Option Addr) (xs ys : List Int) (cap cap' : Nat) (w : World) (ha : Ints w a xs) (hb : Ints w b ys) (h1 : xs.length ≤ 100000) (n m : Nat) (hn : n = xs.length) (hm : m = ys.length) :
    Calls Try.prog 39 #[.slice a n cap, .slice b m cap'] w fun e w' => e = .returned (.bool (decide (xs = ys))) ∧ Below w.heap.size w w' := by
  by_cases hl : n = m
  · have hl' : xs.length = ys.length := by omega
    have e0 : ((n : Int) != m) = false := by simp [hl]
    subst hl
    clear hm
    have hn1 : n ≤ 100000 := by omega
    replace hn := Lib.hid hn
    replace hl' := Lib.hid hl'
    replace h1 := Lib.hid h1
    go_enter Try.func39, Try.ntmps39
    go_wp2
    go_loopw [5] (fun u wr => ∃ k : Nat, u = .int .i64 k ∧ k ≤ n ∧ (∀ i, i < k → xs.getD i 0 = ys.getD i 0) ∧ Below w.heap.size w wr) (fun u _ => n - (intOf u).toNat)
    case atStart => exact ⟨0, rfl, Nat.zero_le _, fun i hi => absurd hi (by omega), Below.refl _ _⟩
    case round =>
      obtain ⟨k, rfl, hk, hp, hB⟩ := hrel
      by_cases hlt : k < n
      · obtain ⟨b1, o1, rfl, l1, c1⟩ := ha (by have := hn.out; omega)
        obtain ⟨b2, o2, rfl, l2, c2⟩ := hb (by have := hn.out; have := hl'.out; omega)
        have d1 := (hB.cell (p := ⟨b1, o1 + k, none⟩) l1).trans (c1 k (by have := hn.out; omega))
        have d2 := (hB.cell (p := ⟨b2, o2 + k, none⟩) l2).trans (c2 k (by have := hn.out; have := hl'.out; omega))
        have hne : xs.getD k 0 ≠ ys.getD k 0 → xs ≠ ys := fun h e => h (by rw [e])
        have hnx : xs.getD k 0 = ys.getD k 0 → ∀ i, i < k + 1 → xs.getD i 0 = ys.getD i 0 := fun h i hi => by
          rcases Nat.lt_succ_iff_lt_or_eq.1 hi with h' | rfl
          · exact hp i h'
          · exact h
        generalize xs.getD k 0 = x at *
        generalize ys.getD k 0 = y at *
        clear c1 c2 hp
        replace hnx := Lib.hid hnx
        by_cases hxy : x = y
        · subst hxy
          replace hnx := Lib.hid (hnx.out rfl)
          have e1 : (x != x) = false := by simp
          clear hne
          go_wp2
          go_region
          go_wp2
          exact ⟨⟨k + 1, by go_num, by omega, hnx.out, hB.drew⟩, by simp [intOf]; omega⟩
        · have e1 : (x != y) = true := by simp [hxy]
          replace hne := Lib.hid (hne hxy)
          clear hnx
          go_wp2
          go_region
          go_wp2
          go_ret
          exact ⟨by rw [decide_eq_false hne.out]; rfl, hB.drew⟩
      · obtain rfl : k = n := by omega
        have := list_ext_getD hl'.out (fun i hi => hp i (by have := hn.out; omega))
        clear hp
        replace this := Lib.hid this
        go_wp2
        go_ret
        exact ⟨by rw [decide_eq_true this.out]; rfl, hB⟩
  · have e0 : ((n : Int) != m) = true := by simp; omega
    have hne : xs ≠ ys := fun e => hl (by rw [hn, hm, e])
    rw [decide_eq_false hne]
    clear hn hm hne
    go_enter Try.func39, Try.ntmps39
    go_wp2
    go_ret
    exact ⟨rfl, Below.refl _ _⟩
end Go.Proofs.Ytdnpbemkobhlcaa
