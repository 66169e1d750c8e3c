/-
  Fractions, walks: halves of a product, the reference's comparing.
-/
import Derived.Test.YtdnpbemkobhlcaaRatB
namespace Go.Proofs.Ytdnpbemkobhlcaa
open Go.RowKit
attribute [-go_sem] Instr.build

theorem or_low (y k i n : Nat) (hy : y < 2 ^ i) (hn : n = y + 2 ^ i * k) (h : n < 18446744073709551616) : bits .or .u64 (y : Int) ((2 ^ i * k : Nat) : Int) = (n : Int) := by
  subst hn
  have key : ∀ p q : Nat, p < 2 ^ 64 → q < 2 ^ 64 → bits .or .u64 (p : Int) (q : Int) = IntKind.u64.wrap ((p ||| q : Nat) : Int) := by
    intro p q hp hq
    simp only [bits, BitVec.toNat_or, BitVec.toNat_ofInt]
    have e : ((2 ^ IntKind.u64.bits : Nat) : Int) = ((2 ^ 64 : Nat) : Int) := rfl
    rw [e, ← Int.natCast_emod, ← Int.natCast_emod, Nat.mod_eq_of_lt hp, Nat.mod_eq_of_lt hq]
    rfl
  rw [key _ _ (by omega) (by omega), Nat.or_comm, ← Nat.two_pow_add_eq_or_of_lt hy, Nat.add_comm]
  exact wrapN _ h
def half (d : Nat → Nat) (f : Nat) : Nat := d f + d (f + 1) * 65536 + d (f + 2) * 4294967296 + d (f + 3) * 281474976710656
set_option maxRecDepth 100000 in
theorem half_any (d : Nat → Nat) (hd : ∀ j, j < 8 → d j < 65536) (f : Nat) (F : Int) (hf : (f = 0 ∧ F = 0) ∨ (f = 4 ∧ F = 4)) (w : World) :
    Calls Try.prog 30 #[.agg (dV d), .int .i64 F] w fun e w' => e = .returned (.int .u64 (half d f)) ∧ Below w.heap.size w w' := by
  have b0 : Blk (w.alloc (.cells (dV d) 51)) w.heap.size (dV d) 51 := Blk.new' rfl
  have hB : Below w.heap.size w (w.alloc (.cells (dV d) 51)) := (Below.refl _ _).alloc (Nat.le_refl _) _
  have h0 := hd f (by omega)
  have h1 := hd (f + 1) (by omega)
  have h2 := hd (f + 2) (by omega)
  have h3 := hd (f + 3) (by omega)
  have c0 := (b0.cell f).trans (dV_get d f (by omega))
  have c1 := (b0.cell (f + 1)).trans (dV_get d (f + 1) (by omega))
  have c2 := (b0.cell (f + 2)).trans (dV_get d (f + 2) (by omega))
  have c3 := (b0.cell (f + 3)).trans (dV_get d (f + 3) (by omega))
  unfold half
  generalize d f = x0 at *
  generalize d (f + 1) = x1 at *
  generalize d (f + 2) = x2 at *
  generalize d (f + 3) = x3 at *
  have e1 : IntKind.u64.wrap ((x1 : Int) * 65536) = ((2 ^ 16 * x1 : Nat) : Int) := by rw [show (x1 : Int) * 65536 = ((2 ^ 16 * x1 : Nat) : Int) by omega]; exact wrapN _ (by omega)
  have e2 : IntKind.u64.wrap ((x2 : Int) * 4294967296) = ((2 ^ 32 * x2 : Nat) : Int) := by rw [show (x2 : Int) * 4294967296 = ((2 ^ 32 * x2 : Nat) : Int) by omega]; exact wrapN _ (by omega)
  have e3 : IntKind.u64.wrap ((x3 : Int) * 281474976710656) = ((2 ^ 48 * x3 : Nat) : Int) := by rw [show (x3 : Int) * 281474976710656 = ((2 ^ 48 * x3 : Nat) : Int) by omega]; exact wrapN _ (by omega)
  have o1 := or_low x0 x1 16 (x0 + 2 ^ 16 * x1) (by omega) rfl (by omega)
  have o2 := or_low (x0 + 2 ^ 16 * x1) x2 32 (x0 + 2 ^ 16 * x1 + 2 ^ 32 * x2) (by omega) rfl (by omega)
  have o3 := or_low (x0 + 2 ^ 16 * x1 + 2 ^ 32 * x2) x3 48 (x0 + x1 * 65536 + x2 * 4294967296 + x3 * 281474976710656) (by omega) (by omega) (by omega)
  generalize 2 ^ 16 * x1 = y1 at *
  generalize 2 ^ 32 * x2 = y2 at *
  generalize 2 ^ 48 * x3 = y3 at *
  generalize x0 + x1 * 65536 + x2 * 4294967296 + x3 * 281474976710656 = R at *
  generalize x0 + y1 + y2 = r2 at *
  generalize x0 + y1 = r1 at *
  clear h0 h1 h2 h3 hd
  have hsz := dV_size d
  generalize dV d = D at *
  rcases hf with ⟨rfl, rfl⟩ | ⟨rfl, rfl⟩
  · go_enter Try.func30, Try.ntmps30
    go_wp2
    generalize w.alloc (.cells D 51) = W at *
    go_region
    go_wp2
    go_ret
    exact ⟨rfl, hB.drew⟩
  · go_enter Try.func30, Try.ntmps30
    go_wp2
    generalize w.alloc (.cells D 51) = W at *
    go_region
    go_wp2
    go_ret
    exact ⟨rfl, hB.drew⟩
theorem two_alloc {w w2 : World} {C D : Array Value} {t u : TypeId} (hB : Below w.heap.size w w2) : Blk ((w2.alloc (.cells C t)).alloc (.cells D u)) w2.heap.size C t ∧ Blk ((w2.alloc (.cells C t)).alloc (.cells D u)) (w2.heap.size + 1) D u ∧ Below w.heap.size w ((w2.alloc (.cells C t)).alloc (.cells D u)) :=
  ⟨(Blk.new' rfl).alloc _, Blk.new' (by simp), (hB.alloc hB.size _).alloc (by have := hB.size; simp; omega) _⟩
theorem cmpD_pos (x y : Nat → Nat) (t : Nat) : cmpD x y (t + 1) = if x t < y t then -1 else if y t < x t then 1 else cmpD x y t := rfl
set_option maxHeartbeats 1000000 in
theorem refcmp_any (p q : Nat × Nat) (hp : F64 p) (hq : F64 q) (w : World) :
    Calls Try.prog 55 #[.int .u64 p.1, .int .u64 p.2, .int .u64 q.1, .int .u64 q.2] w fun e w' => e = .returned (.int .i64 (cmpF p q)) ∧ Below w.heap.size w w' := by
  obtain ⟨a, b⟩ := p
  obtain ⟨c, d⟩ := q
  obtain ⟨ha, hb⟩ := hp
  obtain ⟨hc, hd⟩ := hq
  simp only at ha hb hc hd ⊢
  unfold cmpF
  simp only
  by_cases z : b = 0 ∧ d = 0
  · obtain ⟨rfl, rfl⟩ := z
    rw [if_pos ⟨rfl, rfl⟩]
    go_enter Try.func55, Try.ntmps55
    go_wp2
    go_ret
    exact ⟨rfl, Below.refl _ _⟩
  · rw [if_neg z]
    have e := cmp_mulD a d c b ha hd hc hb
    have m1 := refmul_any a d ha hd
    have m2 := refmul_any c b hc hb
    rw [← e]
    have z1 : ∀ w, (zeroValue 51).run Try.prog w = .ok (.agg (dV fun _ => 0)) w := (zero_of_info zero51).1
    generalize mulD a d = X at *
    generalize mulD c b = Y at *
    generalize hR : cmpD X Y 8 = R at *
    replace hR := Lib.hid hR
    clear e
    have hz : ((b : Int) == 0) = false ∨ (((b : Int) == 0) = true ∧ ((d : Int) == 0) = false) := by
      by_cases h : b = 0
      · right
        have : d ≠ 0 := fun k => z ⟨h, k⟩
        simp only [beq_iff_eq, beq_eq_false_iff_ne]
        omega
      · left
        rw [beq_eq_false_iff_ne]; omega
    have hsz := dV_size
    go_enter Try.func55, Try.ntmps55
    rcases hz with hz | ⟨hz, hz2⟩
    all_goals
      go_wp2_with (first
        | (go_at_call 29; first | ((with_reducible refine (m1 _).mono ?_); rintro e w1 ⟨rfl, hw1⟩) | ((with_reducible refine (m2 _).mono ?_); rintro e w2 ⟨rfl, hw2⟩; have hB := bnext hw1 hw2; obtain ⟨k0, k1, hB2⟩ := two_alloc hB))
        | ((with_reducible refine wpList_store_blk rfl 51 (.tmp 9) (.tmp 20) rfl w2.heap.size 0 8 (dV X) rfl rfl k0 row51 ?_ ?_ (dV_one _) ?_); (rw [hsz]); (rw [hsz]; exact Nat.le_refl _); intro w5 hb5 ho5; rw [dV_splice] at hb5; have k2 := k1.only ho5 (by omega); have hB5 := below_only hB2 ho5 hB.size)
        | ((with_reducible refine wpList_store_blk rfl 51 (.tmp 10) (.tmp 23) rfl (w2.heap.size + 1) 0 8 (dV Y) rfl rfl k2 row51 ?_ ?_ (dV_one _) ?_); (rw [hsz]); (rw [hsz]; exact Nat.le_refl _); intro w6 hb6 ho6; rw [dV_splice] at hb6; have k3 := hb5.only ho6 (by omega); have hB6 := below_only hB5 ho6 (by have := hB.size; omega)))
      clear k0 k1 hB2 hB5 hb5 k2
      generalize hk : w2.heap.size = k2 at *
      clear hk
      go_loopw [11] (fun v wr => ∃ t : Nat, t ≤ 8 ∧ v = .int .i64 ((t : Int) - 1) ∧ cmpD X Y t = R ∧ Blk wr k2 (dV X) 51 ∧ Blk wr (k2 + 1) (dV Y) 51 ∧ Below w.heap.size w wr) (fun v _ => (intOf v + 1).toNat)
      case atStart => exact ⟨8, by omega, rfl, hR.out, k3, hb6, hB6⟩
      case round =>
        clear k3 hb6 hB6 ho5 ho6 hR
        obtain ⟨t, ht, rfl, hR, k0, k1, hB⟩ := hrel
        cases t with
        | zero =>
          go_wp2
          go_ret
          exact ⟨by rw [← hR]; rfl, hB⟩
        | succ n =>
          rw [cmpD_pos] at hR
          have c0 := (k0.cell n).trans (dV_get X n (by omega))
          have c1 := (k1.cell n).trans (dV_get Y n (by omega))
          generalize X n = x at *
          generalize Y n = y at *
          have e : (((n + 1 : Nat) : Int) - 1) = (n : Int) := by omega
          rw [e]
          clear e
          replace hR := Lib.hid hR
          by_cases h1 : x < y
          · go_wp2
            go_region
            go_wp2
            go_ret
            exact ⟨by rw [← hR.out, if_pos h1]; rfl, hB.drew⟩
          · by_cases h2 : y < x
            · go_wp2
              go_region
              go_wp2
              go_region
              go_wp2
              go_ret
              exact ⟨by rw [← hR.out, if_neg h1, if_pos h2]; rfl, hB.drew.drew⟩
            · go_wp2
              go_region
              go_wp2
              go_region
              go_wp2
              exact ⟨⟨n, by omega, rfl, by rw [← hR.out, if_neg h1, if_neg h2], k0.drew.drew, k1.drew.drew, hB.drew.drew⟩, by simp [intOf]⟩
theorem lawcmp_any (p q : Nat × Nat) (hp : F64 p) (hq : F64 q) (w : World) :
    Calls Try.prog 34 #[.agg (fV p), .agg (fV q)] w fun e w' => e = .returned (.int .i64 (cmpF p q)) ∧ Below w.heap.size w w' := by
  have h := refcmp_any p q hp hq
  unfold fV
  go_enter Try.func34, Try.ntmps34
  go_wp2_with (go_at_call 55; (with_reducible refine (h _).mono ?_); rintro e w1 ⟨rfl, hw⟩)
  go_ret
  exact ⟨rfl, two_below hw⟩
end Go.Proofs.Ytdnpbemkobhlcaa
