/-
  Fractions, walks: the chapter's examples.
-/
import Derived.Test.YtdnpbemkobhlcaaRatL
namespace Go.Proofs.Ytdnpbemkobhlcaa
open Go.RowKit
attribute [-go_sem] Instr.build

theorem frc_new (W : World) (C : Array Value) (t : TypeId) (l : List (Nat × Nat)) (h : ∀ i, i < l.length → C[i * 2]? = some (.int .u64 (gf l i).1) ∧ C[i * 2 + 1]? = some (.int .u64 (gf l i).2)) : Frc (W.alloc (.cells C t)) (some ⟨W.heap.size, 0, none⟩) l := fun _ =>
  ⟨W.heap.size, 0, rfl, by simp, fun i hi => by
    have b := Blk.new W C t
    rw [Nat.zero_add]
    rw [b.cell, b.cell]
    exact h i hi⟩
theorem g64_lit (l : List (Nat × Nat)) (h : (l.all fun p => decide (p.1 < 18446744073709551616) && decide (p.2 < 18446744073709551616)) = true) : G64 l := G64.of fun p hp => by
  have := (List.all_eq_true.1 h) p hp
  simp at this
  exact ⟨this.1, this.2⟩
theorem of_lit (A B : Int) (hA : 0 ≤ A) (hB : 0 ≤ B) (w : World) : Calls Try.prog 38 #[.int .u64 A, .int .u64 B] w fun e w' => e = .returned (.agg #[.int .u64 A, .int .u64 B]) ∧ Below w.heap.size w w' := by
  obtain ⟨a, rfl⟩ := Int.eq_ofNat_of_zero_le hA
  obtain ⟨b, rfl⟩ := Int.eq_ofNat_of_zero_le hB
  exact of_any a b w
theorem compare_lit (p q : Nat × Nat) (a b c d r : Int) (ha : a = p.1) (hb : b = p.2) (hc : c = q.1) (hd : d = q.2) (hp : F64 p) (hq : F64 q) (h1 : ¬ Bad p) (h2 : ¬ Bad q) (hr : cmpF p q = r) (w : World) :
    Calls Try.prog 32 #[.agg #[.int .u64 a, .int .u64 b], .agg #[.int .u64 c, .int .u64 d]] w fun e w' => e = .returned (.tuple #[.int .i64 r, .int .i64 0]) ∧ Below w.heap.size w w' := by
  subst ha hb hc hd hr
  have := Compare_any p q hp hq w
  rw [if_neg (fun k => k.elim h1 h2), if_neg (fun k => k.elim h1 h2)] at this
  exact this
theorem best_lit (l : List (Nat × Nat)) (h64 : G64 l) (hg : anyBad l = false) (a : Option Addr) (n cap : Nat) (r : Int) (hn : n = l.length) (h0 : 0 < n) (hlen : n ≤ 1000) (hr : r = bst l l.length) (w : World) (hb : Frc w a l) :
    Calls Try.prog 35 #[.slice a n cap] w fun e w' => e = .returned (.tuple #[.int .i64 r, .int .i64 0]) ∧ Below w.heap.size w w' := by
  subst hn hr
  have := best_any l h64 a cap w hb hlen
  rw [if_neg (by rw [hg]; intro k; rcases k with k | k; (omega); (cases k)), if_neg (by omega), hg, if_neg (by simp)] at this
  exact this
theorem best_nil (w : World) : Calls Try.prog 35 #[.slice none 0 0] w fun e w' => e = .returned (.tuple #[.int .i64 0, .int .i64 10]) ∧ Below w.heap.size w w' := by
  have := best_any [] ⟨fun _ => ⟨by simp [gf], by simp [gf]⟩⟩ none 0 w (Frc.nil _ _) (by simp)
  exact this
def L4 : List (Nat × Nat) := [(1, 2), (5, 0), (2, 4), (3, 0)]
def cl4 (x y : Nat) : Bool := decide (cmpF (gf L4 y) (gf L4 x) < 0) || (decide (cmpF (gf L4 y) (gf L4 x) = 0) && decide (x < y))
theorem ord4 : ∀ a b c d : Fin 4, cl4 a b = true → cl4 b c = true → cl4 c d = true → a.val = 1 ∧ b.val = 3 ∧ c.val = 0 ∧ d.val = 2 := by decide
theorem cl4_of {x y : Nat} (h : ltF (gf L4) x y) : cl4 x y = true := by
  unfold cl4
  rcases h with h | ⟨h, k⟩
  · simp [h]
  · simp [h, k]
theorem row4 {g : Nat → Nat} (hs : Same (fun i => i) g 0 4) (ht : Srt (ltF (gf L4)) g 0 4) : rowV g 4 = #[.int .i64 1, .int .i64 3, .int .i64 0, .int .i64 2] := by
  have lt : ∀ i, i < 4 → g i < 4 := fun i hi => by
    obtain ⟨j, _, j2, e⟩ := hs.1 i (Nat.zero_le _) hi
    rw [e]; exact j2
  obtain ⟨e0, e1, e2, e3⟩ := ord4 ⟨_, lt 0 (by omega)⟩ ⟨_, lt 1 (by omega)⟩ ⟨_, lt 2 (by omega)⟩ ⟨_, lt 3 (by omega)⟩ (cl4_of (ht 0 1 (by omega) (by omega) (by omega))) (cl4_of (ht 1 2 (by omega) (by omega) (by omega))) (cl4_of (ht 2 3 (by omega) (by omega) (by omega)))
  have e0 : g 0 = 1 := e0
  have e1 : g 1 = 3 := e1
  have e2 : g 2 = 0 := e2
  have e3 : g 3 = 2 := e3
  simp [rowV, List.range, List.range.loop, e0, e1, e2, e3]
theorem order4 (w : World) (a : Option Addr) (cap : Nat) (hb : Frc w a L4) :
    Calls Try.prog 36 #[.slice a 4 cap] w fun e w' => ∃ b, e = .returned (.tuple #[.slice (some ⟨b, 0, none⟩) 4 4, .int .i64 0]) ∧ Blk w' b #[.int .i64 1, .int .i64 3, .int .i64 0, .int .i64 2] 3 ∧ Below w.heap.size w w' := by
  refine (order_ok L4 (g64_lit _ (by decide)) (by decide) a cap w hb (by decide)).mono ?_
  rintro e w' ⟨⟨b, g, rfl, _, hk, hs, ht⟩, hB⟩
  have := row4 hs ht
  refine ⟨b, rfl, ?_, hB⟩
  rw [← this]; exact hk
theorem reduce_lit (p : Nat × Nat) (a b c d : Int) (ha : a = p.1) (hb : b = p.2) (hc : c = (redF p).1) (hd : d = (redF p).2) (hp : F64 p) (h1 : ¬ Bad p) (w : World) :
    Calls Try.prog 37 #[.agg #[.int .u64 a, .int .u64 b]] w fun e w' => e = .returned (.tuple #[.agg #[.int .u64 c, .int .u64 d], .int .i64 0]) ∧ Below w.heap.size w w' := by
  subst ha hb hc hd
  exact reduce_ok p hp h1 w
theorem mul_lit (x y : Nat) (a b c d : Int) (ha : a = x) (hb : b = y) (hc : c = (x * y / 18446744073709551616 : Nat)) (hd : d = (x * y % 18446744073709551616 : Nat)) (hx : x < 18446744073709551616) (hy : y < 18446744073709551616) (w : World) :
    Calls Try.prog 28 #[.int .u64 a, .int .u64 b] w fun e w' => e = .returned (.tuple #[.int .u64 c, .int .u64 d]) ∧ w' = w := by
  subst ha hb hc hd
  exact mul_any x y hx hy w
theorem below_new {a w : World} (h : Below a.heap.size a w) (o : Obj) : Below a.heap.size a (w.alloc o) := h.alloc h.size _
theorem ints_new (W : World) (C : Array Value) (xs : List Int) (t : TypeId) (h : ∀ i, i < xs.length → C[i]? = some (.int .i64 (xs.getD i 0))) : Ints (W.alloc (.cells C t)) (some ⟨W.heap.size, 0, none⟩) xs := fun _ =>
  ⟨W.heap.size, 0, rfl, by simp, fun i hi => by
    rw [Nat.zero_add, (Blk.new W C t).cell]
    exact h i hi⟩
theorem ints_blk {W : World} {b : Nat} {C : Array Value} {xs : List Int} {t : TypeId} (hb : Blk W b C t) (h : ∀ i, i < xs.length → C[i]? = some (.int .i64 (xs.getD i 0))) : Ints W (some ⟨b, 0, none⟩) xs := fun _ =>
  ⟨b, 0, rfl, hb.lt, fun i hi => by rw [Nat.zero_add, hb.cell]; exact h i hi⟩
theorem four_get (a b c d : Int) : ∀ i, i < [a, b, c, d].length → (#[Value.int .i64 a, .int .i64 b, .int .i64 c, .int .i64 d])[i]? = some (.int .i64 ([a, b, c, d].getD i 0)) := by
  intro i hi
  match i, hi with
  | 0, _ => rfl
  | 1, _ => rfl
  | 2, _ => rfl
  | 3, _ => rfl
set_option maxRecDepth 100000 in
set_option maxHeartbeats 4000000 in
theorem known_any (w : World) : Calls Try.prog 31 #[] w fun e w' => e = .returned (.bool true) ∧ Below w.heap.size w w' := by
  have z1 : ∀ w, (zeroValue 56).run Try.prog w = .ok (.agg #[.int .u64 0, .int .u64 0]) w := (zero_of_info zero56).1
  have hB : Below w.heap.size w w := Below.refl _ _
  go_enter Try.func31, Try.ntmps31
  go_wp2_with (first
    | (go_at_call 28; (with_reducible refine (mul_lit 9223372036854775808 6 _ _ 3 0 ?_ ?_ ?_ ?_ (by decide) (by decide) _).mono ?_); (rfl); (rfl); (rfl); (rfl); rintro e w1 ⟨rfl, hw⟩; rw [hw]; clear hw)
    | (go_at_call 38; (with_reducible refine (of_lit _ _ ?_ ?_ _).mono ?_); (decide); (decide); rintro e w1 ⟨rfl, hw⟩; (try replace ho := ho.below hw ho.lt); have hB1 := bnext hB hw; clear hB hw; have hB := hB1; clear hB1)
    | (go_at_call 32; first | ((with_reducible refine (compare_lit (1, 3) (2, 6) _ _ _ _ (0) ?_ ?_ ?_ ?_ ?_ ?_ ?_ ?_ ?_ _).mono ?_); (rfl); (rfl); (rfl); (rfl); (exact ⟨by decide, by decide⟩); (exact ⟨by decide, by decide⟩); (decide); (decide); (decide); rintro e w1 ⟨rfl, hw⟩; (try replace ho := ho.below hw ho.lt); have hB1 := bnext hB hw; clear hB hw; have hB := hB1; clear hB1) | ((with_reducible refine (compare_lit (18446744073709551615, 18446744073709551614) (18446744073709551614, 18446744073709551613) _ _ _ _ (-1) ?_ ?_ ?_ ?_ ?_ ?_ ?_ ?_ ?_ _).mono ?_); (rfl); (rfl); (rfl); (rfl); (exact ⟨by decide, by decide⟩); (exact ⟨by decide, by decide⟩); (decide); (decide); (decide); rintro e w1 ⟨rfl, hw⟩; (try replace ho := ho.below hw ho.lt); have hB1 := bnext hB hw; clear hB hw; have hB := hB1; clear hB1))
    | (go_at_call 35; first | ((with_reducible refine (best_nil _).mono ?_); rintro e w1 ⟨rfl, hw⟩; (try replace ho := ho.below hw ho.lt); have hB1 := bnext hB hw; clear hB hw; have hB := hB1; clear hB1) | ((with_reducible refine (best_lit [(1, 2), (5, 0), (3, 0)] (g64_lit _ (by decide)) (by decide) _ 3 3 1 ?_ ?_ ?_ ?_ _ ?_).mono ?_); (rfl); (decide); (decide); (rfl); (exact frc_new _ _ _ _ (fun i hi => match i, hi with | 0, _ => ⟨rfl, rfl⟩ | 1, _ => ⟨rfl, rfl⟩ | 2, _ => ⟨rfl, rfl⟩)); rintro e w1 ⟨rfl, hw⟩; have hB1 := bnext (below_new hB _) hw; clear hB hw; have hB := hB1; clear hB1))
    | (go_at_call 36; (with_reducible refine (order4 _ _ _ ?_).mono ?_); (exact frc_new _ _ _ _ (fun i hi => match i, hi with | 0, _ => ⟨rfl, rfl⟩ | 1, _ => ⟨rfl, rfl⟩ | 2, _ => ⟨rfl, rfl⟩ | 3, _ => ⟨rfl, rfl⟩)); rintro e w2 ⟨bo, rfl, ho, hw⟩; have hB1 := bnext (below_new hB _) hw; have hB0 := hB; clear hB hw; have hB := hB1; clear hB1; clear hB0)
    | (go_at_call 37; (with_reducible refine (reduce_lit (6, 4) _ _ 3 2 ?_ ?_ ?_ ?_ ?_ ?_ _).mono ?_); (rfl); (rfl); (rfl); (rfl); (exact ⟨by decide, by decide⟩); (decide); rintro e w4 ⟨rfl, hw⟩; (try replace ho := ho.below hw ho.lt); have hB1 := bnext hB hw; clear hB hw; have hB := hB1; clear hB1))
  have hB2 := below_new hB (.cells #[.int .u64 3, .int .u64 2] 56)
  have ho2 := ho.alloc (.cells #[.int .u64 3, .int .u64 2] 56)
  have h13 := Blk.new w4 #[.int .u64 3, .int .u64 2] 56
  clear hB ho
  generalize w4.alloc (.cells #[.int .u64 3, .int .u64 2] 56) = V at *
  generalize w4.heap.size = b13 at *
  have rg : ∀ (W : World), Blk W b13 #[.int .u64 3, .int .u64 2] 56 → W.cell? ⟨b13, 0, none⟩ = some (.int .u64 3) ∧ W.cell? ⟨b13, 1, none⟩ = some (.int .u64 2) := fun W h => ⟨h.cell 0, h.cell 1⟩
  have s0 := rg _ h13.drew
  have s1 := rg _ (h13.alloc (.cells #[.int .i64 1, .int .i64 3, .int .i64 0, .int .i64 2] 3)).drew
  have l13 := h13.lt
  go_region_held3 (fun w' => w'.cell? ⟨b13, 0, none⟩ = some (.int .u64 3) ∧ w'.cell? ⟨b13, 1, none⟩ = some (.int .u64 2)) (assumption)
    (first
      | (go_at_call 39; (with_reducible refine (same_any (some ⟨bo, 0, none⟩) (some ⟨V.heap.size, 0, none⟩) [1, 3, 0, 2] [1, 3, 0, 2] 4 4 _ ?_ ?_ ?_ 4 4 ?_ ?_).mono ?_); (exact ints_blk (ho2.alloc _).drew (four_get _ _ _ _)); (exact (ints_new _ _ _ _ (four_get _ _ _ _)).drew); (decide); (rfl); (rfl); rintro e w5 ⟨rfl, hw5⟩; have hB5 := bnext (below_new hB2 _).drew hw5; have h5 := (h13.alloc (.cells #[.int .i64 1, .int .i64 3, .int .i64 0, .int .i64 2] 3)).drew.below hw5 (by simp; omega); have s2 := rg _ h5)
      | (go_at_call 38; (with_reducible refine (of_lit _ _ ?_ ?_ _).mono ?_); (decide); (decide); rintro e w6 ⟨rfl, hw6⟩; have hB6 := bnext hB5 hw6; have h6 := h5.below hw6 h5.lt; have s3 := rg _ h6))
  go_wp2
  go_ret
  exact ⟨rfl, hB6⟩
end Go.Proofs.Ytdnpbemkobhlcaa
