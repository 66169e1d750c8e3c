/-
  The statement HarqtxTimes, the walk.
-/
import Derived.Test.YthbpmofabcilhaaHarL
namespace Go.Proofs.Ythbpmofabcilhaa
open Go.RowKit
attribute [-go_sem] Instr.build

set_option maxRecDepth 100000 in
set_option maxHeartbeats 4000000 in
theorem times_bad (s f t : Int) (h : ¬ (0 ≤ s ∧ s < 1073741824)) (w : World) : Calls Try.prog 4 #[.int .i64 s, .int .i64 f, .int .i64 t] w fun e w' => e = .returned (.bool true) ∧ Below w.heap.size w w' := by
  have hz := z32
  go_enter Try.func4, Try.ntmps4
  go_wp2_with fail
  (with_reducible refine (new_lit 3 _ ?_ ?_ ?_ _).mono ?_)
  · rfl
  · first | decide | exact (by decide : (3 : Nat) ≠ 0) | exact (by decide : (0 : Nat) + 1 ≠ 3 ∧ (0 : Nat) ≤ 16) | exact (by decide : (1 : Nat) ≤ 1000000)
  · first | decide | exact (by decide : (3 : Nat) ≠ 0) | exact (by decide : (0 : Nat) + 1 ≠ 3 ∧ (0 : Nat) ≤ 16) | exact (by decide : (1 : Nat) ≤ 1000000)
  rintro e w1 ⟨rfl, hP1, hB1, hs1⟩
  go_wp2_with fail
  (with_reducible refine (load_lit w.heap.size _ _ [1] 1 _ _ _ ⟨3, 1, [1], 0, 0, 0⟩ 0 ?_ (hP1.below (alloc_below _ _)) ?_ (byt_new _ _ _ ?_) ?_ ?_ ?_ ?_).mono ?_)
  · rfl
  · first | decide | exact (by decide : (3 : Nat) ≠ 0) | exact (by decide : (0 : Nat) + 1 ≠ 3 ∧ (0 : Nat) ≤ 16) | exact (by decide : (1 : Nat) ≤ 1000000)
  · rfl
  · exact fun h => nomatch h
  · first | decide | exact (by decide : (3 : Nat) ≠ 0) | exact (by decide : (0 : Nat) + 1 ≠ 3 ∧ (0 : Nat) ≤ 16) | exact (by decide : (1 : Nat) ≤ 1000000)
  · rfl
  · rfl
  rintro e w2 ⟨v2, rfl, hP2, ⟨hb2, _⟩⟩
  have hB2 := Lib.hid (below_but (below_new hB1 _) hb2 (Nat.le_refl _) (by simp; omega))
  have hs2 : w.heap.size < w2.heap.size := hP2.1.lt
  have HP2 := Lib.hid hP2
  clear hb2 hP1 hP2 hB1 hs1
  go_wp2_with fail
  (with_reducible refine (send_arg w.heap.size v2 _ s _ HP2.out ?_ h).mono ?_)
  · first | decide | exact (by decide : (3 : Nat) ≠ 0) | exact (by decide : (0 : Nat) + 1 ≠ 3 ∧ (0 : Nat) ≤ 16) | exact (by decide : (1 : Nat) ≤ 1000000)
  rintro e w3 ⟨rfl, hP3, hb3⟩
  have hB3 := Lib.hid (below_but hB2.out hb3.1 (Nat.le_refl _) (by omega))
  have hs3 : w.heap.size < w3.heap.size := hP3.1.lt
  have HP3 := Lib.hid hP3
  have htz : trZ = #[.slice none 0 0, .int .i64 0, .int .i64 0, .bool false] := rfl
  rw [htz]
  clear hb3 hP3 HP2 hB2 htz
  have hc : s < 0 ∨ (¬ s < 0 ∧ 1073741824 ≤ s) := by omega
  clear h
  rcases hc with hc | ⟨hc0, hc⟩
  all_goals
    go_wp2_with fail
    have hQ3 := HP3.out.below (alloc_below w3 (.cells #[.slice none 0 0, .int .i64 0, .int .i64 0, .bool false] 32))
    (with_reducible refine (state_any w.heap.size v2 _ _ hQ3.1 ?_).mono ?_)
    · first | decide | exact (by decide : (3 : Nat) ≠ 0) | exact (by decide : (0 : Nat) + 1 ≠ 3 ∧ (0 : Nat) ≤ 16) | exact (by decide : (1 : Nat) ≤ 1000000)
    rintro e w' ⟨rfl, hw⟩
    subst w'
    have B4 := Lib.hid (below_new hB3.out (.cells #[.slice none 0 0, .int .i64 0, .int .i64 0, .bool false] 32))
    clear hQ3 HP3
    go_wp2_with fail
    (with_reducible refine (known_any _).mono ?_)
    rintro e wk ⟨rfl, hbk⟩
    go_wp2
    go_ret
    exact ⟨rfl, bnext B4.out hbk⟩

set_option maxRecDepth 100000 in
set_option maxHeartbeats 4000000 in
theorem times_two (s : Nat) (hs : s < 1073741824) (f t : Int) (h : f < 0 ∨ (¬ f < 0 ∧ 1073741824 ≤ f) ∨ (¬ f < 0 ∧ f < 1073741824 ∧ t < 0) ∨ (¬ f < 0 ∧ f < 1073741824 ∧ ¬ t < 0 ∧ 1073741824 ≤ t)) (w : World) : Calls Try.prog 4 #[.int .i64 s, .int .i64 f, .int .i64 t] w fun e w' => e = .returned (.bool true) ∧ Below w.heap.size w w' := by
  have hz := z32
  go_enter Try.func4, Try.ntmps4
  go_wp2_with fail
  (with_reducible refine (new_lit 3 _ ?_ ?_ ?_ _).mono ?_)
  · rfl
  · first | decide | exact (by decide : (3 : Nat) ≠ 0) | exact (by decide : (0 : Nat) + 1 ≠ 3 ∧ (0 : Nat) ≤ 16) | exact (by decide : (1 : Nat) ≤ 1000000)
  · first | decide | exact (by decide : (3 : Nat) ≠ 0) | exact (by decide : (0 : Nat) + 1 ≠ 3 ∧ (0 : Nat) ≤ 16) | exact (by decide : (1 : Nat) ≤ 1000000)
  rintro e w1 ⟨rfl, hP1, hB1, hs1⟩
  go_wp2_with fail
  (with_reducible refine (load_lit w.heap.size _ _ [1] 1 _ _ _ ⟨3, 1, [1], 0, 0, 0⟩ 0 ?_ (hP1.below (alloc_below _ _)) ?_ (byt_new _ _ _ ?_) ?_ ?_ ?_ ?_).mono ?_)
  · rfl
  · first | decide | exact (by decide : (3 : Nat) ≠ 0) | exact (by decide : (0 : Nat) + 1 ≠ 3 ∧ (0 : Nat) ≤ 16) | exact (by decide : (1 : Nat) ≤ 1000000)
  · rfl
  · exact fun h => nomatch h
  · first | decide | exact (by decide : (3 : Nat) ≠ 0) | exact (by decide : (0 : Nat) + 1 ≠ 3 ∧ (0 : Nat) ≤ 16) | exact (by decide : (1 : Nat) ≤ 1000000)
  · rfl
  · rfl
  rintro e w2 ⟨v2, rfl, hP2, ⟨hb2, _⟩⟩
  have hB2 := Lib.hid (below_but (below_new hB1 _) hb2 (Nat.le_refl _) (by simp; omega))
  have hs2 : w.heap.size < w2.heap.size := hP2.1.lt
  have HP2 := Lib.hid hP2
  clear hb2 hP1 hP2 hB1 hs1
  go_wp2_with fail
  (with_reducible refine (send_lit w.heap.size v2 _ _ _ ⟨3, 2, [1], 0, s, s⟩ 0 0 true HP2.out ?_ ?_ ?_ ?_ ?_ ?_ ?_ ?_).mono ?_)
  · first | decide | exact (by decide : (3 : Nat) ≠ 0) | exact (by decide : (0 : Nat) + 1 ≠ 3 ∧ (0 : Nat) ≤ 16) | exact (by decide : (1 : Nat) ≤ 1000000)
  · exact ⟨by omega, by omega⟩
  · rfl
  · first | decide | exact (by decide : (3 : Nat) ≠ 0) | exact (by decide : (0 : Nat) + 1 ≠ 3 ∧ (0 : Nat) ≤ 16) | exact (by decide : (1 : Nat) ≤ 1000000)
  · rfl
  · rfl
  · rfl
  · simp [nowF]
  rintro e w3 ⟨A3, k3, c3, rfl, hu3, hP3, hb3⟩
  have hB3 := Lib.hid (below_but hB2.out hb3 (Nat.le_refl _) (by omega))
  have hs3 : w.heap.size < w3.heap.size := hP3.1.lt
  have HP3 := Lib.hid hP3
  clear hb3 hP3 hu3 HP2 hB2
  have hw4 := IntWalk.i64_in ((s : Int) + 4) (by omega)
  go_wp2_with fail
  have hQ3 := HP3.out.below (alloc_below w3 (.cells #[.slice A3 k3 c3, .int .i64 0, .int .i64 0, .bool true] 32))
  (with_reducible refine (due_wait w.heap.size v2 _ s _ hQ3.1 ?_ ?_ ?_ ?_).mono ?_)
  · first | decide | exact (by decide : (3 : Nat) ≠ 0) | exact (by decide : (0 : Nat) + 1 ≠ 3 ∧ (0 : Nat) ≤ 16) | exact (by decide : (1 : Nat) ≤ 1000000)
  · omega
  · rfl
  · rfl
  rintro e w' ⟨rfl, hw⟩
  subst w'
  have B4 := Lib.hid (below_new hB3.out (.cells #[.slice A3 k3 c3, .int .i64 0, .int .i64 0, .bool true] 32))
  have HQ3 := Lib.hid hQ3
  clear hQ3 HP3
  rcases h with h | ⟨h0, h⟩ | ⟨h0, h1, h⟩ | ⟨h0, h1, h2, h⟩
  all_goals
    go_wp2_with fail
    (with_reducible refine (known_any _).mono ?_)
    rintro e wk ⟨rfl, hbk⟩
    go_wp2
    go_ret
    exact ⟨rfl, bnext B4.out hbk⟩

set_option maxRecDepth 100000 in
set_option maxHeartbeats 4000000 in
theorem times_next (s : Nat) (f t : Int) (hs : s < 1073741824) (hf0 : 0 ≤ f) (hf : f < 1073741824) (ht0 : 0 ≤ t) (ht : t < 1073741824) (h : (s : Int) + 4 ≤ f) (w : World) : Calls Try.prog 4 #[.int .i64 s, .int .i64 f, .int .i64 t] w fun e w' => e = .returned (.bool true) ∧ Below w.heap.size w w' := by
  have hz := z32
  go_enter Try.func4, Try.ntmps4
  go_wp2_with fail
  (with_reducible refine (new_lit 3 _ ?_ ?_ ?_ _).mono ?_)
  · rfl
  · first | decide | exact (by decide : (3 : Nat) ≠ 0) | exact (by decide : (0 : Nat) + 1 ≠ 3 ∧ (0 : Nat) ≤ 16) | exact (by decide : (1 : Nat) ≤ 1000000)
  · first | decide | exact (by decide : (3 : Nat) ≠ 0) | exact (by decide : (0 : Nat) + 1 ≠ 3 ∧ (0 : Nat) ≤ 16) | exact (by decide : (1 : Nat) ≤ 1000000)
  rintro e w1 ⟨rfl, hP1, hB1, hs1⟩
  go_wp2_with fail
  (with_reducible refine (load_lit w.heap.size _ _ [1] 1 _ _ _ ⟨3, 1, [1], 0, 0, 0⟩ 0 ?_ (hP1.below (alloc_below _ _)) ?_ (byt_new _ _ _ ?_) ?_ ?_ ?_ ?_).mono ?_)
  · rfl
  · first | decide | exact (by decide : (3 : Nat) ≠ 0) | exact (by decide : (0 : Nat) + 1 ≠ 3 ∧ (0 : Nat) ≤ 16) | exact (by decide : (1 : Nat) ≤ 1000000)
  · rfl
  · exact fun h => nomatch h
  · first | decide | exact (by decide : (3 : Nat) ≠ 0) | exact (by decide : (0 : Nat) + 1 ≠ 3 ∧ (0 : Nat) ≤ 16) | exact (by decide : (1 : Nat) ≤ 1000000)
  · rfl
  · rfl
  rintro e w2 ⟨v2, rfl, hP2, ⟨hb2, _⟩⟩
  have hB2 := Lib.hid (below_but (below_new hB1 _) hb2 (Nat.le_refl _) (by simp; omega))
  have hs2 : w.heap.size < w2.heap.size := hP2.1.lt
  have HP2 := Lib.hid hP2
  clear hb2 hP1 hP2 hB1 hs1
  go_wp2_with fail
  (with_reducible refine (send_lit w.heap.size v2 _ _ _ ⟨3, 2, [1], 0, s, s⟩ 0 0 true HP2.out ?_ ?_ ?_ ?_ ?_ ?_ ?_ ?_).mono ?_)
  · first | decide | exact (by decide : (3 : Nat) ≠ 0) | exact (by decide : (0 : Nat) + 1 ≠ 3 ∧ (0 : Nat) ≤ 16) | exact (by decide : (1 : Nat) ≤ 1000000)
  · exact ⟨by omega, by omega⟩
  · rfl
  · first | decide | exact (by decide : (3 : Nat) ≠ 0) | exact (by decide : (0 : Nat) + 1 ≠ 3 ∧ (0 : Nat) ≤ 16) | exact (by decide : (1 : Nat) ≤ 1000000)
  · rfl
  · rfl
  · rfl
  · simp [nowF]
  rintro e w3 ⟨A3, k3, c3, rfl, hu3, hP3, hb3⟩
  have hB3 := Lib.hid (below_but hB2.out hb3 (Nat.le_refl _) (by omega))
  have hs3 : w.heap.size < w3.heap.size := hP3.1.lt
  have HP3 := Lib.hid hP3
  clear hb3 hP3 hu3 HP2 hB2
  have hw4 := IntWalk.i64_in ((s : Int) + 4) (by omega)
  go_wp2_with fail
  have hQ3 := HP3.out.below (alloc_below w3 (.cells #[.slice A3 k3 c3, .int .i64 0, .int .i64 0, .bool true] 32))
  (with_reducible refine (due_wait w.heap.size v2 _ s _ hQ3.1 ?_ ?_ ?_ ?_).mono ?_)
  · first | decide | exact (by decide : (3 : Nat) ≠ 0) | exact (by decide : (0 : Nat) + 1 ≠ 3 ∧ (0 : Nat) ≤ 16) | exact (by decide : (1 : Nat) ≤ 1000000)
  · omega
  · rfl
  · rfl
  rintro e w' ⟨rfl, hw⟩
  subst w'
  have B4 := Lib.hid (below_new hB3.out (.cells #[.slice A3 k3 c3, .int .i64 0, .int .i64 0, .bool true] 32))
  have HQ3 := Lib.hid hQ3
  clear hQ3 HP3
  go_wp2_with fail
  (with_reducible refine (fbn_lit w.heap.size v2 _ _ _ _ ⟨3, 1, [1], 1, f.toNat, s⟩ HQ3.out ?_ ?_ ?_ ?_ ?_ ?_ ?_).mono ?_)
  · first | decide | exact (by decide : (3 : Nat) ≠ 0) | exact (by decide : (0 : Nat) + 1 ≠ 3 ∧ (0 : Nat) ≤ 16) | exact (by decide : (1 : Nat) ≤ 1000000)
  · exact ⟨by omega, by omega⟩
  · first | decide | exact (by decide : (3 : Nat) ≠ 0) | exact (by decide : (0 : Nat) + 1 ≠ 3 ∧ (0 : Nat) ≤ 16) | exact (by decide : (1 : Nat) ≤ 1000000)
  · exact ⟨by show s ≤ _; omega, by show s ≤ _; omega⟩
  · exact ⟨rfl, by show s + 4 ≤ max s f.toNat; omega⟩
  · first | decide | exact (by decide : (3 : Nat) ≠ 0) | exact (by decide : (0 : Nat) + 1 ≠ 3 ∧ (0 : Nat) ≤ 16) | exact (by decide : (1 : Nat) ≤ 1000000)
  · show (⟨3, 1, [1], 1, f.toNat, s⟩ : Hq) = ⟨3, 1, [1], 1, max s f.toNat, s⟩
    congr 1
    omega
  rintro e w5 ⟨rfl, hP5, hb5⟩
  have B5 := Lib.hid (below_but B4.out hb5 (Nat.le_refl _) (by simp; omega))
  have hs5 : w.heap.size < w5.heap.size := hP5.1.lt
  have HP5 := Lib.hid hP5
  have hge : decide ((s : Int) + 4 ≤ f) = true := decide_eq_true (by omega)
  clear hb5 hP5 HQ3 B4
  go_wp2_with fail
  (with_reducible refine (send_lit w.heap.size v2 _ _ _ ⟨3, 2, [1], 1, max f.toNat t.toNat, max f.toNat t.toNat⟩ 2 1 false HP5.out ?_ ?_ ?_ ?_ ?_ ?_ ?_ ?_).mono ?_)
  · first | decide | exact (by decide : (3 : Nat) ≠ 0) | exact (by decide : (0 : Nat) + 1 ≠ 3 ∧ (0 : Nat) ≤ 16) | exact (by decide : (1 : Nat) ≤ 1000000)
  · exact ⟨by omega, by omega⟩
  · rfl
  · first | decide | exact (by decide : (3 : Nat) ≠ 0) | exact (by decide : (0 : Nat) + 1 ≠ 3 ∧ (0 : Nat) ≤ 16) | exact (by decide : (1 : Nat) ≤ 1000000)
  · rfl
  · rfl
  · rfl
  · show (⟨3, 2, [1], 1, max f.toNat t.toNat, max f.toNat t.toNat⟩ : Hq) = ⟨3, 2, [1], 1, max f.toNat t.toNat, max f.toNat t.toNat⟩
    rfl
  rintro e w6 ⟨A6, k6, c6, rfl, hu6, hP6, hb6⟩
  have B6 := Lib.hid (below_but B5.out hb6 (Nat.le_refl _) (by omega))
  have HP6 := Lib.hid hP6
  clear hb6 hP6 hu6 HP5 B5
  go_wp2_with fail
  have hQ6 := HP6.out.below (alloc_below w6 (.cells #[.slice A6 k6 c6, .int .i64 2, .int .i64 1, .bool false] 32))
  (with_reducible refine (due_wait w.heap.size v2 _ (max f.toNat t.toNat) _ hQ6.1 ?_ ?_ ?_ ?_).mono ?_)
  · first | decide | exact (by decide : (3 : Nat) ≠ 0) | exact (by decide : (0 : Nat) + 1 ≠ 3 ∧ (0 : Nat) ≤ 16) | exact (by decide : (1 : Nat) ≤ 1000000)
  · omega
  · rfl
  · rfl
  rintro e w' ⟨rfl, hw⟩
  subst w'
  have B7 := Lib.hid (below_new B6.out (.cells #[.slice A6 k6 c6, .int .i64 2, .int .i64 1, .bool false] 32))
  clear hQ6 HP6
  have hm := IntWalk.i64_in ((max f.toNat t.toNat : Nat) + 4 : Int) (by omega)
  rcases Int.lt_or_le f t with hc | hc
  · rw [show ((max f.toNat t.toNat : Nat) : Int) = t by omega] at hm ⊢
    go_wp2_with fail
    (with_reducible refine (known_any _).mono ?_)
    rintro e wk ⟨rfl, hbk⟩
    go_wp2
    go_ret
    exact ⟨rfl, bnext B7.out hbk⟩
  · rw [show ((max f.toNat t.toNat : Nat) : Int) = f by omega] at hm ⊢
    go_wp2_with fail
    (with_reducible refine (known_any _).mono ?_)
    rintro e wk ⟨rfl, hbk⟩
    go_wp2
    go_ret
    exact ⟨rfl, bnext B7.out hbk⟩

set_option maxRecDepth 100000 in
set_option maxHeartbeats 4000000 in
theorem times_early (s : Nat) (f t : Int) (hs : s < 1073741824) (hf0 : 0 ≤ f) (hf : f < 1073741824) (ht0 : 0 ≤ t) (ht : t < 1073741824) (h : f < (s : Int) + 4) (w : World) : Calls Try.prog 4 #[.int .i64 s, .int .i64 f, .int .i64 t] w fun e w' => e = .returned (.bool true) ∧ Below w.heap.size w w' := by
  have hz := z32
  go_enter Try.func4, Try.ntmps4
  go_wp2_with fail
  (with_reducible refine (new_lit 3 _ ?_ ?_ ?_ _).mono ?_)
  · rfl
  · first | decide | exact (by decide : (3 : Nat) ≠ 0) | exact (by decide : (0 : Nat) + 1 ≠ 3 ∧ (0 : Nat) ≤ 16) | exact (by decide : (1 : Nat) ≤ 1000000)
  · first | decide | exact (by decide : (3 : Nat) ≠ 0) | exact (by decide : (0 : Nat) + 1 ≠ 3 ∧ (0 : Nat) ≤ 16) | exact (by decide : (1 : Nat) ≤ 1000000)
  rintro e w1 ⟨rfl, hP1, hB1, hs1⟩
  go_wp2_with fail
  (with_reducible refine (load_lit w.heap.size _ _ [1] 1 _ _ _ ⟨3, 1, [1], 0, 0, 0⟩ 0 ?_ (hP1.below (alloc_below _ _)) ?_ (byt_new _ _ _ ?_) ?_ ?_ ?_ ?_).mono ?_)
  · rfl
  · first | decide | exact (by decide : (3 : Nat) ≠ 0) | exact (by decide : (0 : Nat) + 1 ≠ 3 ∧ (0 : Nat) ≤ 16) | exact (by decide : (1 : Nat) ≤ 1000000)
  · rfl
  · exact fun h => nomatch h
  · first | decide | exact (by decide : (3 : Nat) ≠ 0) | exact (by decide : (0 : Nat) + 1 ≠ 3 ∧ (0 : Nat) ≤ 16) | exact (by decide : (1 : Nat) ≤ 1000000)
  · rfl
  · rfl
  rintro e w2 ⟨v2, rfl, hP2, ⟨hb2, _⟩⟩
  have hB2 := Lib.hid (below_but (below_new hB1 _) hb2 (Nat.le_refl _) (by simp; omega))
  have hs2 : w.heap.size < w2.heap.size := hP2.1.lt
  have HP2 := Lib.hid hP2
  clear hb2 hP1 hP2 hB1 hs1
  go_wp2_with fail
  (with_reducible refine (send_lit w.heap.size v2 _ _ _ ⟨3, 2, [1], 0, s, s⟩ 0 0 true HP2.out ?_ ?_ ?_ ?_ ?_ ?_ ?_ ?_).mono ?_)
  · first | decide | exact (by decide : (3 : Nat) ≠ 0) | exact (by decide : (0 : Nat) + 1 ≠ 3 ∧ (0 : Nat) ≤ 16) | exact (by decide : (1 : Nat) ≤ 1000000)
  · exact ⟨by omega, by omega⟩
  · rfl
  · first | decide | exact (by decide : (3 : Nat) ≠ 0) | exact (by decide : (0 : Nat) + 1 ≠ 3 ∧ (0 : Nat) ≤ 16) | exact (by decide : (1 : Nat) ≤ 1000000)
  · rfl
  · rfl
  · rfl
  · simp [nowF]
  rintro e w3 ⟨A3, k3, c3, rfl, hu3, hP3, hb3⟩
  have hB3 := Lib.hid (below_but hB2.out hb3 (Nat.le_refl _) (by omega))
  have hs3 : w.heap.size < w3.heap.size := hP3.1.lt
  have HP3 := Lib.hid hP3
  clear hb3 hP3 hu3 HP2 hB2
  have hw4 := IntWalk.i64_in ((s : Int) + 4) (by omega)
  go_wp2_with fail
  have hQ3 := HP3.out.below (alloc_below w3 (.cells #[.slice A3 k3 c3, .int .i64 0, .int .i64 0, .bool true] 32))
  (with_reducible refine (due_wait w.heap.size v2 _ s _ hQ3.1 ?_ ?_ ?_ ?_).mono ?_)
  · first | decide | exact (by decide : (3 : Nat) ≠ 0) | exact (by decide : (0 : Nat) + 1 ≠ 3 ∧ (0 : Nat) ≤ 16) | exact (by decide : (1 : Nat) ≤ 1000000)
  · omega
  · rfl
  · rfl
  rintro e w' ⟨rfl, hw⟩
  subst w'
  have B4 := Lib.hid (below_new hB3.out (.cells #[.slice A3 k3 c3, .int .i64 0, .int .i64 0, .bool true] 32))
  have HQ3 := Lib.hid hQ3
  clear hQ3 HP3
  go_wp2_with fail
  (with_reducible refine (fbs_lit w.heap.size v2 _ _ _ _ ⟨3, 2, [1], 0, max s f.toNat, s⟩ HQ3.out ?_ ?_ ?_ ?_ ?_ ?_).mono ?_)
  · first | decide | exact (by decide : (3 : Nat) ≠ 0) | exact (by decide : (0 : Nat) + 1 ≠ 3 ∧ (0 : Nat) ≤ 16) | exact (by decide : (1 : Nat) ≤ 1000000)
  · exact ⟨by omega, by omega⟩
  · first | decide | exact (by decide : (3 : Nat) ≠ 0) | exact (by decide : (0 : Nat) + 1 ≠ 3 ∧ (0 : Nat) ≤ 16) | exact (by decide : (1 : Nat) ≤ 1000000)
  · exact ⟨by show s ≤ _; omega, by show s ≤ _; omega⟩
  · exact .inr ⟨rfl, by show max s f.toNat < s + 4; omega⟩
  · show (⟨3, 2, [1], 0, max s f.toNat, s⟩ : Hq) = ⟨3, 2, [1], 0, max s f.toNat, s⟩
    rfl
  rintro e w5 ⟨rfl, hP5, hb5⟩
  have B5 := Lib.hid (below_but B4.out hb5 (Nat.le_refl _) (by simp; omega))
  have hs5 : w.heap.size < w5.heap.size := hP5.1.lt
  have HP5 := Lib.hid hP5
  have hge : decide ((s : Int) + 4 ≤ f) = false := decide_eq_false (by omega)
  clear hb5 hP5 HQ3 B4
  go_wp2_with fail
  rcases Int.lt_or_le t ((s : Int) + 4) with hc | hc
  · have hge2 : decide ((s : Int) + 4 ≤ t) = false := decide_eq_false (by omega)
    (with_reducible refine (fbs_lit w.heap.size v2 _ _ _ _ ⟨3, 2, [1], 0, max (max s f.toNat) t.toNat, s⟩ HP5.out ?_ ?_ ?_ ?_ ?_ ?_).mono ?_)
    · first | decide | exact (by decide : (3 : Nat) ≠ 0) | exact (by decide : (0 : Nat) + 1 ≠ 3 ∧ (0 : Nat) ≤ 16) | exact (by decide : (1 : Nat) ≤ 1000000)
    · exact ⟨by omega, by omega⟩
    · first | decide | exact (by decide : (3 : Nat) ≠ 0) | exact (by decide : (0 : Nat) + 1 ≠ 3 ∧ (0 : Nat) ≤ 16) | exact (by decide : (1 : Nat) ≤ 1000000)
    · exact ⟨by show s ≤ _; omega, by show max s f.toNat ≤ _; omega⟩
    · exact .inr ⟨rfl, by show max (max s f.toNat) t.toNat < s + 4; omega⟩
    · show (⟨3, 2, [1], 0, max (max s f.toNat) t.toNat, s⟩ : Hq) = ⟨3, 2, [1], 0, max (max s f.toNat) t.toNat, s⟩
      rfl
    rintro e w6 ⟨rfl, hP6, hb6⟩
    have B6 := Lib.hid (below_but B5.out hb6 (Nat.le_refl _) (by omega))
    clear hb6 hP6 HP5 B5
    go_wp2_with fail
    (with_reducible refine (known_any _).mono ?_)
    rintro e wk ⟨rfl, hbk⟩
    go_wp2
    go_ret
    exact ⟨rfl, bnext B6.out hbk⟩
  · have hge2 : decide ((s : Int) + 4 ≤ t) = true := decide_eq_true (by omega)
    (with_reducible refine (fbn_lit w.heap.size v2 _ _ _ _ ⟨3, 1, [1], 1, max (max s f.toNat) t.toNat, s⟩ HP5.out ?_ ?_ ?_ ?_ ?_ ?_ ?_).mono ?_)
    · first | decide | exact (by decide : (3 : Nat) ≠ 0) | exact (by decide : (0 : Nat) + 1 ≠ 3 ∧ (0 : Nat) ≤ 16) | exact (by decide : (1 : Nat) ≤ 1000000)
    · exact ⟨by omega, by omega⟩
    · first | decide | exact (by decide : (3 : Nat) ≠ 0) | exact (by decide : (0 : Nat) + 1 ≠ 3 ∧ (0 : Nat) ≤ 16) | exact (by decide : (1 : Nat) ≤ 1000000)
    · exact ⟨by show s ≤ _; omega, by show max s f.toNat ≤ _; omega⟩
    · exact ⟨rfl, by show s + 4 ≤ max (max s f.toNat) t.toNat; omega⟩
    · first | decide | exact (by decide : (3 : Nat) ≠ 0) | exact (by decide : (0 : Nat) + 1 ≠ 3 ∧ (0 : Nat) ≤ 16) | exact (by decide : (1 : Nat) ≤ 1000000)
    · show (⟨3, 1, [1], 1, max (max s f.toNat) t.toNat, s⟩ : Hq) = ⟨3, 1, [1], 1, max (max s f.toNat) t.toNat, s⟩
      rfl
    rintro e w6 ⟨rfl, hP6, hb6⟩
    have B6 := Lib.hid (below_but B5.out hb6 (Nat.le_refl _) (by omega))
    clear hb6 hP6 HP5 B5
    go_wp2_with fail
    (with_reducible refine (known_any _).mono ?_)
    rintro e wk ⟨rfl, hbk⟩
    go_wp2
    go_ret
    exact ⟨rfl, bnext B6.out hbk⟩
theorem walk_HarqtxTimes (s : Int) (_ : (Lit.int .i64 s).wf = true) (f : Int) (_ : (Lit.int .i64 f).wf = true) (t : Int) (_ : (Lit.int .i64 t).wf = true) (w : World) : Calls Try.prog 4 #[.int .i64 s, .int .i64 f, .int .i64 t] w fun e w' => e = .returned (.bool true) ∧ Below w.heap.size w w' := by
  by_cases h : 0 ≤ s ∧ s < 1073741824
  · obtain ⟨s', rfl⟩ : ∃ n : Nat, s = n := ⟨s.toNat, by omega⟩
    by_cases hf : 0 ≤ f ∧ f < 1073741824
    · by_cases ht : 0 ≤ t ∧ t < 1073741824
      · by_cases hc : (s' : Int) + 4 ≤ f
        · exact times_next s' f t (by omega) hf.1 hf.2 ht.1 ht.2 hc w
        · exact times_early s' f t (by omega) hf.1 hf.2 ht.1 ht.2 (by omega) w
      · exact times_two s' (by omega) f t (by omega) w
    · exact times_two s' (by omega) f t (by omega) w
  · exact times_bad s f t h w
end Go.Proofs.Ythbpmofabcilhaa
