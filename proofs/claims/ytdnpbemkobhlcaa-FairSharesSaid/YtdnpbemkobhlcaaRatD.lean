/-
  Fractions, walks: slices of fractions; the best one.
-/
import Derived.Test.YtdnpbemkobhlcaaRatC
import Derived.Deep.RegionWith
namespace Go.Proofs.Ytdnpbemkobhlcaa
open Go.RowKit
attribute [-go_sem] Instr.build

def gf (l : List (Nat × Nat)) (i : Nat) : Nat × Nat := l.getD i (1, 1)
/-- The cells at address a are the fractions l. -/
def Frc (w : World) (a : Option Addr) (l : List (Nat × Nat)) : Prop :=
  0 < l.length → ∃ b o, a = some ⟨b, o, none⟩ ∧ b < w.heap.size ∧ ∀ i, i < l.length → w.cell? ⟨b, o + i * 2, none⟩ = some (.int .u64 (gf l i).1) ∧ w.cell? ⟨b, o + i * 2 + 1, none⟩ = some (.int .u64 (gf l i).2)
theorem Frc.below {w w' : World} {a : Option Addr} {l : List (Nat × Nat)} (h : Frc w a l) (hb : Below w.heap.size w w') : Frc w' a l := by
  intro h0
  obtain ⟨b, o, e, hlt, hc⟩ := h h0
  have hs := hb.size
  exact ⟨b, o, e, by omega, fun i hi => ⟨(hb.cell hlt).trans (hc i hi).1, (hb.cell hlt).trans (hc i hi).2⟩⟩
theorem Frc.nil (w : World) (a : Option Addr) : Frc w a [] := fun h => absurd h (by simp)
structure G64 (l : List (Nat × Nat)) : Prop where
  all : ∀ i, F64 (gf l i)
theorem G64.of {l : List (Nat × Nat)} (h : ∀ p ∈ l, F64 p) : G64 l := ⟨fun i => by
  unfold gf
  rw [List.getD_eq_getElem?_getD]
  by_cases hi : i < l.length
  · rw [List.getElem?_eq_getElem hi]; exact h _ (List.getElem_mem hi)
  · rw [List.getElem?_eq_none (by omega)]; exact ⟨by simp, by simp⟩⟩
def anyBad (l : List (Nat × Nat)) : Bool := l.any fun p => decide (Bad p)
theorem anyBad_at (l : List (Nat × Nat)) (i : Nat) (h : Bad (gf l i)) : anyBad l = true := by
  have hi : i < l.length := by
    apply Decidable.byContradiction
    intro hn
    unfold gf at h
    rw [List.getD_eq_getElem?_getD, List.getElem?_eq_none (by omega)] at h
    exact absurd h.1 (by simp)
  unfold anyBad
  rw [List.any_eq_true]
  refine ⟨l[i], List.getElem_mem hi, ?_⟩
  have : gf l i = l[i] := by unfold gf; simp [hi]
  rw [← this]; exact decide_eq_true h
theorem anyBad_none (l : List (Nat × Nat)) (h : ∀ i, i < l.length → ¬ Bad (gf l i)) : anyBad l = false := by
  unfold anyBad
  rw [List.any_eq_false]
  intro p hp
  obtain ⟨i, hi, rfl⟩ := List.getElem_of_mem hp
  have := h i hi
  have e : gf l i = l[i] := by unfold gf; simp [hi]
  rw [e] at this
  simpa using this
theorem anyBad_false (l : List (Nat × Nat)) (h : anyBad l = false) (i : Nat) : ¬ Bad (gf l i) := fun k => by
  rw [anyBad_at l i k] at h; cases h
set_option maxHeartbeats 1000000 in
theorem idx_any (l : List (Nat × Nat)) (a : Option Addr) (cap : Nat) (w : World) (hb : Frc w a l) (hlen : l.length ≤ 1000) :
    Calls Try.prog 65 #[.slice a l.length cap, .func (.func 53) #[] #[]] w fun e w' => (∃ r : Int, e = .returned (.int .i64 r) ∧ decide (0 ≤ r) = anyBad l) ∧ Below w.heap.size w w' := by
  go_enter Try.func65, Try.ntmps65
  go_wp2
  go_loopw [8] (fun t wr => ∃ k : Nat, k ≤ l.length ∧ t = .int .i64 k ∧ (∀ i, i < k → ¬ Bad (gf l i)) ∧ Below w.heap.size w wr) (fun t _ => l.length - (intOf t).toNat)
  case atStart => exact ⟨0, by omega, rfl, fun i hi => absurd hi (by omega), Below.refl _ _⟩
  case round =>
    obtain ⟨k, hk, rfl, hp, hB⟩ := hrel
    by_cases hlt : k < l.length
    · obtain ⟨b, o, rfl, hbl, hc⟩ := hb (by omega)
      have c0 := (hB.cell (p := ⟨b, o + k * 2, none⟩) hbl).trans (hc k hlt).1
      have c1 := (hB.cell (p := ⟨b, o + k * 2 + 1, none⟩) hbl).trans (hc k hlt).2
      have hbad := bad_any (gf l k)
      have hat := fun h => anyBad_at l k h
      have hno : ¬ Bad (gf l k) → ∀ i, i < k + 1 → ¬ Bad (gf l i) := fun h i hi => by
        rcases Nat.lt_succ_iff_lt_or_eq.1 hi with h' | rfl
        · exact hp i h'
        · exact h
      replace hno := Lib.hid hno
      generalize hgp : gf l k = p at *
      unfold fV at hbad
      by_cases hbit : Bad p
      · rw [decide_eq_true hbit] at hbad
        have hr := hat hbit
        clear hat hc
        go_wp2_with (go_at_call 53; (with_reducible refine (hbad _).mono ?_); rintro e w1 ⟨rfl, hw⟩)
        go_ret
        exact ⟨⟨k, rfl, by rw [hr]; simp⟩, bnext hB hw⟩
      · rw [decide_eq_false hbit] at hbad
        replace hno := Lib.hid (hno.out hbit)
        clear hat hc
        go_wp2_with (go_at_call 53; (with_reducible refine (hbad _).mono ?_); rintro e w1 ⟨rfl, hw⟩)
        exact ⟨⟨k + 1, by omega, by go_num, hno.out, bnext hB hw⟩, by simp [intOf]; omega⟩
    · obtain rfl : k = l.length := by omega
      go_wp2
      go_ret
      exact ⟨⟨-1, rfl, by rw [anyBad_none l hp]; simp⟩, hB⟩
theorem contains_any (l : List (Nat × Nat)) (a : Option Addr) (cap : Nat) (w : World) (hb : Frc w a l) (hlen : l.length ≤ 1000) :
    Calls Try.prog 56 #[.slice a l.length cap, .func (.func 53) #[] #[]] w fun e w' => e = .returned (.bool (anyBad l)) ∧ Below w.heap.size w w' := by
  go_enter Try.func56, Try.ntmps56
  go_wp2_with (go_at_call 65; (with_reducible refine (idx_any l a cap _ hb hlen).mono ?_); rintro e w' ⟨⟨r, rfl, hr⟩, hw⟩)
  go_ret
  rw [← hr]
  exact ⟨rfl, hw⟩
/-- The lowest index of a greatest of the first k fractions. -/
def bst (l : List (Nat × Nat)) : Nat → Nat
  | 0 => 0
  | k + 1 => if 0 < cmpF (gf l k) (gf l (bst l k)) then k else bst l k
theorem bst_lt (l : List (Nat × Nat)) : ∀ k, bst l k ≤ k - 1
  | 0 => Nat.le_refl _
  | k + 1 => by
    have := bst_lt l k
    rw [bst]; split <;> omega
theorem bst_best (l : List (Nat × Nat)) (h : ∀ i, ¬ Bad (gf l i)) : ∀ k j, j < k → cmpF (gf l j) (gf l (bst l k)) ≤ 0 ∧ (cmpF (gf l j) (gf l (bst l k)) = 0 → bst l k ≤ j)
  | 0, j, hj => by omega
  | k + 1, j, hj => by
    have ih := bst_best l h k
    have hb := bst_lt l k
    rw [bst]
    by_cases c : 0 < cmpF (gf l k) (gf l (bst l k))
    · rw [if_pos c]
      by_cases e : j = k
      · subst e
        rw [cmpF_self]; exact ⟨by omega, fun _ => Nat.le_refl _⟩
      · have i1 := ih j (by omega)
        have n1 := cmpF_neg (gf l k) (gf l (bst l k))
        have t := cmpF_trans _ _ (gf l k) (h (bst l k)) i1.1 (by omega)
        refine ⟨t, fun z => ?_⟩
        have n2 := cmpF_neg (gf l j) (gf l k)
        have n3 := cmpF_neg (gf l j) (gf l (bst l k))
        have t2 := cmpF_trans (gf l k) (gf l j) (gf l (bst l k)) (h j) (by omega) i1.1
        omega
    · rw [if_neg c]
      by_cases e : j = k
      · subst e; exact ⟨by omega, fun _ => by omega⟩
      · exact ih j (by omega)
theorem before_any (p q : Nat × Nat) (hp : F64 p) (hq : F64 q) (w : World) :
    Calls Try.prog 58 #[.agg (fV p), .agg (fV q)] w fun e w' => e = .returned (.bool (decide (0 < cmpF p q))) ∧ Below w.heap.size w w' := by
  have h := compare_any p q hp hq
  generalize cmpF p q = c at *
  unfold fV at *
  go_enter Try.func58, Try.ntmps58
  go_wp2_with (go_at_call 54; (with_reducible refine (h _).mono ?_); rintro e w1 ⟨rfl, hw⟩)
  go_ret
  exact ⟨rfl, two_below hw⟩
set_option maxHeartbeats 1000000 in
theorem first_any (l : List (Nat × Nat)) (h64 : G64 l) (a : Option Addr) (cap : Nat) (w : World) (hb : Frc w a l) (hlen : l.length ≤ 1000) :
    Calls Try.prog 57 #[.func (.func 58) #[] #[], .slice a l.length cap] w fun e w' => e = .returned (.int .i64 (bst l l.length)) ∧ Below w.heap.size w w' := by
  have z1 : ∀ w, (zeroValue 56).run Try.prog w = .ok (.agg #[.int .u64 0, .int .u64 0]) w := (zero_of_info zero56).1
  go_enter Try.func57, Try.ntmps57
  go_wp2
  go_loopw [4, 9] (fun v t wr => ∃ k : Nat, k ≤ l.length ∧ t = .int .i64 k ∧ v = .int .i64 (bst l k) ∧ Below w.heap.size w wr) (fun _ t _ => l.length - (intOf t).toNat)
  case atStart => exact ⟨0, by omega, rfl, rfl, Below.refl _ _⟩
  case round =>
    obtain ⟨k, hk, rfl, rfl, hB⟩ := hrel
    by_cases hlt : k < l.length
    · obtain ⟨b, o, rfl, hbl, hc⟩ := hb (by omega)
      have hbs := bst_lt l k
      have hnext : bst l (k + 1) = if 0 < cmpF (gf l k) (gf l (bst l k)) then k else bst l k := rfl
      have hbt := before_any (gf l k) (gf l (bst l k)) (h64.all _) (h64.all _)
      generalize hm : bst l k = m at *
      have c0 := (hB.cell (p := ⟨b, o + k * 2, none⟩) hbl).trans (hc k hlt).1
      have c1 := (hB.cell (p := ⟨b, o + k * 2 + 1, none⟩) hbl).trans (hc k hlt).2
      have d0 := (hB.cell (p := ⟨b, o + m * 2, none⟩) hbl).trans (hc m (by omega)).1
      have d1 := (hB.cell (p := ⟨b, o + m * 2 + 1, none⟩) hbl).trans (hc m (by omega)).2
      have hml : m < l.length := by omega
      have hbr : b < wr.heap.size := by have := hB.size; omega
      generalize gf l k = p at *
      generalize gf l m = q at *
      unfold fV at hbt
      by_cases c : 0 < cmpF p q
      · rw [decide_eq_true c] at hbt
        rw [if_pos c] at hnext
        replace hnext := Lib.hid hnext
        clear hm hc
        go_wp2
        go_region_with (go_at_call 58; (with_reducible refine (hbt _).mono ?_); rintro e w1 ⟨rfl, hw⟩)
        all_goals go_wp2
        all_goals exact ⟨⟨k + 1, by omega, by go_num, by rw [hnext.out], bnext (hB.alloc hB.size _).drew hw⟩, by simp [intOf]; omega⟩
      · rw [decide_eq_false c] at hbt
        rw [if_neg c] at hnext
        replace hnext := Lib.hid hnext
        clear hm hc
        go_wp2
        go_region_with (go_at_call 58; (with_reducible refine (hbt _).mono ?_); rintro e w1 ⟨rfl, hw⟩)
        all_goals go_wp2
        all_goals exact ⟨⟨k + 1, by omega, by go_num, by rw [hnext.out], bnext (hB.alloc hB.size _).drew hw⟩, by simp [intOf]; omega⟩
    · obtain rfl : k = l.length := by omega
      go_wp2
      go_ret
      exact ⟨rfl, hB⟩
theorem best_any (l : List (Nat × Nat)) (h64 : G64 l) (a : Option Addr) (cap : Nat) (w : World) (hb : Frc w a l) (hlen : l.length ≤ 1000) :
    Calls Try.prog 35 #[.slice a l.length cap] w fun e w' => e = .returned (.tuple #[.int .i64 (if l.length = 0 ∨ anyBad l then 0 else bst l l.length : Nat), .int .i64 (if l.length = 0 then 10 else if anyBad l then 2 else 0)]) ∧ Below w.heap.size w w' := by
  by_cases hz : l.length = 0
  · rw [if_pos (.inl hz), if_pos hz]
    have e : ((l.length : Int) == 0) = true := by simp [hz]
    rw [hz] at *
    go_enter Try.func35, Try.ntmps35
    go_wp2
    go_ret2
    exact ⟨rfl, Below.refl _ _⟩
  · have e : ((l.length : Int) == 0) = false := by simp [hz]
    have h1 := contains_any l a cap w hb hlen
    cases c : anyBad l with
    | true =>
      rw [c] at h1
      rw [if_pos (.inr rfl), if_neg hz, if_pos rfl]
      go_enter Try.func35, Try.ntmps35
      go_wp2_with (go_at_call 56; (with_reducible refine h1.mono ?_); rintro e w1 ⟨rfl, hw⟩)
      go_ret2
      exact ⟨rfl, hw⟩
    | false =>
      rw [c] at h1
      rw [if_neg (by simp [hz]), if_neg hz, if_neg (by simp)]
      go_enter Try.func35, Try.ntmps35
      go_wp2_with (first
        | (go_at_call 56; (with_reducible refine h1.mono ?_); rintro e w1 ⟨rfl, hw⟩)
        | (go_at_call 57; (with_reducible refine (first_any l h64 a cap _ (hb.below hw) hlen).mono ?_); rintro e w2 ⟨rfl, hw2⟩))
      go_ret2
      exact ⟨rfl, bnext hw hw2⟩
end Go.Proofs.Ytdnpbemkobhlcaa
