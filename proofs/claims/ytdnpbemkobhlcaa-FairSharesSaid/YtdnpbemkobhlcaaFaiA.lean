/-
  The scheduler, walks: users, services, serving.
-/
import Derived.Test.YtdnpbemkobhlcaaRatM
set_option linter.unusedSimpArgs false
set_option linter.unusedVariables false
namespace Go.Proofs.Ytdnpbemkobhlcaa
open Go.RowKit
attribute [-go_sem] Instr.build

/-- The services of n users: in block rb, which has room for m; the scheduler itself is block sb. -/
structure Sch (w : World) (sb rb n m : Nat) (S : Nat → Nat) : Prop where
  c : Blk w sb #[.slice (some ⟨rb, 0, none⟩) n m] 38
  r : ∃ C, Blk w rb C 3 ∧ C.size = m ∧ ∀ i, i < n → C[i]? = some (.int .i64 (S i : Nat))
  le : n ≤ m
  ne : sb ≠ rb
  n0 : 0 < n
  n1 : n ≤ 32
  m1 : m ≤ maxLen
  bd : ∀ i, i < n → 1 ≤ S i ∧ S i ≤ 2305843009213693952
theorem Sch.ltr {w : World} {sb rb n m : Nat} {S : Nat → Nat} (h : Sch w sb rb n m S) : rb < w.heap.size := by
  obtain ⟨C, hC, _⟩ := h.r; exact hC.lt
theorem Sch.cell {w : World} {sb rb n m : Nat} {S : Nat → Nat} (h : Sch w sb rb n m S) (i : Nat) (hi : i < n) : w.cell? ⟨rb, i, none⟩ = some (.int .i64 (S i : Nat)) := by
  obtain ⟨C, hC, _, hc⟩ := h.r; rw [hC.cell]; exact hc i hi
theorem Sch.frozen {w : World} {sb rb n m : Nat} {S : Nat → Nat} (h : Sch w sb rb n m S) (i : Nat) : w.frozen? ⟨rb, i, none⟩ = false := by
  obtain ⟨C, hC, _⟩ := h.r; exact hC.frozen i
theorem Sch.below {w w' : World} {sb rb n m : Nat} {S : Nat → Nat} (h : Sch w sb rb n m S) (hb : Below w.heap.size w w') : Sch w' sb rb n m S := ⟨h.c.below hb h.c.lt, by obtain ⟨C, hC, k⟩ := h.r; exact ⟨C, hC.below hb hC.lt, k⟩, h.le, h.ne, h.n0, h.n1, h.m1, h.bd⟩
theorem Sch.drew {w : World} {sb rb n m : Nat} {S : Nat → Nat} (h : Sch w sb rb n m S) : Sch w.drew sb rb n m S := ⟨h.c.drew, h.r, h.le, h.ne, h.n0, h.n1, h.m1, h.bd⟩
theorem Sch.but {w w' : World} {sb rb n m b base : Nat} {S : Nat → Nat} (h : Sch w sb rb n m S) (hb : But b base w w') (h1 : sb < base ∧ sb ≠ b) (h2 : rb < base ∧ rb ≠ b) : Sch w' sb rb n m S := ⟨h.c.but hb h1.1 h1.2, by obtain ⟨C, hC, k⟩ := h.r; exact ⟨C, hC.but hb h2.1 h2.2, k⟩, h.le, h.ne, h.n0, h.n1, h.m1, h.bd⟩
theorem Sch.congr {w : World} {sb rb n m : Nat} {S T : Nat → Nat} (h : Sch w sb rb n m S) (e : ∀ i, i < n → T i = S i) : Sch w sb rb n m T := ⟨h.c, by obtain ⟨C, hC, k, hc⟩ := h.r; exact ⟨C, hC, k, fun i hi => by rw [e i hi]; exact hc i hi⟩, h.le, h.ne, h.n0, h.n1, h.m1, fun i hi => by rw [e i hi]; exact h.bd i hi⟩
/-- What serving makes of the services. -/
def addS (S : Nat → Nat) (u b : Nat) : Nat → Nat := upd S u (min (S u + b) 2305843009213693952)
theorem Sch.set {w : World} {sb rb n m : Nat} {S : Nat → Nat} (h : Sch w sb rb n m S) (u x : Nat) (hu : u < n) (h1 : 1 ≤ x) (h2 : x ≤ 2305843009213693952) : Sch (w.setCell ⟨rb, u, none⟩ (.int .i64 x)) sb rb n m (upd S u x) :=
  ⟨h.c.set_other (p := ⟨rb, u, none⟩) h.ne _, by
    obtain ⟨C, hC, hs, hc⟩ := h.r
    have hle := h.le
    refine ⟨_, hC.set u (.int .i64 x), by rw [Array.size_setIfInBounds]; exact hs, fun i hi => ?_⟩
    rw [Array.getElem?_setIfInBounds]
    unfold upd
    by_cases e : u = i
    · subst e; rw [if_pos rfl, if_pos (by omega), if_pos rfl]
    · rw [if_neg e, if_neg (Ne.symm e)]; exact hc i hi, h.le, h.ne, h.n0, h.n1, h.m1, fun i hi => by
    unfold upd; split
    · exact ⟨h1, h2⟩
    · exact h.bd i hi⟩
/-- A scheduler without users: no scheduler, or the zero value. -/
def Noone (w : World) (v : Value) : Prop := v = .pointer none ∨ ∃ b, v = .pointer (some ⟨b, 0, none⟩) ∧ Blk w b #[.slice none 0 0] 38
theorem Noone.below {w w' : World} {v : Value} (h : Noone w v) (hb : Below w.heap.size w w') : Noone w' v := by
  rcases h with h | ⟨b, h, k⟩
  · exact .inl h
  · exact .inr ⟨b, h, k.below hb k.lt⟩
theorem none_none (v : Value) (w : World) (h : Noone w v) : Calls Try.prog 44 #[v] w fun e w' => e = .returned (.bool true) ∧ w' = w := by
  rcases h with rfl | ⟨b, rfl, hb⟩
  · go_enter Try.func44, Try.ntmps44
    go_wp2
    go_ret
    exact ⟨rfl, rfl⟩
  · have c0 : w.cell? ⟨b, 0, none⟩ = some (.slice none 0 0) := hb.cell 0
    go_enter Try.func44, Try.ntmps44
    go_wp2
    go_ret
    exact ⟨rfl, rfl⟩
theorem none_any {sb rb n m : Nat} {S : Nat → Nat} (w : World) (h : Sch w sb rb n m S) : Calls Try.prog 44 #[.pointer (some ⟨sb, 0, none⟩)] w fun e w' => e = .returned (.bool false) ∧ w' = w := by
  have c0 : w.cell? ⟨sb, 0, none⟩ = some (.slice (some ⟨rb, 0, none⟩) n m) := h.c.cell 0
  have hn : ((n : Int) == 0) = false := by have := h.n0; rw [beq_eq_false_iff_ne]; omega
  go_enter Try.func44, Try.ntmps44
  go_wp2
  go_ret
  exact ⟨rfl, rfl⟩
theorem has_any (a : Option Addr) (n m : Nat) (u : Int) (w : World) : Calls Try.prog 50 #[.slice a n m, .int .i64 u] w fun e w' => e = .returned (.bool (decide (0 ≤ u ∧ u < n))) ∧ w' = w := by
  go_enter Try.func50, Try.ntmps50
  by_cases h0 : 0 ≤ u
  · by_cases h1 : u < n
    · rw [decide_eq_true (show 0 ≤ u ∧ u < n from ⟨h0, h1⟩)]
      go_wp2
      go_ret
      exact ⟨rfl, rfl⟩
    · rw [decide_eq_false (show ¬ (0 ≤ u ∧ u < n) from fun h => h1 h.2)]
      go_wp2
      go_ret
      exact ⟨rfl, rfl⟩
  · rw [decide_eq_false (show ¬ (0 ≤ u ∧ u < n) from fun h => h0 h.1)]
    go_wp2
    go_ret
    exact ⟨rfl, rfl⟩
theorem users_any {sb rb n m : Nat} {S : Nat → Nat} (w : World) (h : Sch w sb rb n m S) : Calls Try.prog 27 #[.pointer (some ⟨sb, 0, none⟩)] w fun e w' => e = .returned (.int .i64 n) ∧ w' = w := by
  have h0 := none_any w h
  have c0 : w.cell? ⟨sb, 0, none⟩ = some (.slice (some ⟨rb, 0, none⟩) n m) := h.c.cell 0
  go_enter Try.func27, Try.ntmps27
  go_wp2_with (go_at_call 44; (with_reducible refine h0.mono ?_); rintro e w' ⟨rfl, hw⟩; rw [hw])
  go_ret
  exact ⟨rfl, rfl⟩
theorem users_none (v : Value) (w : World) (h : Noone w v) : Calls Try.prog 27 #[v] w fun e w' => e = .returned (.int .i64 0) ∧ w' = w := by
  have h0 := none_none v w h
  go_enter Try.func27, Try.ntmps27
  go_wp2_with (go_at_call 44; (with_reducible refine h0.mono ?_); rintro e w' ⟨rfl, hw⟩; rw [hw])
  go_ret
  exact ⟨rfl, rfl⟩
theorem service_none (v : Value) (u : Int) (w : World) (h : Noone w v) : Calls Try.prog 25 #[v, .int .i64 u] w fun e w' => e = .returned (.tuple #[.int .i64 0, .int .i64 1]) ∧ w' = w := by
  have h0 := none_none v w h
  go_enter Try.func25, Try.ntmps25
  go_wp2_with (go_at_call 44; (with_reducible refine h0.mono ?_); rintro e w' ⟨rfl, hw⟩; rw [hw])
  go_ret2
  exact ⟨rfl, rfl⟩
theorem service_any {sb rb n m : Nat} {S : Nat → Nat} (w : World) (h : Sch w sb rb n m S) (u : Nat) (hu : u < n) : Calls Try.prog 25 #[.pointer (some ⟨sb, 0, none⟩), .int .i64 u] w fun e w' => e = .returned (.tuple #[.int .i64 (S u : Nat), .int .i64 0]) ∧ w' = w := by
  have h0 := none_any w h
  have c0 : w.cell? ⟨sb, 0, none⟩ = some (.slice (some ⟨rb, 0, none⟩) n m) := h.c.cell 0
  have h1 := has_any (some ⟨rb, 0, none⟩) n m u w
  rw [decide_eq_true (by omega)] at h1
  have c1 := h.cell u hu
  generalize S u = x at *
  go_enter Try.func25, Try.ntmps25
  go_wp2_with (first
    | (go_at_call 44; (with_reducible refine h0.mono ?_); rintro e w' ⟨rfl, hw⟩; rw [hw])
    | (go_at_call 50; (with_reducible refine h1.mono ?_); rintro e w' ⟨rfl, hw⟩; rw [hw]))
  go_ret2
  exact ⟨rfl, rfl⟩
theorem service_bad {sb rb n m : Nat} {S : Nat → Nat} (w : World) (h : Sch w sb rb n m S) (u : Int) (hu : ¬ (0 ≤ u ∧ u < n)) : Calls Try.prog 25 #[.pointer (some ⟨sb, 0, none⟩), .int .i64 u] w fun e w' => e = .returned (.tuple #[.int .i64 0, .int .i64 6]) ∧ w' = w := by
  have h0 := none_any w h
  have c0 : w.cell? ⟨sb, 0, none⟩ = some (.slice (some ⟨rb, 0, none⟩) n m) := h.c.cell 0
  have h1 := has_any (some ⟨rb, 0, none⟩) n m u w
  rw [decide_eq_false hu] at h1
  clear hu
  go_enter Try.func25, Try.ntmps25
  go_wp2_with (first
    | (go_at_call 44; (with_reducible refine h0.mono ?_); rintro e w' ⟨rfl, hw⟩; rw [hw])
    | (go_at_call 50; (with_reducible refine h1.mono ?_); rintro e w' ⟨rfl, hw⟩; rw [hw]))
  go_ret2
  exact ⟨rfl, rfl⟩
set_option maxRecDepth 100000 in
theorem add_any {sb rb n m : Nat} {S : Nat → Nat} (w : World) (h : Sch w sb rb n m S) (u b : Nat) (hu : u < n) (hb : b ≤ 2305843009213693952) :
    Calls Try.prog 51 #[.slice (some ⟨rb, 0, none⟩) n m, .int .i64 u, .int .i64 b] w fun e w' => e = .returned (.tuple #[]) ∧ Sch w' sb rb n m (addS S u b) ∧ But rb w.heap.size w w' := by
  have hs := h.bd u hu
  have c1 := h.cell u hu
  have f1 := h.frozen u
  have i1 : IntKind.i64.wrap ((S u : Int) + b) = ((S u + b : Nat) : Int) := by rw [IntWalk.i64_in _ (by omega)]; omega
  have hz : S u + b < 5000000000000000000 := by omega
  unfold addS
  by_cases hle : S u + b ≤ 2305843009213693952
  · have hst := h.set u (S u + b) hu (by omega) hle
    rw [Nat.min_eq_left hle]
    have h2 : ((S u + b : Nat) : Int) ≤ 2305843009213693952 := by omega
    generalize S u + b = z at *
    generalize S u = x at *
    clear hs hle hz hb
    go_enter Try.func51, Try.ntmps51
    go_wp2
    go_end0
    exact ⟨rfl, hst, (But.refl _ _ _).setCell _ _⟩
  · have hst := h.set u 2305843009213693952 hu (by omega) (Nat.le_refl _)
    rw [Nat.min_eq_right (by omega)]
    have h2 : (2305843009213693952 : Int) < ((S u + b : Nat) : Int) := by omega
    generalize S u + b = z at *
    generalize S u = x at *
    clear hs hle hz hb
    go_enter Try.func51, Try.ntmps51
    go_wp2
    go_end0
    exact ⟨rfl, hst, (But.refl _ _ _).setCell _ _⟩
theorem serve_none (v : Value) (u b : Int) (w : World) (h : Noone w v) : Calls Try.prog 26 #[v, .int .i64 u, .int .i64 b] w fun e w' => e = .returned (.int .i64 1) ∧ w' = w := by
  have h0 := none_none v w h
  go_enter Try.func26, Try.ntmps26
  go_wp2_with (go_at_call 44; (with_reducible refine h0.mono ?_); rintro e w' ⟨rfl, hw⟩; rw [hw])
  go_ret
  exact ⟨rfl, rfl⟩
theorem serve_arg {sb rb n m : Nat} {S : Nat → Nat} (w : World) (h : Sch w sb rb n m S) (u b : Int) (hb : b < 0 ∨ 2305843009213693952 < b) : Calls Try.prog 26 #[.pointer (some ⟨sb, 0, none⟩), .int .i64 u, .int .i64 b] w fun e w' => e = .returned (.int .i64 2) ∧ w' = w := by
  have h0 := none_any w h
  go_enter Try.func26, Try.ntmps26
  rcases hb with hb | hb
  · go_wp2_with (go_at_call 44; (with_reducible refine h0.mono ?_); rintro e w' ⟨rfl, hw⟩; rw [hw])
    go_ret
    exact ⟨rfl, rfl⟩
  · have hb2 : ¬ b < 0 := by omega
    go_wp2_with (go_at_call 44; (with_reducible refine h0.mono ?_); rintro e w' ⟨rfl, hw⟩; rw [hw])
    go_ret
    exact ⟨rfl, rfl⟩
theorem serve_range {sb rb n m : Nat} {S : Nat → Nat} (w : World) (h : Sch w sb rb n m S) (u b : Int) (hb : ¬ b < 0) (hb2 : ¬ 2305843009213693952 < b) (hu : ¬ (0 ≤ u ∧ u < n)) : Calls Try.prog 26 #[.pointer (some ⟨sb, 0, none⟩), .int .i64 u, .int .i64 b] w fun e w' => e = .returned (.int .i64 6) ∧ w' = w := by
  have h0 := none_any w h
  have c0 : w.cell? ⟨sb, 0, none⟩ = some (.slice (some ⟨rb, 0, none⟩) n m) := h.c.cell 0
  have h1 := has_any (some ⟨rb, 0, none⟩) n m u w
  rw [decide_eq_false hu] at h1
  clear hu
  go_enter Try.func26, Try.ntmps26
  go_wp2_with (first
    | (go_at_call 44; (with_reducible refine h0.mono ?_); rintro e w' ⟨rfl, hw⟩; rw [hw])
    | (go_at_call 50; (with_reducible refine h1.mono ?_); rintro e w' ⟨rfl, hw⟩; rw [hw]))
  go_ret
  exact ⟨rfl, rfl⟩
set_option maxRecDepth 100000 in
theorem serve_any {sb rb n m : Nat} {S : Nat → Nat} (w : World) (h : Sch w sb rb n m S) (u b : Nat) (hu : u < n) (hb : b ≤ 2305843009213693952) :
    Calls Try.prog 26 #[.pointer (some ⟨sb, 0, none⟩), .int .i64 u, .int .i64 b] w fun e w' => e = .returned (.int .i64 0) ∧ Sch w' sb rb n m (addS S u b) ∧ But rb w.heap.size w w' := by
  have h0 := none_any w h
  have c0 : w.cell? ⟨sb, 0, none⟩ = some (.slice (some ⟨rb, 0, none⟩) n m) := h.c.cell 0
  have h1 := has_any (some ⟨rb, 0, none⟩) n m u w
  rw [decide_eq_true (by omega)] at h1
  have h2 := add_any w h u b hu hb
  have b1 : ¬ ((b : Int) < 0) := by omega
  have b2 : ¬ ((2305843009213693952 : Int) < (b : Int)) := by omega
  clear hb
  go_enter Try.func26, Try.ntmps26
  go_wp2_with (first
    | (go_at_call 44; (with_reducible refine h0.mono ?_); rintro e w' ⟨rfl, hw⟩; rw [hw])
    | (go_at_call 50; (with_reducible refine h1.mono ?_); rintro e w' ⟨rfl, hw⟩; rw [hw])
    | (go_at_call 51; (with_reducible refine h2.mono ?_); rintro e w1 ⟨rfl, hs, hw⟩))
  go_ret
  exact ⟨rfl, hs, hw⟩
end Go.Proofs.Ytdnpbemkobhlcaa
