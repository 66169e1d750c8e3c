/-
  A transmitting process, walks: Feedback.
-/
import Derived.Test.YthbpmofabcilhaaHarG
import Derived.Deep.QuietTactic
set_option linter.unusedSimpArgs false
set_option linter.unusedVariables false
namespace Go.Proofs.Ythbpmofabcilhaa
open Go.RowKit
attribute [-go_sem] Instr.build

theorem But.drewN {b base : Nat} {w w' : World} (h : But b base w w') (n : Nat) : But b base w (w'.drewN n) := ⟨h.os, h.tape, h.output, h.size, h.block⟩
theorem own_drewN {w : World} {base : Nat} {e : TypeId} {v : Value} {n size : Nat} {xs : List Value} (h : w.ownsRow base e size v n xs) (k : Nat) : (w.drewN k).ownsRow base e size v n xs := h
theorem due_wait (b : Nat) (v : Value) (m : Hq) (k : Nat) (w : World) (h : Blk w b (cellsH v m) 64) (hl : m.lim ≠ 0) (hs : k ≤ 1073741824) (hst : m.st = 2) (hk : m.sent = k) :
    Calls Try.prog 16 #[.pointer (some ⟨b, 0, none⟩)] w fun e w' => e = .returned (.int .i64 ((k : Int) + 4)) ∧ w' = w := by
  subst hk
  have := due_any b v m w h hl (by omega)
  rw [dueF, if_pos hst] at this
  exact this

set_option maxHeartbeats 400000 in
theorem fb_arg (b : Nat) (v : Value) (m : Hq) (t a : Int) (w : World) (hP : HP w b v m) (hl0 : m.lim ≠ 0) (ht : ¬ (0 ≤ t ∧ t < 1073741824) ∨ a < 0 ∨ 2 < a) :
    Calls Try.prog 15 #[.pointer (some ⟨b, 0, none⟩), .int .i64 t, .int .i64 a] w fun e w' => e = .returned (.tuple #[.int .i64 0, .int .i64 2]) ∧ w' = w := by
  have hd : decide (m.lim = 0) = false := by simpa using hl0
  by_cases c : 0 ≤ t ∧ t < 1073741824
  · have hf := decide_eq_true c
    have c2 : a < 0 ∨ 2 < a := by rcases ht with h | h; exact absurd c h; exact h
    rcases c2 with c2 | c2
    · clear ht c
      go_enter Try.func15, Try.ntmps15
      go_wp2_with (first
        | (go_at_call 25; (with_reducible refine (none_any b v m _ hP.1).mono ?_); rintro e w' ⟨rfl, hw⟩; subst w'; rw [hd])
        | (go_at_call 30; (with_reducible refine (timed_any t _).mono ?_); rintro e w' ⟨rfl, hw⟩; subst w'; rw [hf]))
      go_ret2
      exact ⟨rfl, rfl⟩
    · have c3 : ¬ a < 0 := by omega
      clear ht c
      go_enter Try.func15, Try.ntmps15
      go_wp2_with (first
        | (go_at_call 25; (with_reducible refine (none_any b v m _ hP.1).mono ?_); rintro e w' ⟨rfl, hw⟩; subst w'; rw [hd])
        | (go_at_call 30; (with_reducible refine (timed_any t _).mono ?_); rintro e w' ⟨rfl, hw⟩; subst w'; rw [hf]))
      go_ret2
      exact ⟨rfl, rfl⟩
  · have hf := decide_eq_false c
    clear ht c
    go_enter Try.func15, Try.ntmps15
    go_wp2_with (first
      | (go_at_call 25; (with_reducible refine (none_any b v m _ hP.1).mono ?_); rintro e w' ⟨rfl, hw⟩; subst w'; rw [hd])
      | (go_at_call 30; (with_reducible refine (timed_any t _).mono ?_); rintro e w' ⟨rfl, hw⟩; subst w'; rw [hf]))
    go_ret2
    exact ⟨rfl, rfl⟩

set_option maxHeartbeats 1000000 in
theorem fb_state (b : Nat) (v : Value) (m : Hq) (t a : Int) (w : World) (hP : HP w b v m) (hl0 : m.lim ≠ 0) (ht : 0 ≤ t ∧ t < 1073741824) (ha0 : 0 ≤ a) (ha2 : a ≤ 2) (hs : m.sent ≤ 1073741824) (hn : m.now ≤ 1073741824) (hst : m.st ≠ 2 ∨ (m.st = 2 ∧ nowF m t < m.sent + 4)) :
    Calls Try.prog 15 #[.pointer (some ⟨b, 0, none⟩), .int .i64 t, .int .i64 a] w fun e w' => e = .returned (.tuple #[.int .i64 0, .int .i64 8]) ∧ HP w' b v (m1F m t) ∧ Kept b v v w w' := by
  have hd : decide (m.lim = 0) = false := by simpa using hl0
  have hf := decide_eq_true ht
  have hlt := hP.1.lt
  have ht0 := ht.1
  have H3 := Lib.hid row3
  have c4 : w.cell? ⟨b, 4, none⟩ = some (.int .i64 m.now) := hP.1.cell 4
  rcases hst with hst | ⟨hst, hdue⟩
  · have hC := Lib.hid (show (if m.st = 2 then (0 : Int) else 8) = 8 by rw [if_neg hst])
    clear hst ht
    go_enter Try.func15, Try.ntmps15
    go_wp2_with (first
      | (go_at_call 25; (with_reducible refine (none_any b v m _ hP.1).mono ?_); rintro e w' ⟨rfl, hw⟩; subst w'; rw [hd])
      | (go_at_call 30; (with_reducible refine (timed_any t _).mono ?_); rintro e w' ⟨rfl, hw⟩; subst w'; rw [hf])
      | ((with_reducible refine wpList_store_int rfl 3 (.tmp 32) (.tmp 30) rfl b 4 .i64 _ rfl rfl hP.1 H3.out ?_ ?_); (exact (by decide : 4 < 6)); intro w5 hb5 ho5; rw [cells_now (t := t) (by unfold nowF; omega)] at hb5; have hB5 := Lib.hid ((But.refl b w.heap.size w).only ho5 (.inl rfl)); have own5 := Lib.hid (own_only hP.2 ho5 (own_ne_blk hP.2 hP.1 (by decide))); have c3 : w5.cell? ⟨b, 3, none⟩ = some (.int .i64 m.st) := hb5.cell 3; clear ho5)
      | (go_at_call 27; (with_reducible refine (allowed_c b m.st 2 _ ?_ _ c3).mono ?_); (rfl); rintro e w' ⟨rfl, hw⟩; subst w'; rw [hC.out]))
    all_goals
      go_quiet (fail)
      go_wp2
      go_ret2
      exact ⟨rfl, ⟨hb5, own5.out⟩, hB5.out.drewN _, .inl rfl⟩
  · have hC := Lib.hid (show (if m.st = 2 then (0 : Int) else 8) = 0 by rw [if_pos hst])
    have HST := Lib.hid (show (m1F m t).st = 2 from hst)
    have hdI : (nowF m t : Int) < (m.sent : Int) + 4 := by omega
    have hdB : decide ((nowF m t : Int) < (m.sent : Int) + 4) = true := decide_eq_true hdI
    clear hst ht hdue
    go_enter Try.func15, Try.ntmps15
    go_wp2_with (first
      | (go_at_call 25; (with_reducible refine (none_any b v m _ hP.1).mono ?_); rintro e w' ⟨rfl, hw⟩; subst w'; rw [hd])
      | (go_at_call 30; (with_reducible refine (timed_any t _).mono ?_); rintro e w' ⟨rfl, hw⟩; subst w'; rw [hf])
      | ((with_reducible refine wpList_store_int rfl 3 (.tmp 32) (.tmp 30) rfl b 4 .i64 _ rfl rfl hP.1 H3.out ?_ ?_); (exact (by decide : 4 < 6)); intro w5 hb5 ho5; rw [cells_now (t := t) (by unfold nowF; omega)] at hb5; have hB5 := Lib.hid ((But.refl b w.heap.size w).only ho5 (.inl rfl)); have own5 := Lib.hid (own_only hP.2 ho5 (own_ne_blk hP.2 hP.1 (by decide))); have c3 : w5.cell? ⟨b, 3, none⟩ = some (.int .i64 m.st) := hb5.cell 3; have c4 : w5.cell? ⟨b, 4, none⟩ = some (.int .i64 (nowF m t)) := hb5.cell 4; clear ho5)
      | (go_at_call 27; (with_reducible refine (allowed_c b m.st 2 _ ?_ _ c3).mono ?_); (rfl); rintro e w' ⟨rfl, hw⟩; subst w'; rw [hC.out]))
    all_goals
      go_quiet ((go_at_call 16; exact Calls.quiet_of_same (due_wait b v (m1F m t) m.sent _ hb5 hl0 hs HST.out rfl)))
      go_wp2
      go_ret2
      exact ⟨rfl, ⟨hb5, own5.out⟩, hB5.out.drewN _, .inl rfl⟩
def idleF (m : Hq) (t : Int) : Hq := { lim := m.lim, st := 0, blk := [], num := 0, now := nowF m t, sent := m.sent }
theorem idle_end {b : Nat} {v : Value} {m : Hq} {t : Int} {w w5 w6 : World} {nq : Nat} (hB5 : But b w.heap.size w w5) (h6 : Blk w6 b (cellsH (.slice none 0 0) { m1F m t with st := 0, num := 0 }) 64) (ho : Only b (w5.drewN nq) w6) :
    HP w6 b (.slice none 0 0) (idleF m t) ∧ Kept b v (.slice none 0 0) w w6 :=
  ⟨⟨h6, World.ownsRow_nil _ _ _ _⟩, (hB5.drewN nq).only ho (.inl rfl), .inr (fun _ hg => nomatch hg)⟩
set_option maxHeartbeats 1000000 in
theorem fb_pos (b : Nat) (v : Value) (m : Hq) (t : Int) (w : World) (hP : HP w b v m) (hl0 : m.lim ≠ 0) (ht : 0 ≤ t ∧ t < 1073741824) (hs : m.sent ≤ 1073741824) (hn : m.now ≤ 1073741824) (hst : m.st = 2) (hdue : m.sent + 4 ≤ nowF m t) :
    Calls Try.prog 15 #[.pointer (some ⟨b, 0, none⟩), .int .i64 t, .int .i64 1] w fun e w' => e = .returned (.tuple #[.int .i64 1, .int .i64 0]) ∧ HP w' b (.slice none 0 0) (idleF m t) ∧ Kept b v (.slice none 0 0) w w' := by
  have hd : decide (m.lim = 0) = false := by simpa using hl0
  have hf := decide_eq_true ht
  have hlt := hP.1.lt
  have ht0 := ht.1
  have H3 := Lib.hid row3
  have c4 : w.cell? ⟨b, 4, none⟩ = some (.int .i64 m.now) := hP.1.cell 4
  have hC := Lib.hid (show (if m.st = 2 then (0 : Int) else 8) = 0 by rw [if_pos hst])
  have HST := Lib.hid (show (m1F m t).st = 2 from hst)
  have hdI : ¬ (nowF m t : Int) < (m.sent : Int) + 4 := by omega
  have hdB : decide ((nowF m t : Int) < (m.sent : Int) + 4) = false := decide_eq_false hdI
  clear hst ht hdue
  go_enter Try.func15, Try.ntmps15
  go_wp2_with (first
    | (go_at_call 25; (with_reducible refine (none_any b v m _ hP.1).mono ?_); rintro e w' ⟨rfl, hw⟩; subst w'; rw [hd])
    | (go_at_call 30; (with_reducible refine (timed_any t _).mono ?_); rintro e w' ⟨rfl, hw⟩; subst w'; rw [hf])
    | ((with_reducible refine wpList_store_int rfl 3 (.tmp 32) (.tmp 30) rfl b 4 .i64 _ rfl rfl hP.1 H3.out ?_ ?_); (exact (by decide : 4 < 6)); intro w5 hb5 ho5; rw [cells_now (t := t) (by unfold nowF; omega)] at hb5; have hB5 := Lib.hid ((But.refl b w.heap.size w).only ho5 (.inl rfl)); have own5 := Lib.hid (own_only hP.2 ho5 (own_ne_blk hP.2 hP.1 (by decide))); have c0 : w5.cell? ⟨b, 0, none⟩ = some v := hb5.cell 0; have c1 : w5.cell? ⟨b, 1, none⟩ = some (.int .i64 m.num) := hb5.cell 1; have c2 : w5.cell? ⟨b, 2, none⟩ = some (.int .i64 m.lim) := hb5.cell 2; have c3 : w5.cell? ⟨b, 3, none⟩ = some (.int .i64 m.st) := hb5.cell 3; have c4 : w5.cell? ⟨b, 4, none⟩ = some (.int .i64 (nowF m t)) := hb5.cell 4; clear ho5)
    | (go_at_call 27; (with_reducible refine (allowed_c b m.st 2 _ ?_ _ c3).mono ?_); (rfl); rintro e w' ⟨rfl, hw⟩; subst w'; rw [hC.out]))
  all_goals
    go_quiet ((go_at_call 16; exact Calls.quiet_of_same (due_wait b v (m1F m t) m.sent _ hb5 hl0 hs HST.out rfl)))
    go_wp2_with (first
      | (go_at_call 28; (with_reducible refine (enter_any b v (m1F m t) 0 0 _ _ ?_ ?_ none 0 0 _ ?_).mono ?_); (rfl); (rfl); (exact hb5); rintro e w6 ⟨rfl, hk, ho⟩; have HK := Lib.hid hk; have HO := Lib.hid ho; clear hk ho))
    go_ret2
    exact ⟨rfl, idle_end hB5.out HK.out HO.out⟩
set_option maxHeartbeats 1000000 in
theorem fb_exh (b : Nat) (v : Value) (m : Hq) (t : Int) (w : World) (hP : HP w b v m) (hl0 : m.lim ≠ 0) (ht : 0 ≤ t ∧ t < 1073741824) (hs : m.sent ≤ 1073741824) (hn : m.now ≤ 1073741824) (hst : m.st = 2) (hdue : m.sent + 4 ≤ nowF m t) (a : Int) (ha0 : 0 ≤ a) (ha2 : a ≤ 2) (ha : a ≠ 1) (hnl : m.num + 1 = m.lim) (hl : m.lim ≤ 16) :
    Calls Try.prog 15 #[.pointer (some ⟨b, 0, none⟩), .int .i64 t, .int .i64 a] w fun e w' => e = .returned (.tuple #[.int .i64 2, .int .i64 0]) ∧ HP w' b (.slice none 0 0) (idleF m t) ∧ Kept b v (.slice none 0 0) w w' := by
  have hd : decide (m.lim = 0) = false := by simpa using hl0
  have hf := decide_eq_true ht
  have hlt := hP.1.lt
  have ht0 := ht.1
  have H3 := Lib.hid row3
  have c4 : w.cell? ⟨b, 4, none⟩ = some (.int .i64 m.now) := hP.1.cell 4
  have hC := Lib.hid (show (if m.st = 2 then (0 : Int) else 8) = 0 by rw [if_pos hst])
  have HST := Lib.hid (show (m1F m t).st = 2 from hst)
  have hdI : ¬ (nowF m t : Int) < (m.sent : Int) + 4 := by omega
  have hdB : decide ((nowF m t : Int) < (m.sent : Int) + 4) = false := decide_eq_false hdI
  have hab : (a == 1) = false := by simpa using ha
  have hnB : (((m.num : Int) + 1) == (m.lim : Int)) = true := by simp; omega
  have hn16 : m.num ≤ 16 := by omega
  have hw1 := IntWalk.i64_in ((m.num : Int) + 1) (by omega)
  clear hst ht hdue ha hnl
  go_enter Try.func15, Try.ntmps15
  go_wp2_with (first
    | (go_at_call 25; (with_reducible refine (none_any b v m _ hP.1).mono ?_); rintro e w' ⟨rfl, hw⟩; subst w'; rw [hd])
    | (go_at_call 30; (with_reducible refine (timed_any t _).mono ?_); rintro e w' ⟨rfl, hw⟩; subst w'; rw [hf])
    | ((with_reducible refine wpList_store_int rfl 3 (.tmp 32) (.tmp 30) rfl b 4 .i64 _ rfl rfl hP.1 H3.out ?_ ?_); (exact (by decide : 4 < 6)); intro w5 hb5 ho5; rw [cells_now (t := t) (by unfold nowF; omega)] at hb5; have hB5 := Lib.hid ((But.refl b w.heap.size w).only ho5 (.inl rfl)); have own5 := Lib.hid (own_only hP.2 ho5 (own_ne_blk hP.2 hP.1 (by decide))); have c0 : w5.cell? ⟨b, 0, none⟩ = some v := hb5.cell 0; have c1 : w5.cell? ⟨b, 1, none⟩ = some (.int .i64 m.num) := hb5.cell 1; have c2 : w5.cell? ⟨b, 2, none⟩ = some (.int .i64 m.lim) := hb5.cell 2; have c3 : w5.cell? ⟨b, 3, none⟩ = some (.int .i64 m.st) := hb5.cell 3; have c4 : w5.cell? ⟨b, 4, none⟩ = some (.int .i64 (nowF m t)) := hb5.cell 4; clear ho5)
    | (go_at_call 27; (with_reducible refine (allowed_c b m.st 2 _ ?_ _ c3).mono ?_); (rfl); rintro e w' ⟨rfl, hw⟩; subst w'; rw [hC.out]))
  all_goals
    go_quiet ((go_at_call 16; exact Calls.quiet_of_same (due_wait b v (m1F m t) m.sent _ hb5 hl0 hs HST.out rfl)))
    go_wp2_with fail
    go_quiet (fail)
    go_wp2_with (first
      | (go_at_call 28; (with_reducible refine (enter_any b v (m1F m t) 0 0 _ _ ?_ ?_ none 0 0 _ ?_).mono ?_); (rfl); (rfl); (exact hb5); rintro e w6 ⟨rfl, hk, ho⟩; have HK := Lib.hid hk; have HO := Lib.hid ho; clear hk ho))
    go_ret2
    exact ⟨rfl, idle_end hB5.out HK.out HO.out⟩
set_option maxHeartbeats 1000000 in
theorem fb_next (b : Nat) (v : Value) (m : Hq) (t : Int) (w : World) (hP : HP w b v m) (hl0 : m.lim ≠ 0) (ht : 0 ≤ t ∧ t < 1073741824) (hs : m.sent ≤ 1073741824) (hn : m.now ≤ 1073741824) (hst : m.st = 2) (hdue : m.sent + 4 ≤ nowF m t) (a : Int) (ha0 : 0 ≤ a) (ha2 : a ≤ 2) (ha : a ≠ 1) (hnl : m.num + 1 ≠ m.lim) (hl : m.num ≤ 16) :
    Calls Try.prog 15 #[.pointer (some ⟨b, 0, none⟩), .int .i64 t, .int .i64 a] w fun e w' => e = .returned (.tuple #[.int .i64 0, .int .i64 0]) ∧ HP w' b v { m1F m t with st := 1, num := m.num + 1 } ∧ Kept b v v w w' := by
  have hd : decide (m.lim = 0) = false := by simpa using hl0
  have hf := decide_eq_true ht
  have hlt := hP.1.lt
  have ht0 := ht.1
  have H3 := Lib.hid row3
  have c4 : w.cell? ⟨b, 4, none⟩ = some (.int .i64 m.now) := hP.1.cell 4
  have hC := Lib.hid (show (if m.st = 2 then (0 : Int) else 8) = 0 by rw [if_pos hst])
  have HST := Lib.hid (show (m1F m t).st = 2 from hst)
  have hdI : ¬ (nowF m t : Int) < (m.sent : Int) + 4 := by omega
  have hdB : decide ((nowF m t : Int) < (m.sent : Int) + 4) = false := decide_eq_false hdI
  have hab : (a == 1) = false := by simpa using ha
  have hnB : (((m.num : Int) + 1) == (m.lim : Int)) = false := by simp; omega
  have hw1 := IntWalk.i64_in ((m.num : Int) + 1) (by omega)
  obtain ⟨vA, vk, vc, rfl⟩ := own_form hP.2
  clear hst ht hdue ha hnl
  go_enter Try.func15, Try.ntmps15
  go_wp2_with (first
    | (go_at_call 25; (with_reducible refine (none_any b _ m _ hP.1).mono ?_); rintro e w' ⟨rfl, hw⟩; subst w'; rw [hd])
    | (go_at_call 30; (with_reducible refine (timed_any t _).mono ?_); rintro e w' ⟨rfl, hw⟩; subst w'; rw [hf])
    | ((with_reducible refine wpList_store_int rfl 3 (.tmp 32) (.tmp 30) rfl b 4 .i64 _ rfl rfl hP.1 H3.out ?_ ?_); (exact (by decide : 4 < 6)); intro w5 hb5 ho5; rw [cells_now (t := t) (by unfold nowF; omega)] at hb5; have hB5 := Lib.hid ((But.refl b w.heap.size w).only ho5 (.inl rfl)); have own5 := Lib.hid (own_only hP.2 ho5 (own_ne_blk hP.2 hP.1 (by decide))); have c0 : w5.cell? ⟨b, 0, none⟩ = some (.slice vA vk vc) := hb5.cell 0; have c1 : w5.cell? ⟨b, 1, none⟩ = some (.int .i64 m.num) := hb5.cell 1; have c2 : w5.cell? ⟨b, 2, none⟩ = some (.int .i64 m.lim) := hb5.cell 2; have c3 : w5.cell? ⟨b, 3, none⟩ = some (.int .i64 m.st) := hb5.cell 3; have c4 : w5.cell? ⟨b, 4, none⟩ = some (.int .i64 (nowF m t)) := hb5.cell 4; clear ho5)
    | (go_at_call 27; (with_reducible refine (allowed_c b m.st 2 _ ?_ _ c3).mono ?_); (rfl); rintro e w' ⟨rfl, hw⟩; subst w'; rw [hC.out]))
  all_goals
    go_quiet ((go_at_call 16; exact Calls.quiet_of_same (due_wait b _ (m1F m t) m.sent _ hb5 hl0 hs HST.out rfl)))
    go_wp2_with fail
    go_quiet (fail)
    go_wp2_with fail
    go_region_with ((go_at_call 28; (with_reducible refine (enter_any b (.slice vA vk vc) (m1F m t) 1 (m.num + 1) _ _ ?_ ?_ vA vk vc _ ?_).mono ?_); (rfl); (rfl); (exact hb5); rintro e w6 ⟨rfl, hk, ho⟩; have HK := Lib.hid hk; have HO := Lib.hid ho; clear hk ho))
    all_goals
      go_wp2
      go_ret2
      exact ⟨rfl, ⟨HK.out, own_only (own_drewN own5.out _) HO.out (own_ne_blk own5.out hb5 (by decide))⟩, (hB5.out.drewN _).only HO.out (.inl rfl), .inl rfl⟩
end Go.Proofs.Ythbpmofabcilhaa
