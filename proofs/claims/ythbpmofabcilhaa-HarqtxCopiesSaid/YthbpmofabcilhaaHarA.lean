/-
  A transmitting process, walks: its state in memory; the small functions.
-/
import Derived.Test.YthbpmofabcilhaaChecked
import Derived.Test.YthbpmofabcilhaaOne
import Derived.Test.YthbpmofabcilhaaHeld
import Derived.StillTailTactics
import Derived.BigQuiet
import Derived.BigRegion
import Derived.Deep.RegionHeld3
set_option linter.unusedSimpArgs false
set_option linter.unusedVariables false
namespace Go.Proofs.Ythbpmofabcilhaa
open Go.RowKit
attribute [-go_sem] Instr.build

/-- A process as a value. -/
structure Hq where
  lim : Nat
  st : Nat
  blk : List UInt8
  num : Nat
  now : Nat
  sent : Nat
def cellsH (v : Value) (m : Hq) : Array Value := #[v, .int .i64 m.num, .int .i64 m.lim, .int .i64 m.st, .int .i64 m.now, .int .i64 m.sent]
/-- Block b is the process m, whose block of bits is the slice v. -/
structure HP (w : World) (b : Nat) (v : Value) (m : Hq) : Prop where
  at_ : Blk w b (cellsH v m) 64
  own_ : w.ownsRow 0 5 1 v m.blk.length (m.blk.map B)

theorem none_any (b : Nat) (v : Value) (m : Hq) (w : World) (h : Blk w b (cellsH v m) 64) :
    Calls Try.prog 25 #[.pointer (some ⟨b, 0, none⟩)] w fun e w' => e = .returned (.bool (decide (m.lim = 0))) ∧ w' = w := by
  have c2 : w.cell? ⟨b, 2, none⟩ = some (.int .i64 m.lim) := h.cell 2
  have hx : ((m.lim : Int) == 0) = decide (m.lim = 0) := by rw [Bool.eq_iff_iff]; simp
  rw [← hx]
  clear hx
  go_enter Try.func25, Try.ntmps25
  go_wp2
  go_ret
  exact ⟨rfl, rfl⟩
theorem none_nil (w : World) : Calls Try.prog 25 #[.pointer none] w fun e w' => e = .returned (.bool true) ∧ w' = w := by
  go_enter Try.func25, Try.ntmps25
  go_wp2
  go_ret
  exact ⟨rfl, rfl⟩
theorem allowed_any (b : Nat) (v : Value) (m : Hq) (s : Nat) (si : Int) (hsi : si = s) (w : World) (h : Blk w b (cellsH v m) 64) :
    Calls Try.prog 27 #[.pointer (some ⟨b, 0, none⟩), .int .i64 si] w fun e w' => e = .returned (.int .i64 (if m.st = s then 0 else 8)) ∧ w' = w := by
  subst hsi
  have c3 : w.cell? ⟨b, 3, none⟩ = some (.int .i64 m.st) := h.cell 3
  by_cases hs : m.st = s
  · have hx : ((m.st : Int) != (s : Int)) = false := by rw [hs]; simp
    rw [if_pos hs]
    clear hs
    go_enter Try.func27, Try.ntmps27
    go_wp2
    go_ret
    exact ⟨rfl, rfl⟩
  · have hx : ((m.st : Int) != (s : Int)) = true := by simp; omega
    rw [if_neg hs]
    clear hs
    go_enter Try.func27, Try.ntmps27
    go_wp2
    go_ret
    exact ⟨rfl, rfl⟩
theorem allowed_c (b : Nat) (st s : Nat) (si : Int) (hsi : si = s) (w : World) (c3 : w.cell? ⟨b, 3, none⟩ = some (.int .i64 st)) :
    Calls Try.prog 27 #[.pointer (some ⟨b, 0, none⟩), .int .i64 si] w fun e w' => e = .returned (.int .i64 (if st = s then 0 else 8)) ∧ w' = w := by
  subst hsi
  by_cases hs : st = s
  · have hx : ((st : Int) != (s : Int)) = false := by rw [hs]; simp
    rw [if_pos hs]
    clear hs
    go_enter Try.func27, Try.ntmps27
    go_wp2
    go_ret
    exact ⟨rfl, rfl⟩
  · have hx : ((st : Int) != (s : Int)) = true := by simp; omega
    rw [if_neg hs]
    clear hs
    go_enter Try.func27, Try.ntmps27
    go_wp2
    go_ret
    exact ⟨rfl, rfl⟩
theorem timed_any (n : Int) (w : World) : Calls Try.prog 30 #[.int .i64 n] w fun e w' => e = .returned (.bool (decide (0 ≤ n ∧ n < 1073741824))) ∧ w' = w := by
  obtain ⟨r, hr⟩ : ∃ r, r = decide (0 ≤ n ∧ n < 1073741824) := ⟨_, rfl⟩
  rw [← hr]
  have H := Lib.hid hr
  clear hr
  go_enter Try.func30, Try.ntmps30
  go_wp2
  all_goals
    go_ret
    refine ⟨?_, rfl⟩
    rw [H.out]
    refine congrArg (fun b => Ending.returned (Value.bool b)) ?_
    first
      | exact decide_eq_decide.2 (by omega)
      | exact (decide_eq_false (by omega)).symm
theorem state_any (b : Nat) (v : Value) (m : Hq) (w : World) (h : Blk w b (cellsH v m) 64) (hl : m.lim ≠ 0) :
    Calls Try.prog 14 #[.pointer (some ⟨b, 0, none⟩)] w fun e w' => e = .returned (.int .i64 m.st) ∧ w' = w := by
  have c3 : w.cell? ⟨b, 3, none⟩ = some (.int .i64 m.st) := h.cell 3
  have hd : decide (m.lim = 0) = false := by simpa using hl
  go_enter Try.func14, Try.ntmps14
  go_wp2_with (go_at_call 25; (with_reducible refine (none_any b v m _ h).mono ?_); rintro e w' ⟨rfl, hw⟩; subst w'; rw [hd])
  go_ret
  exact ⟨rfl, rfl⟩
theorem number_any (b : Nat) (v : Value) (m : Hq) (w : World) (h : Blk w b (cellsH v m) 64) (hl : m.lim ≠ 0) :
    Calls Try.prog 21 #[.pointer (some ⟨b, 0, none⟩)] w fun e w' => e = .returned (.int .i64 m.num) ∧ w' = w := by
  have c3 : w.cell? ⟨b, 1, none⟩ = some (.int .i64 m.num) := h.cell 1
  have hd : decide (m.lim = 0) = false := by simpa using hl
  go_enter Try.func21, Try.ntmps21
  go_wp2_with (go_at_call 25; (with_reducible refine (none_any b v m _ h).mono ?_); rintro e w' ⟨rfl, hw⟩; subst w'; rw [hd])
  go_ret
  exact ⟨rfl, rfl⟩
def dueF (m : Hq) : Int := if m.st = 2 then (m.sent : Int) + 4 else -1
theorem due_any (b : Nat) (v : Value) (m : Hq) (w : World) (h : Blk w b (cellsH v m) 64) (hl : m.lim ≠ 0) (hs : m.sent ≤ 10000000000) :
    Calls Try.prog 16 #[.pointer (some ⟨b, 0, none⟩)] w fun e w' => e = .returned (.int .i64 (dueF m)) ∧ w' = w := by
  have c3 : w.cell? ⟨b, 3, none⟩ = some (.int .i64 m.st) := h.cell 3
  have c5 : w.cell? ⟨b, 5, none⟩ = some (.int .i64 m.sent) := h.cell 5
  have hd : decide (m.lim = 0) = false := by simpa using hl
  by_cases hst : m.st = 2
  · have hx : ((m.st : Int) != 2) = false := by rw [hst]; rfl
    have hf : dueF m = (m.sent : Int) + 4 := by rw [dueF, if_pos hst]
    rw [hf]
    clear hst hf
    go_enter Try.func16, Try.ntmps16
    go_wp2_with (go_at_call 25; (with_reducible refine (none_any b v m _ h).mono ?_); rintro e w' ⟨rfl, hw⟩; subst w'; rw [hd])
    go_ret
    exact ⟨rfl, rfl⟩
  · have hx : ((m.st : Int) != 2) = true := by simp; omega
    have hf : dueF m = -1 := by rw [dueF, if_neg hst]
    rw [hf]
    clear hst hf
    go_enter Try.func16, Try.ntmps16
    go_wp2_with (go_at_call 25; (with_reducible refine (none_any b v m _ h).mono ?_); rintro e w' ⟨rfl, hw⟩; subst w'; rw [hd])
    go_ret
    exact ⟨rfl, rfl⟩
theorem zero64 : (Try.prog.info? 64).map (fun i => (i.zero, i.size)) = some (some (.agg (cellsH (.slice none 0 0) ⟨0, 0, [], 0, 0, 0⟩)), 6) := by kernel_rfl
theorem build64 (n : Nat) (w : World) : (Instr.build 64 #[(1, .int .i64 n)]).run Try.prog w = .ok (.agg (cellsH (.slice none 0 0) ⟨n, 0, [], 0, 0, 0⟩)) w := run_build w 64 _ _ (by kernel_rfl)
theorem new_ok (n : Nat) (h1 : 1 ≤ n) (h2 : n ≤ 16) (w : World) :
    Calls Try.prog 10 #[.int .i64 n] w fun e w' => e = .returned (.tuple #[.pointer (some ⟨w.heap.size, 0, none⟩), .int .i64 0]) ∧ w' = w.alloc (.cells (cellsH (.slice none 0 0) ⟨n, 0, [], 0, 0, 0⟩) 64) := by
  have hb := build64 n
  go_enter Try.func10, Try.ntmps10
  go_wp2
  go_ret2
  exact ⟨rfl, rfl⟩
theorem new_err (n : Int) (h : n < 1 ∨ 16 < n) (w : World) :
    Calls Try.prog 10 #[.int .i64 n] w fun e w' => e = .returned (.tuple #[.pointer none, .int .i64 2]) ∧ w' = w := by
  rcases h with h | h
  · go_enter Try.func10, Try.ntmps10
    go_wp2
    go_ret2
    exact ⟨rfl, rfl⟩
  · have h' : ¬ n < 1 := by omega
    go_enter Try.func10, Try.ntmps10
    go_wp2
    go_ret2
    exact ⟨rfl, rfl⟩
end Go.Proofs.Ythbpmofabcilhaa
