/-
  Bit strings, runs: the clone, the iterator's making.
-/
import Derived.Test.YtflmbghbgmkdeaaBitT
import Derived.Lib.SliceRun
set_option linter.unusedSimpArgs false
set_option linter.unusedVariables false
namespace Go.Proofs.Ytflmbghbgmkdeaa
open Go.RowKit
attribute [-go_sem] Instr.build

theorem byt_none {w : World} {l : List UInt8} (h : Byt w none l) : l = [] := by
  cases l with
  | nil => rfl
  | cons x r =>
    obtain ⟨b, o, e, _⟩ := h (by simp)
    cases e
theorem clone_any (l : List UInt8) (a : Option Addr) (cap : Nat) (w : World) (hb : Byt w a l) (h0 : a = none → cap = 0) (hl : l.length ≤ 1000000) :
    Calls Try.prog 38 #[.slice a l.length cap] w fun e w' => ∃ v, e = .returned v ∧ w'.ownsRow w.heap.size 5 1 v l.length (l.map B) ∧ Below w.heap.size w w' := by
  obtain ⟨i0, hi, hz0, hz1, hz2⟩ := info_parts info5
  cases a with
  | none =>
    obtain rfl := byt_none hb
    obtain rfl := h0 rfl
    have hnil := fun w => Lib.run_eql_slice_nil (P := Try.prog) w 23 5 none 0 0 0 0 Try.underlying23
    clear hb h0
    go_enter Try.func38, Try.ntmps38
    go_wp2
    go_ret
    exact ⟨_, rfl, World.ownsRow_nil _ _ _ _, Below.refl _ _⟩
  | some ad =>
    have hb' := hb.cells (show Below w.heap.size w (w.alloc (.cells #[] 5)) from (Below.refl _ _).alloc (Nat.le_refl _) _)
    have HB := Lib.hid hb'
    have hnil := fun w => Lib.run_eql_slice_nil (P := Try.prog) w 23 5 (some ad) l.length cap 0 0 Try.underlying23
    clear hb hb' h0
    go_enter Try.func38, Try.ntmps38
    go_wp2_with (at_builtin; refine wpList_append_bytes rfl _ _ 23 rfl w.heap.size 5 i0 Try.underlying23 hi hz0 hz1 hz2 _ [] rfl (own_empty w w.heap.size (Nat.le_refl _)) (some ad) l cap rfl (fun h => nomatch h) HB.out ?_ ?_ ?_; (simp; omega); (simp); intro v' w1 hown hg)
    go_ret
    refine ⟨v', rfl, by simpa using hown, ((Below.refl _ _).alloc (Nat.le_refl _) _).grown hg (by simp) (fun k hk => ?_)⟩
    cases hk
    exact Nat.le_refl _

theorem own_parts {w : World} {base : Nat} {v : Value} {l : List UInt8} (h : w.ownsRow base 5 1 v l.length (l.map B)) : ∃ a cap, v = .slice a l.length cap ∧ Byt w a l ∧ (a = none → cap = 0) ∧ ∀ b o, a = some ⟨b, o, none⟩ → base ≤ b ∧ b < w.heap.size := by
  obtain ⟨a, cap, e, _, _, h3, h4⟩ := bsl_own h
  refine ⟨a, cap, e, h4, h3, fun b o ea => ?_⟩
  subst ea e
  exact h.lt b rfl
/-- The iterator over the runs of a copy. -/
theorem runs_any (l : List UInt8) (a : Option Addr) (cap : Nat) (w : World) (hb : Byt w a l) (h0 : a = none → cap = 0) (hl : l.length ≤ 1000000) :
    Calls Try.prog 31 #[.slice a l.length cap] w fun e w' => ∃ k1 a' cap', e = .returned (.func (.func 39) #[] #[.pointer (some ⟨k1, 0, none⟩)]) ∧ Blk w' k1 #[.slice a' l.length cap'] 23 ∧ Byt w' a' l ∧ (∀ b o, a' = some ⟨b, o, none⟩ → w.heap.size ≤ b ∧ b < w'.heap.size) ∧ w.heap.size ≤ k1 ∧ Below w.heap.size w w' := by
  have hc := clone_any l a cap w hb h0 hl
  go_enter Try.func31, Try.ntmps31
  go_wp2_with (first
    | (go_at_call 38; (with_reducible refine hc.mono ?_); rintro e w1 ⟨v, rfl, ho, hB⟩; obtain ⟨a', cap', rfl, hy, _, hg⟩ := own_parts ho; clear ho)
    | fail)
  go_ret
  have hB2 : Below w1.heap.size w1 (w1.alloc (.cells #[.slice a' l.length cap'] 23)) := (Below.refl _ _).alloc (Nat.le_refl _) _
  refine ⟨w1.heap.size, a', cap', rfl, Blk.new' rfl, hy.cells hB2, fun b o e => ?_, hB.size, bnext hB hB2⟩
  obtain ⟨h1, h2⟩ := hg b o e
  exact ⟨h1, Nat.lt_of_lt_of_le h2 hB2.size⟩
end Go.Proofs.Ytflmbghbgmkdeaa
