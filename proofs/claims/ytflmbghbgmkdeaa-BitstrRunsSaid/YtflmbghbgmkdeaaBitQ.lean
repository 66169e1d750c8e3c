/-
  Bit strings, runs: the law, its long inputs; its result in a cell.
-/
import Derived.Test.YtflmbghbgmkdeaaBitZ
import Derived.Test.YtflmbghbgmkdeaaBitW
set_option linter.unusedSimpArgs false
set_option linter.unusedVariables false
namespace Go.Proofs.Ytflmbghbgmkdeaa
open Go.RowKit
attribute [-go_sem] Instr.build

theorem run_loadVar_bool (w : World) (b : Nat) (x : Bool) (hc : w.cell? ⟨b, 0, none⟩ = some (.bool x)) : (loadVar 4 ⟨b, 0, none⟩).run Try.prog w = .ok (.bool x) w := by
  go_simp
theorem results_bool {fn : Func} {p : Tmp} (h : fn.results = #[.cell p 4]) (tmps : Array Value) (w : World) (b : Nat) (x : Bool) (hp : tmps.getD p undef = .pointer (some ⟨b, 0, none⟩)) (hc : w.cell? ⟨b, 0, none⟩ = some (.bool x)) :
    (results fn tmps).run Try.prog w = .ok (.bool x) w := by
  have hp' : tmps[p]?.getD undef = .pointer (some ⟨b, 0, none⟩) := by simpa using hp
  have e1 := run_loadVar_bool w b x hc
  simp [results, h, hp', asAddr, e1]
theorem runs_long (v : Value) (l : List UInt8) (many : Int) (w : World) (hv : Bsl w v l) (hl : 500 < l.length) :
    Calls Try.prog 9 #[v, .int .i64 many] w fun e w' => e = .returned (.bool true) ∧ Below w.heap.size w w' := by
  obtain ⟨a, cap, rfl, _, _, _, _⟩ := hv
  have hk := works_any
  obtain ⟨q, hq⟩ : ∃ q, q = l.length := ⟨_, rfl⟩
  rw [← hq] at hl ⊢
  clear hq
  have hB0 : Below w.heap.size w ((w.alloc (.cells #[.int .i64 many] 3)).alloc (.cells #[.bool false] 4)) := ((Below.refl _ _).alloc (Nat.le_refl _) _).alloc (by simp) _
  have k0 : Blk ((w.alloc (.cells #[.int .i64 many] 3)).alloc (.cells #[.bool false] 4)) (w.heap.size + 1) #[.bool false] 4 := Blk.new' (by simp)
  go_enter Try.func9, Try.ntmps9
  go_wp2_with (first
    | (go_at_call 10; (with_reducible refine (hk _).mono ?_); rintro e w9 ⟨rfl, hw9⟩; have hB9 := bnext hB0 hw9; have k9 := k0.below hw9 k0.lt; have c9 := k9.cell 0; have f9 := k9.frozen 0)
    | fail)
  refine bodyPost_ret (results_bool rfl _ _ (w.heap.size + 1) true rfl ?_) rfl ?_
  · exact (k9.set 0 _).cell 0
  · exact ⟨rfl, hB9.setCell (p := ⟨w.heap.size + 1, 0, none⟩) (Nat.le_succ _) _⟩
end Go.Proofs.Ytflmbghbgmkdeaa
