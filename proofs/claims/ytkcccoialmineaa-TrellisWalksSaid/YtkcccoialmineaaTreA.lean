/-
  The trellis, walks: the register's methods.
-/
import Derived.Test.YtkcccoialmineaaChecked
import Derived.Test.YtkcccoialmineaaTre1
import Derived.Test.YtkcccoialmineaaTail
import Derived.Test.YtkcccoialmineaaCopy
import Derived.Test.YtkcccoialmineaaSli
import Derived.StillTailTactics
import Derived.BigQuiet
import Derived.Deep.QuietTactic
import Derived.BigRegion
namespace Go.Proofs.Ytkcccoialmineaa
open Go.RowKit

def rg (s : Nat) : Array Value := #[.int .i64 ((s / 4 : Nat) : Int), .int .i64 ((s / 2 % 2 : Nat) : Int), .int .i64 ((s % 2 : Nat) : Int)]
theorem row64 : RowTy Try.prog 64 3 := ⟨⟨_, Try.underlying64, rfl⟩, by kernel_rfl⟩
theorem zero64 : (Try.prog.info? 64).map (fun i => (i.zero, i.size)) = some (some (.agg #[.int .i64 0, .int .i64 0, .int .i64 0]), 3) := by kernel_rfl

theorem at_any (s : Nat) (hs : s < 8) (w : World) :
    Calls Try.prog 30 #[.int .i64 s] w fun e w' => e = .returned (.agg (rg s)) ∧ Below w.heap.size w w' := by
  have hc : s = 0 ∨ s = 1 ∨ s = 2 ∨ s = 3 ∨ s = 4 ∨ s = 5 ∨ s = 6 ∨ s = 7 := by omega
  go_enter Try.func30, Try.ntmps30
  rcases hc with rfl | rfl | rfl | rfl | rfl | rfl | rfl | rfl
  all_goals
    go_wp2
    refine bodyPost_ret (results_blk rfl _ _ _ _ 64 3 rfl (Blk.new' rfl) row64 rfl) rfl ?_
    exact ⟨rfl, (Below.refl _ _).alloc (Nat.le_refl _) _⟩

theorem state_any (s : Nat) (hs : s < 8) (w : World) :
    Calls Try.prog 32 #[.agg (rg s)] w fun e w' => e = .returned (.int .i64 s) ∧ Below w.heap.size w w' := by
  have hc : s = 0 ∨ s = 1 ∨ s = 2 ∨ s = 3 ∨ s = 4 ∨ s = 5 ∨ s = 6 ∨ s = 7 := by omega
  unfold rg
  go_enter Try.func32, Try.ntmps32
  rcases hc with rfl | rfl | rfl | rfl | rfl | rfl | rfl | rfl
  all_goals
    go_wp2
    go_ret
    exact ⟨rfl, (Below.refl _ _).alloc (Nat.le_refl _) _⟩

theorem ending_any (s : Nat) (hs : s < 8) (w : World) :
    Calls Try.prog 33 #[.agg (rg s)] w fun e w' => e = .returned (.int .i64 (ub s)) ∧ Below w.heap.size w w' := by
  have hc : s = 0 ∨ s = 1 ∨ s = 2 ∨ s = 3 ∨ s = 4 ∨ s = 5 ∨ s = 6 ∨ s = 7 := by omega
  unfold rg
  go_enter Try.func33, Try.ntmps33
  rcases hc with rfl | rfl | rfl | rfl | rfl | rfl | rfl | rfl
  all_goals
    go_wp2
    go_ret
    exact ⟨rfl, (Below.refl _ _).alloc (Nat.le_refl _) _⟩

theorem step_eq : ∀ (s : Fin 8) (b : Fin 2), bits .xor .i64 (bits .xor .i64 (b.val : Int) (s.val / 2 % 2 : Nat)) (s.val % 2 : Nat) = ((b.val + s.val / 2 + s.val) % 2 : Nat) ∧ bits .xor .i64 (bits .xor .i64 ((b.val + s.val / 2 + s.val) % 2 : Nat) (s.val / 4 : Nat)) (s.val % 2 : Nat) = (pr s.val b.val : Nat) := by decide +kernel
theorem step_rg (s b : Nat) (hs : s < 8) : rg (nx s b) = #[.int .i64 ((b + s / 2 + s) % 2 : Nat), .int .i64 (s / 4 : Nat), .int .i64 (s / 2 % 2 : Nat)] := by
  have h1 : nx s b / 4 = (b + s / 2 + s) % 2 := by unfold nx; omega
  have h2 : nx s b / 2 % 2 = s / 4 := by unfold nx; omega
  have h3 : nx s b % 2 = s / 2 % 2 := by unfold nx; omega
  unfold rg; rw [h1, h2, h3]

theorem step_any (s b : Nat) (hs : s < 8) (hb : b < 2) (w : World) :
    Calls Try.prog 31 #[.agg (rg s), .int .i64 b] w fun e w' => e = .returned (.tuple #[.agg (rg (nx s b)), .int .i64 (pr s b)]) ∧ Below w.heap.size w w' := by
  have ZZ := Lib.hid (show (bits .xor .i64 (bits .xor .i64 (b : Int) (s / 2 % 2 : Nat)) (s % 2 : Nat) = ((b + s / 2 + s) % 2 : Nat) ∧ bits .xor .i64 (bits .xor .i64 ((b + s / 2 + s) % 2 : Nat) (s / 4 : Nat)) (s % 2 : Nat) = (pr s b : Nat)) from step_eq ⟨s, hs⟩ ⟨b, hb⟩)
  have hrg := Lib.hid (show rg (nx s b) = #[.int .i64 ((b + s / 2 + s) % 2 : Nat), .int .i64 (s / 4 : Nat), .int .i64 (s / 2 % 2 : Nat)] from step_rg s b hs)
  obtain ⟨x, hx⟩ : ∃ x : Int, x = (s / 4 : Nat) := ⟨_, rfl⟩
  obtain ⟨y, hy⟩ : ∃ x : Int, x = (s / 2 % 2 : Nat) := ⟨_, rfl⟩
  obtain ⟨z, hz⟩ : ∃ x : Int, x = (s % 2 : Nat) := ⟨_, rfl⟩
  obtain ⟨v, hv⟩ : ∃ x : Int, x = (b : Nat) := ⟨_, rfl⟩
  rw [show rg s = #[.int .i64 x, .int .i64 y, .int .i64 z] by rw [hx, hy, hz]; rfl, ← hv]
  obtain ⟨W, hW⟩ : ∃ W, W = (w.alloc (.cells #[.int .i64 x, .int .i64 y, .int .i64 z] 64)).alloc (.cells #[.int .i64 0, .int .i64 0, .int .i64 0] 64) := ⟨_, rfl⟩
  have b0 : Blk W w.heap.size #[.int .i64 x, .int .i64 y, .int .i64 z] 64 := by rw [hW]; exact (Blk.new' rfl).alloc _
  have b1 : Blk W (w.heap.size + 1) #[.int .i64 0, .int .i64 0, .int .i64 0] 64 := by rw [hW]; exact Blk.new' (by simp)
  have hB : Below w.heap.size w W := by rw [hW]; exact ((Below.refl _ _).alloc (Nat.le_refl _) _).alloc (by simp) _
  have c0 := b0.cell 0
  have c1 := b0.cell 1
  have c2 := b0.cell 2
  have d0 := b1.cell 0
  have d1 := b1.cell 1
  have d2 := b1.cell 2
  have f0 := b1.frozen 0
  have f1 := b1.frozen 1
  have f2 := b1.frozen 2
  simp only [List.getElem?_toArray, List.getElem?_cons_zero, List.getElem?_cons_succ] at c0 c1 c2 d0 d1 d2
  have HW := Lib.hid hW
  have HX := Lib.hid hx
  have HY := Lib.hid hy
  have HZ := Lib.hid hz
  have HV := Lib.hid hv
  clear hW hx hy hz hv
  go_enter Try.func31, Try.ntmps31
  go_wp2_with fail
  rw [← HW.out]
  go_region
  go_wp2
  refine bodyPost_ret (results_blk_tmp rfl _ _ _ _ 64 3 _ rfl rfl (((b1.drew.set 0 _).set 1 _).set 2 _) row64 rfl) rfl ?_
  obtain ⟨z1, z2⟩ := ZZ.out
  rw [hrg.out, ← z2, ← z1, ← HX.out, ← HY.out, ← HZ.out, ← HV.out]
  exact ⟨rfl, ((hB.drew.setCell (by simp) _).setCell (by simp) _).setCell (by simp) _⟩
end Go.Proofs.Ytkcccoialmineaa
