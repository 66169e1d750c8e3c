/-
  The law's helpers, walks: agrees; an operation on both sides.
-/
import Derived.Test.YthbpmofabcilhaaHarU
set_option linter.unusedSimpArgs false
set_option linter.unusedVariables false
namespace Go.Proofs.Ythbpmofabcilhaa
open Go.RowKit
attribute [-go_sem] Instr.build

/-- The bounds of a process. -/
structure OkH (m : Hq) : Prop where
  l1 : 1 ≤ m.lim
  l16 : m.lim ≤ 16
  st : m.st ≤ 2
  num : m.num < m.lim
  now : m.now ≤ 1073741824
  sent : m.sent ≤ 1073741824
  blk : m.blk.length ≤ 1000
theorem agrees_any (b : Nat) (v u : Value) (m : Hq) (hm : OkH m) (w : World) (h : Blk w b (cellsH v m) 64) :
    Calls Try.prog 18 #[.pointer (some ⟨b, 0, none⟩), .agg (cellsR u m)] w fun e w' => e = .returned (.bool true) ∧ Below w.heap.size w w' := by
  have hl0 : m.lim ≠ 0 := by have := hm.l1; omega
  have p1 := fun W (h : Blk W b (cellsH v m) 64) => state_any b v m W h hl0
  have p2 := fun W (h : Blk W b (cellsH v m) 64) => number_any b v m W h hl0
  have p3 := fun W (h : Blk W b (cellsH v m) 64) => due_any b v m W h hl0 (by have := hm.sent; omega)
  have p4 := rdue_any u m hm.sent
  obtain ⟨C, hC⟩ : ∃ C, C = cellsR u m := ⟨_, rfl⟩
  obtain ⟨g, hg⟩ : ∃ g, g = w.heap.size := ⟨_, rfl⟩
  have hCs := Lib.hid (show C.size = 6 by rw [hC]; rfl)
  have C1 := Lib.hid (show C[1]? = some (.int .i64 m.st) by rw [hC]; rfl)
  have C3 := Lib.hid (show C[3]? = some (.int .i64 m.num) by rw [hC]; rfl)
  have hB : Below w.heap.size w (w.alloc (.cells C 48)) := (Below.refl _ _).alloc (Nat.le_refl _) _
  have s0 : Blk (w.alloc (.cells C 48)).drew g C 48 ∧ Blk (w.alloc (.cells C 48)).drew b (cellsH v m) 64 := by
    rw [hg]
    exact ⟨(Blk.new' rfl).drew, (h.alloc _).drew⟩
  have e1 : ((m.st : Int) == m.st) = true := by simp
  have e2 : ((m.num : Int) == m.num) = true := by simp
  have e3 : (dueF m == dueF m) = true := by simp
  rw [← hC] at p4 ⊢
  have hg' := Lib.hid hg
  replace p1 := Lib.hid p1
  replace p2 := Lib.hid p2
  replace p3 := Lib.hid p3
  replace p4 := Lib.hid p4
  clear h hm hC
  generalize dueF m = du at *
  go_enter Try.func18, Try.ntmps18
  go_wp2
  rw [← hg]
  clear hg
  refine wp_region_held_drew (S := fun w' => Blk w' g C 48 ∧ Blk w' b (cellsH v m) 64) (by kernel_rfl) s0 (fun hHeld => ?_)
  have hBd := hB.drew
  generalize (w.alloc (.cells C 48)).drew = W7 at *
  refine wpAnyH_takeD 0 (some 5) (v := (.pointer (some ⟨b, 0, none⟩))) rfl rfl (by kernel_rfl) (by kernel_rfl) (by kernel_rfl) (fun _ _ _ h => h) (yieldsIf_calc rfl (fun w => by unfold execOp; go_simp)) (by assumption) ?_; try simp only [Act.put, List.setIfInBounds_toArray, List.set_cons_zero, List.set_cons_succ, Array.toArray_toList]
  refine wpAnyH_takeD 2 (some 7) (v := (.pointer (some ⟨g, 1, none⟩))) rfl rfl (by kernel_rfl) (by kernel_rfl) (by kernel_rfl) (fun _ _ _ h => h) (yieldsIf_calc rfl (fun w => by unfold execOp; go_simp)) (by assumption) ?_; try simp only [Act.put, List.setIfInBounds_toArray, List.set_cons_zero, List.set_cons_succ, Array.toArray_toList]
  refine wpAnyH_takeD 3 (some 8) (v := (.int .i64 (m.st : Nat))) rfl rfl (by kernel_rfl) (by kernel_rfl) (by kernel_rfl) (fun _ _ _ h => h) (.inl ⟨rfl, fun wS hSw => by have y1 := (hSw.1.cell 1).trans C1.out; have y3 := (hSw.1.cell 3).trans C3.out; unfold execOp; go_simp⟩) (by assumption) ?_; try simp only [Act.put, List.setIfInBounds_toArray, List.set_cons_zero, List.set_cons_succ, Array.toArray_toList]
  refine wpAnyH_one 1 rfl (by kernel_rfl) (fun K' hK' => ?_)
  go_simp
  (go_at_call 14; (with_reducible refine (p1.out _ s0.2).mono ?_); rintro e w8 ⟨rfl, hw⟩; subst hw)
  go_wp2
  refine hK'.out _ _ (s0) ?_; clear hK' K'; try simp only [Act.put, List.setIfInBounds_toArray, List.set_cons_zero, List.set_cons_succ, Array.toArray_toList]
  refine wpAnyH_takeD 4 (some 9) (v := (.bool true)) rfl rfl (by kernel_rfl) (by kernel_rfl) (by kernel_rfl) (fun _ _ _ h => h) (yieldsIf_calc rfl (fun w => by unfold execOp; go_simp)) (by assumption) ?_; try simp only [Act.put, List.setIfInBounds_toArray, List.set_cons_zero, List.set_cons_succ, Array.toArray_toList]
  refine wpAnyH_takeD 5 (some 10) (v := (.bool true)) rfl rfl (by kernel_rfl) (by kernel_rfl) (by kernel_rfl) (fun _ _ _ h => h) (yieldsIf_calc rfl (fun w => by unfold execOp; go_simp)) (by assumption) ?_; try simp only [Act.put, List.setIfInBounds_toArray, List.set_cons_zero, List.set_cons_succ, Array.toArray_toList]
  refine wpAnyH_takeD 6 (some 11) (v := (.pointer (some ⟨b, 0, none⟩))) rfl rfl (by kernel_rfl) (by kernel_rfl) (by kernel_rfl) (fun _ _ _ h => h) (yieldsIf_calc rfl (fun w => by unfold execOp; go_simp)) (by assumption) ?_; try simp only [Act.put, List.setIfInBounds_toArray, List.set_cons_zero, List.set_cons_succ, Array.toArray_toList]
  refine wpAnyH_takeD 8 (some 13) (v := (.pointer (some ⟨g, 3, none⟩))) rfl rfl (by kernel_rfl) (by kernel_rfl) (by kernel_rfl) (fun _ _ _ h => h) (yieldsIf_calc rfl (fun w => by unfold execOp; go_simp)) (by assumption) ?_; try simp only [Act.put, List.setIfInBounds_toArray, List.set_cons_zero, List.set_cons_succ, Array.toArray_toList]
  refine wpAnyH_takeD 9 (some 14) (v := (.int .i64 (m.num : Nat))) rfl rfl (by kernel_rfl) (by kernel_rfl) (by kernel_rfl) (fun _ _ _ h => h) (.inl ⟨rfl, fun wS hSw => by have y1 := (hSw.1.cell 1).trans C1.out; have y3 := (hSw.1.cell 3).trans C3.out; unfold execOp; go_simp⟩) (by assumption) ?_; try simp only [Act.put, List.setIfInBounds_toArray, List.set_cons_zero, List.set_cons_succ, Array.toArray_toList]
  refine wpAnyH_one 7 rfl (by kernel_rfl) (fun K' hK' => ?_)
  go_simp
  (go_at_call 21; (with_reducible refine (p2.out _ s0.2).mono ?_); rintro e w8 ⟨rfl, hw⟩; subst hw)
  go_wp2
  refine hK'.out _ _ (s0) ?_; clear hK' K'; try simp only [Act.put, List.setIfInBounds_toArray, List.set_cons_zero, List.set_cons_succ, Array.toArray_toList]
  refine wpAnyH_takeD 10 (some 15) (v := (.bool true)) rfl rfl (by kernel_rfl) (by kernel_rfl) (by kernel_rfl) (fun _ _ _ h => h) (yieldsIf_calc rfl (fun w => by unfold execOp; go_simp)) (by assumption) ?_; try simp only [Act.put, List.setIfInBounds_toArray, List.set_cons_zero, List.set_cons_succ, Array.toArray_toList]
  refine wpAnyH_takeD 11 (some 16) (v := (.bool true)) rfl rfl (by kernel_rfl) (by kernel_rfl) (by kernel_rfl) (fun _ _ _ h => h) (yieldsIf_calc rfl (fun w => by unfold execOp; go_simp)) (by assumption) ?_; try simp only [Act.put, List.setIfInBounds_toArray, List.set_cons_zero, List.set_cons_succ, Array.toArray_toList]
  refine wpAnyH_takeD 12 (some 17) (v := (.bool true)) rfl rfl (by kernel_rfl) (by kernel_rfl) (by kernel_rfl) (fun _ _ _ h => h) (yieldsIf_calc rfl (fun w => by unfold execOp; go_simp)) (by assumption) ?_; try simp only [Act.put, List.setIfInBounds_toArray, List.set_cons_zero, List.set_cons_succ, Array.toArray_toList]
  refine wpAnyH_takeD 13 (some 18) (v := (.pointer (some ⟨b, 0, none⟩))) rfl rfl (by kernel_rfl) (by kernel_rfl) (by kernel_rfl) (fun _ _ _ h => h) (yieldsIf_calc rfl (fun w => by unfold execOp; go_simp)) (by assumption) ?_; try simp only [Act.put, List.setIfInBounds_toArray, List.set_cons_zero, List.set_cons_succ, Array.toArray_toList]
  refine wpAnyH_takeD 15 (some 20) (v := (.agg (C))) rfl rfl (by kernel_rfl) (by kernel_rfl) (by kernel_rfl) (fun _ _ _ h => h) (yieldsIf_load_blk rfl 48 _ rfl (g) 6 (C) 48 rfl (fun _ h => h.1) row48 (hCs.out)) (by assumption) ?_; try simp only [Act.put, List.setIfInBounds_toArray, List.set_cons_zero, List.set_cons_succ, Array.toArray_toList]
  refine wpAnyH_one 14 rfl (by kernel_rfl) (fun K' hK' => ?_)
  go_simp
  (go_at_call 16; (with_reducible refine (p3.out _ s0.2).mono ?_); rintro e w8 ⟨rfl, hw⟩; subst hw)
  go_wp2
  refine hK'.out _ _ (s0) ?_; clear hK' K'; try simp only [Act.put, List.setIfInBounds_toArray, List.set_cons_zero, List.set_cons_succ, Array.toArray_toList]
  refine wpAnyH_one 16 rfl (by kernel_rfl) (fun K' hK' => ?_)
  go_simp
  (go_at_call 32; (with_reducible refine (p4.out _).mono ?_); rintro e w9 ⟨rfl, hw9⟩; have s1 : Blk w9 g C 48 ∧ Blk w9 b (cellsH v m) 64 := ⟨s0.1.below hw9 s0.1.lt, s0.2.below hw9 s0.2.lt⟩)
  go_wp2
  refine hK'.out _ _ (s1) ?_; clear hK' K'; try simp only [Act.put, List.setIfInBounds_toArray, List.set_cons_zero, List.set_cons_succ, Array.toArray_toList]
  refine wpAnyH_takeD 17 (some 22) (v := (.bool true)) rfl rfl (by kernel_rfl) (by kernel_rfl) (by kernel_rfl) (fun _ _ _ h => h) (yieldsIf_calc rfl (fun w => by unfold execOp; go_simp)) (by assumption) ?_; try simp only [Act.put, List.setIfInBounds_toArray, List.set_cons_zero, List.set_cons_succ, Array.toArray_toList]
  refine wpAnyH_takeD 18 (some 23) (v := (.bool true)) rfl rfl (by kernel_rfl) (by kernel_rfl) (by kernel_rfl) (fun _ _ _ h => h) (yieldsIf_calc rfl (fun w => by unfold execOp; go_simp)) (by assumption) ?_; try simp only [Act.put, List.setIfInBounds_toArray, List.set_cons_zero, List.set_cons_succ, Array.toArray_toList]
  refine wpAnyH_takeD 19 (some 4) (v := (.bool true)) rfl rfl (by kernel_rfl) (by kernel_rfl) (by kernel_rfl) (fun _ _ _ h => h) (yieldsIf_calc rfl (fun w => by unfold execOp; go_simp)) (by assumption) ?_; try simp only [Act.put, List.setIfInBounds_toArray, List.set_cons_zero, List.set_cons_succ, Array.toArray_toList]
  refine wpAnyH_done (by kernel_rfl) ?_ _
  go_wp2
  go_ret
  exact ⟨rfl, bnext hBd hw9⟩
end Go.Proofs.Ythbpmofabcilhaa
