/-
  A transmitting process, walks: the chapter's examples.
-/
import Derived.Test.YthbpmofabcilhaaHarK
set_option linter.unusedSimpArgs false
set_option linter.unusedVariables false
namespace Go.Proofs.Ythbpmofabcilhaa
open Go.RowKit
attribute [-go_sem] Instr.build

theorem byt_new (w : World) (C : Array Value) (l : List UInt8) (h : C = bytesV l) : Byt (w.alloc (.cells C 5)) (some ⟨w.heap.size, 0, none⟩) l := by
  subst h
  exact fun _ => ⟨w.heap.size, 0, rfl, by simp, fun i hi => by rw [Nat.zero_add]; exact (Blk.new w _ 5).gd i hi⟩
theorem below_new {a w : World} (h : Below a.heap.size a w) (o : Obj) : Below a.heap.size a (w.alloc o) := h.alloc h.size _
theorem alloc_below (w : World) (o : Obj) : Below w.heap.size w (w.alloc o) := (Below.refl _ _).alloc (Nat.le_refl _) _
set_option maxRecDepth 100000 in
set_option maxHeartbeats 4000000 in
theorem known_any (w : World) : Calls Try.prog 9 #[] w fun e w' => e = .returned (.bool true) ∧ Below w.heap.size w w' := by
  have hz := z32
  have hba := build32a
  have hbb := build32b
  go_enter Try.func9, Try.ntmps9
  go_wp2_with fail
  (with_reducible refine (new_lit 2 _ ?_ ?_ ?_ _).mono ?_)
  · rfl
  · decide
  · decide
  rintro e w1 ⟨rfl, hP1, hB1, hs1⟩
  go_wp2_with fail
  (with_reducible refine (load_lit w.heap.size _ _ [1, 0] 2 _ _ _ ⟨2, 1, [1, 0], 0, 0, 0⟩ 0 ?_ (hP1.below (alloc_below _ _)) ?_ (byt_new _ _ _ ?_) ?_ ?_ ?_ ?_).mono ?_)
  · rfl
  · decide
  · rfl
  · exact fun h => nomatch h
  · decide
  · rfl
  · rfl
  rintro e w2 ⟨v2, rfl, hP2, ⟨hb2, _⟩⟩
  have hB2 := Lib.hid (below_but (below_new hB1 _) hb2 (Nat.le_refl _) (by simp; omega))
  have hs2 : w.heap.size < w2.heap.size := hP2.1.lt
  have HP2 := Lib.hid hP2
  clear hb2 hP1 hP2 hB1 hs1
  go_wp2_with fail
  (with_reducible refine (send_lit w.heap.size v2 _ _ _ ⟨2, 2, [1, 0], 0, 10, 10⟩ 0 0 true HP2.out ?_ ?_ ?_ ?_ ?_ ?_ ?_ ?_).mono ?_)
  · decide
  · decide
  · rfl
  · decide
  · rfl
  · rfl
  · rfl
  · rfl
  rintro e w3 ⟨A3, k3, c3, rfl, hu3, hP3, hb3⟩
  have hB3 := Lib.hid (below_but hB2.out hb3 (Nat.le_refl _) (by omega))
  have hs3 : w.heap.size < w3.heap.size := hP3.1.lt
  have HP3 := Lib.hid hP3
  have HU3 := Lib.hid hu3
  clear hb3 hP3 hu3 HP2 hB2
  go_wp2_with fail
  have hQ3 := HP3.out.below (alloc_below w3 (.cells #[.slice A3 k3 c3, .int .i64 0, .int .i64 0, .bool true] 32))
  (with_reducible refine (fbs_lit w.heap.size v2 _ _ _ _ ⟨2, 2, [1, 0], 0, 13, 10⟩ hQ3 ?_ ?_ ?_ ?_ ?_ ?_).mono ?_)
  · decide
  · decide
  · decide
  · decide
  · exact .inr (by decide)
  · rfl
  rintro e w4 ⟨rfl, hP4, hb4⟩
  have T4 := Lib.hid ((Blk.new' rfl : Blk (w3.alloc (.cells #[.slice A3 k3 c3, .int .i64 0, .int .i64 0, .bool true] 32)) w3.heap.size _ 32).but hb4 (by simp) (by omega))
  have U4 := Lib.hid (own_but (HU3.out.alloc _) hb4 (own_ne_blk (HU3.out.alloc _) hQ3.1 (by decide)))
  have B4 := Lib.hid (below_but (below_new hB3.out _) hb4 (Nat.le_refl _) (by simp; omega))
  have hs4 : w3.heap.size < w4.heap.size := T4.out.lt
  have HP4 := Lib.hid hP4
  clear hb4 hP4 HP3 HU3 hB3 hQ3
  go_wp2_with fail
  (with_reducible refine (fbn_lit w.heap.size v2 _ _ _ _ ⟨2, 1, [1, 0], 1, 14, 10⟩ HP4.out ?_ ?_ ?_ ?_ ?_ ?_ ?_).mono ?_)
  · decide
  · decide
  · decide
  · decide
  · decide
  · decide
  · rfl
  rintro e w5 ⟨rfl, hP5, hb5⟩
  have T5 := Lib.hid (T4.out.but hb5 (by omega) (by omega))
  have U5 := Lib.hid (own_but U4.out hb5 (own_ne_blk U4.out HP4.out.1 (by decide)))
  have B5 := Lib.hid (below_but B4.out hb5 (Nat.le_refl _) (by omega))
  have hs5 : w3.heap.size < w5.heap.size := T5.out.lt
  have HP5 := Lib.hid hP5
  clear hb5 hP5 HP4 T4 U4 B4
  go_wp2_with fail
  (with_reducible refine (send_lit w.heap.size v2 _ _ _ ⟨2, 2, [1, 0], 1, 14, 14⟩ 2 1 false HP5.out ?_ ?_ ?_ ?_ ?_ ?_ ?_ ?_).mono ?_)
  · decide
  · decide
  · rfl
  · decide
  · rfl
  · rfl
  · rfl
  · rfl
  rintro e w6 ⟨A6, k6, c6, rfl, hu6, hP6, hb6⟩
  have T6 := Lib.hid (T5.out.but hb6 (by omega) (by omega))
  have U6 := Lib.hid (own_but U5.out hb6 (own_ne_blk U5.out HP5.out.1 (by decide)))
  have B6 := Lib.hid (below_but B5.out hb6 (Nat.le_refl _) (by omega))
  have hs6 : w3.heap.size < w6.heap.size := T6.out.lt
  have HP6 := Lib.hid hP6
  have HU6 := Lib.hid hu6
  clear hb6 hP6 hu6 HP5 T5 U5 B5
  go_wp2_with fail
  have hQ6 := HP6.out.below (alloc_below w6 (.cells #[.slice A6 k6 c6, .int .i64 2, .int .i64 1, .bool false] 32))
  (with_reducible refine (fbx_lit w.heap.size v2 _ _ _ _ ⟨2, 0, [], 0, 18, 14⟩ hQ6 ?_ ?_ ?_ ?_ ?_ ?_ ?_).mono ?_)
  · decide
  · decide
  · decide
  · decide
  · decide
  · decide
  · rfl
  rintro e w7 ⟨rfl, hP7, hb7⟩
  have R7 := Lib.hid ((Blk.new' rfl : Blk (w6.alloc (.cells #[.slice A6 k6 c6, .int .i64 2, .int .i64 1, .bool false] 32)) w6.heap.size _ 32).but hb7 (by simp) (by omega))
  have T7 := Lib.hid ((T6.out.alloc _).but hb7 (by simp; omega) (by omega))
  have U7 := Lib.hid (own_but (U6.out.alloc _) hb7 (own_ne_blk (U6.out.alloc _) hQ6.1 (by decide)))
  have V7 := Lib.hid (own_but (HU6.out.alloc _) hb7 (own_ne_blk (HU6.out.alloc _) hQ6.1 (by decide)))
  have B7 := Lib.hid (below_but (below_new B6.out _) hb7 (Nat.le_refl _) (by simp; omega))
  clear hb7 hP7 HP6 T6 U6 B6 HU6 hQ6
  have a0 : w7.cell? ⟨w3.heap.size, 0, none⟩ = some (.slice A3 k3 c3) := T7.out.cell 0
  have a1 : w7.cell? ⟨w3.heap.size, 1, none⟩ = some (.int .i64 0) := T7.out.cell 1
  have a2 : w7.cell? ⟨w3.heap.size, 2, none⟩ = some (.int .i64 0) := T7.out.cell 2
  have a3 : w7.cell? ⟨w3.heap.size, 3, none⟩ = some (.bool true) := T7.out.cell 3
  go_wp2_with fail
  (with_reducible refine (rsame_eq [1, 0] _ _ _ _ _ _ (bsl_own (U7.out.alloc _)) (bsl_lit [1, 0] (Blk.new' rfl) ?_ ?_ ?_)).mono ?_)
  · rfl
  · rfl
  · decide
  rintro e w8 ⟨rfl, hb8⟩
  have hb8' := bnext (alloc_below w7 _) hb8
  have R8 := Lib.hid (R7.out.below hb8' R7.out.lt)
  have V8 := Lib.hid (own_below V7.out hb8')
  have B8 := Lib.hid (bnext B7.out hb8')
  have a0 : w8.cell? ⟨w6.heap.size, 0, none⟩ = some (.slice A6 k6 c6) := R8.out.cell 0
  have a1 : w8.cell? ⟨w6.heap.size, 1, none⟩ = some (.int .i64 2) := R8.out.cell 1
  have a2 : w8.cell? ⟨w6.heap.size, 2, none⟩ = some (.int .i64 1) := R8.out.cell 2
  have a3 : w8.cell? ⟨w6.heap.size, 3, none⟩ = some (.bool false) := R8.out.cell 3
  clear hb8 hb8' R7 V7 B7 T7 U7
  go_wp2_with fail
  (with_reducible refine (rsame_eq [1, 0] _ _ _ _ _ _ (bsl_own (V8.out.alloc _)) (bsl_lit [1, 0] (Blk.new' rfl) ?_ ?_ ?_)).mono ?_)
  · rfl
  · rfl
  · decide
  rintro e w9 ⟨rfl, hb9⟩
  go_wp2
  go_ret
  exact ⟨rfl, bnext (bnext B8.out (alloc_below w8 _)) hb9⟩
end Go.Proofs.Ythbpmofabcilhaa
