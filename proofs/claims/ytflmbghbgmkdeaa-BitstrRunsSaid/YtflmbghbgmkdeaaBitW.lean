/-
  Bit strings, walks: the examples of the chapter.
-/
import Derived.Test.YtflmbghbgmkdeaaBitD
import Derived.Test.YtflmbghbgmkdeaaBitE
set_option linter.unusedSimpArgs false
set_option linter.unusedVariables false
namespace Go.Proofs.Ytflmbghbgmkdeaa
open Go.RowKit

def nine : List UInt8 := [1, 0, 1, 0, 0, 0, 0, 0, 1]
theorem al1 (w : World) (o : Obj) : Below w.heap.size w (w.alloc o) := (Below.refl _ _).alloc (Nat.le_refl _) _
theorem al2 (w : World) (o p : Obj) : Below w.heap.size w ((w.alloc o).alloc p) := bnext (al1 w o) (al1 _ p)
theorem al3 (w : World) (o p q : Obj) : Below w.heap.size w (((w.alloc o).alloc p).alloc q) := bnext (al2 w o p) (al1 _ q)
theorem al4 (w : World) (o p q r : Obj) : Below w.heap.size w ((((w.alloc o).alloc p).alloc q).alloc r) := bnext (al3 w o p q) (al1 _ r)
theorem pack9 (v : Value) (w : World) (hv : Bsl w v nine) : Calls Try.prog 23 #[v] w fun e w' => ∃ u, e = .returned (.tuple #[u, .int .i64 0]) ∧ Bsl w' u [160, 128] ∧ Below w.heap.size w w' := by
  have e : packL ((nine.length + 7) / 8) nine = [160, 128] := by decide +kernel
  rw [← e]; exact pack_ok nine v w hv (by decide) (by decide)
theorem unpack9 (v : Value) (w : World) (hv : Bsl w v [160, 128]) : Calls Try.prog 24 #[v, .int .i64 9] w fun e w' => ∃ u, e = .returned (.tuple #[u, .int .i64 0]) ∧ Bsl w' u nine ∧ Below w.heap.size w w' := by
  have e : unpackL [160, 128] 9 = nine := by decide +kernel
  rw [← e]; exact unpack_ok [160, 128] 9 v w hv (by decide) (by decide)
theorem unpackS (v : Value) (w : World) (hv : Bsl w v [160]) : Calls Try.prog 24 #[v, .int .i64 9] w fun e w' => e = .returned (.tuple #[.slice none 0 0, .int .i64 5]) ∧ Below w.heap.size w w' := unpack_short [160] 9 v w hv (by decide) (by decide)
theorem fu54 (w : World) : Calls Try.prog 11 #[.int .u64 5, .int .i64 4] w fun e w' => ∃ u, e = .returned (.tuple #[u, .int .i64 0]) ∧ Bsl w' u [0, 1, 0, 1] ∧ Below w.heap.size w w' := by
  have e : bitsL 5 4 = [0, 1, 0, 1] := by decide +kernel
  rw [← e]; exact fromuint_ok 5 4 (by decide) (by decide) (by decide) w
theorem fu52 (w : World) : Calls Try.prog 11 #[.int .u64 5, .int .i64 2] w fun e w' => e = .returned (.tuple #[.slice none 0 0, .int .i64 4]) ∧ Below w.heap.size w w' := fromuint_long 5 2 (by decide) (by decide) w
theorem uint5 (v : Value) (w : World) (hv : Bsl w v [0, 1, 0, 1]) : Calls Try.prog 13 #[v] w fun e w' => e = .returned (.tuple #[.int .u64 5, .int .i64 0]) ∧ Below w.heap.size w w' := uint_ok [0, 1, 0, 1] v w hv (by decide) (by decide)
theorem uint2 (v : Value) (w : World) (hv : Bsl w v [2]) : Calls Try.prog 13 #[v] w fun e w' => e = .returned (.tuple #[.int .u64 0, .int .i64 3]) ∧ Below w.heap.size w w' := uint_err [2] v w hv (by decide) (by decide)
theorem xor3 (v u : Value) (w : World) (hv : Bsl w v [1, 1, 0]) (hu : Bsl w u [0, 1, 1]) : Calls Try.prog 17 #[v, u] w fun e w' => ∃ r, e = .returned (.tuple #[r, .int .i64 0]) ∧ Bsl w' r [1, 0, 1] ∧ Below w.heap.size w w' := xor_ok [1, 1, 0] [0, 1, 1] v u w hv hu rfl (by decide) (by decide) (by decide)
theorem dist3 (v u : Value) (w : World) (hv : Bsl w v [1, 1, 0]) (hu : Bsl w u [0, 1, 1]) : Calls Try.prog 19 #[v, u] w fun e w' => e = .returned (.tuple #[.int .i64 2, .int .i64 0]) ∧ Below w.heap.size w w' := distance_ok [1, 1, 0] [0, 1, 1] v u w hv hu rfl (by decide) (by decide) (by decide)
theorem distE (v u : Value) (w : World) (hv : Bsl w v [1]) (hu : Bsl w u [1, 1]) : Calls Try.prog 19 #[v, u] w fun e w' => e = .returned (.tuple #[.int .i64 0, .int .i64 2]) ∧ Below w.heap.size w w' := distance_len [1] [1, 1] v u w hv hu (by decide)
theorem weight3 (v : Value) (w : World) (hv : Bsl w v [1, 1, 0]) : Calls Try.prog 21 #[v] w fun e w' => e = .returned (.int .i64 2) ∧ w' = w := weight_any [1, 1, 0] v w hv (by decide)

set_option maxRecDepth 100000 in
set_option maxHeartbeats 4000000 in
theorem works_any (w : World) : Calls Try.prog 10 #[] w fun e w' => e = .returned (.bool true) ∧ Below w.heap.size w w' := by
  go_enter Try.func10, Try.ntmps10
  go_wp2_with (first
    | (go_at_call 23; (with_reducible refine (pack9 _ _ ?_).mono ?_); (exact bsl_lit nine (Blk.new' rfl) rfl rfl (by decide)); rintro e w1 ⟨u2, rfl, h2, hb⟩; have hn := (bsl_lit nine (Blk.new w _ 5) rfl (show 9 = nine.length from rfl) (by decide)).below hb; have hB := bnext (al1 w _) hb; clear hb)
    | (go_at_call 24; (with_reducible refine (unpack9 _ _ ?_).mono ?_); (exact bsl_lit _ (Blk.new' rfl) rfl rfl (by decide)); rintro e w2 ⟨u4, rfl, h4, hb⟩; replace hb := bnext (al1 w1 _) hb; replace hn := hn.below hb; replace h2 := h2.below hb; replace hB := bnext hB hb; clear hb)
    | (go_at_call 24; (with_reducible refine (unpackS _ _ ?_).mono ?_); (exact bsl_lit _ (Blk.new' rfl) rfl rfl (by decide)); rintro e w3 ⟨rfl, hb⟩; replace hb := bnext (al1 w2 _) hb; replace hn := hn.below hb; replace h2 := h2.below hb; replace h4 := h4.below hb; replace hB := bnext hB hb; clear hb)
    | (go_at_call 11; (with_reducible refine (fu54 _ ).mono ?_); rintro e w4 ⟨u8, rfl, h8, hb⟩; replace hn := hn.below hb; replace h2 := h2.below hb; replace h4 := h4.below hb; replace hB := bnext hB hb; clear hb)
    | (go_at_call 11; (with_reducible refine (fu52 _ ).mono ?_); rintro e w5 ⟨rfl, hb⟩; replace hn := hn.below hb; replace h2 := h2.below hb; replace h4 := h4.below hb; replace h8 := h8.below hb; replace hB := bnext hB hb; clear hb)
    | (go_at_call 13; (with_reducible refine (uint5 _ _ ?_).mono ?_); (exact bsl_lit _ (Blk.new' rfl) rfl rfl (by decide)); rintro e w6 ⟨rfl, hb⟩; replace hb := bnext (al1 w5 _) hb; replace hn := hn.below hb; replace h2 := h2.below hb; replace h4 := h4.below hb; replace h8 := h8.below hb; replace hB := bnext hB hb; clear hb)
    | (go_at_call 13; (with_reducible refine (uint2 _ _ ?_).mono ?_); (exact bsl_lit _ (Blk.new' rfl) rfl rfl (by decide)); rintro e w7 ⟨rfl, hb⟩; replace hb := bnext (al1 w6 _) hb; replace hn := hn.below hb; replace h2 := h2.below hb; replace h4 := h4.below hb; replace h8 := h8.below hb; replace hB := bnext hB hb; clear hb)
    | (go_at_call 17; (with_reducible refine (xor3 _ _ _ ?_ ?_).mono ?_); (exact bsl_lit _ ((Blk.new' rfl).alloc _) rfl rfl (by decide)); (exact bsl_lit _ (Blk.new' (by simp)) rfl rfl (by decide)); rintro e w8 ⟨u16, rfl, h16, hb⟩; replace hb := bnext (al2 w7 _ _) hb; replace hn := hn.below hb; replace h2 := h2.below hb; replace h4 := h4.below hb; replace h8 := h8.below hb; replace hB := bnext hB hb; clear hb)
    | (go_at_call 19; (with_reducible refine (dist3 _ _ _ ?_ ?_).mono ?_); (exact bsl_lit _ ((Blk.new' rfl).alloc _) rfl rfl (by decide)); (exact bsl_lit _ (Blk.new' (by simp)) rfl rfl (by decide)); rintro e w9 ⟨rfl, hb⟩; replace hb := bnext (al2 w8 _ _) hb; replace hn := hn.below hb; replace h2 := h2.below hb; replace h4 := h4.below hb; replace h8 := h8.below hb; replace h16 := h16.below hb; replace hB := bnext hB hb; clear hb)
    | (go_at_call 19; (with_reducible refine (distE _ _ _ ?_ ?_).mono ?_); (exact bsl_lit _ ((Blk.new' rfl).alloc _) rfl rfl (by decide)); (exact bsl_lit _ (Blk.new' (by simp)) rfl rfl (by decide)); rintro e w10 ⟨rfl, hb⟩; replace hb := bnext (al2 w9 _ _) hb; replace hn := hn.below hb; replace h2 := h2.below hb; replace h4 := h4.below hb; replace h8 := h8.below hb; replace h16 := h16.below hb; replace hB := bnext hB hb; clear hb)
    | (go_at_call 16; (with_reducible refine (num_any _ _).mono ?_); rintro e w' ⟨rfl, hw⟩; subst w')
    | (go_at_call 15; (with_reducible refine (same_any [160, 128] [160, 128] _ _ _ ?_ ?_).mono ?_); (exact h2.below (al1 _ _)); (exact bsl_lit _ (Blk.new' rfl) rfl rfl (by decide)); rintro e w' ⟨rfl, hw⟩; subst w'; rw [decide_self])
    | (go_at_call 15; (with_reducible refine (same_any nine nine _ _ _ ?_ ?_).mono ?_); (exact h4.below (al1 _ _)); (exact hn.below (al1 _ _)); rintro e w' ⟨rfl, hw⟩; subst w'; rw [decide_self])
    | (go_at_call 15; (with_reducible refine (same_any [0, 1, 0, 1] [0, 1, 0, 1] _ _ _ ?_ ?_).mono ?_); (exact h8.below (al2 _ _ _)); (exact bsl_lit _ (Blk.new' (by simp)) rfl rfl (by decide)); rintro e w' ⟨rfl, hw⟩; subst w'; rw [decide_self])
    | (go_at_call 15; (with_reducible refine (same_any [1, 0, 1] [1, 0, 1] _ _ _ ?_ ?_).mono ?_); (exact h16.below (al3 _ _ _ _)); (exact bsl_lit _ (Blk.new' (by simp)) rfl rfl (by decide)); rintro e w' ⟨rfl, hw⟩; subst w'; rw [decide_self])
    | (go_at_call 21; (with_reducible refine (weight3 _ _ ?_).mono ?_); (exact bsl_lit _ (Blk.new' (by simp)) rfl rfl (by decide)); rintro e w' ⟨rfl, hw⟩; subst w')
    | fail)
  go_ret
  exact ⟨rfl, bnext hB (al4 _ _ _ _ _)⟩
end Go.Proofs.Ytflmbghbgmkdeaa
