/-
  The trellis, walks: the examples of the chapter.
-/
import Derived.Test.YtkcccoialmineaaTreF
import Derived.Test.YtkcccoialmineaaTreH
import Derived.Test.YtkcccoialmineaaEq
namespace Go.Proofs.Ytkcccoialmineaa
open Go.RowKit
attribute [-go_sem] Instr.build

theorem bsl_lit {w : World} {b n : Nat} {C : Array Value} {t : TypeId} (l : List UInt8) (h : Blk w b C t) (hc : C = bytesV l) (hn : n = l.length) (hl : l.length ≤ maxLen) : Bsl w (.slice (some ⟨b, 0, none⟩) n n) l := by
  subst hc hn; exact bsl_row h hl
theorem encodeB (l : List UInt8) (h : okb l = true) (v : Value) (w : World) (hv : Bsl w v l) (hlen : l.length ≤ 10000) :
    Calls Try.prog 17 #[v] w fun e w' => ∃ v, e = .returned (.tuple #[v, .int .i64 (stt 0 l), .int .i64 0]) ∧ Bsl w' v (par 0 l) ∧ Below w.heap.size w w' := by
  obtain ⟨a, cap, rfl, h1, h2, h3, h4⟩ := hv
  exact encode_ok l h a cap w h4 hlen
theorem step01 (w : World) : Calls Try.prog 10 #[.int .i64 0, .int .i64 1] w fun e w' => e = .returned (.tuple #[.int .i64 4, .int .i64 1, .int .i64 0]) ∧ Below w.heap.size w w' := step_ok 0 1 (by decide) (by decide) w
theorem step40 (w : World) : Calls Try.prog 10 #[.int .i64 4, .int .i64 0] w fun e w' => e = .returned (.tuple #[.int .i64 2, .int .i64 1, .int .i64 0]) ∧ Below w.heap.size w w' := step_ok 4 0 (by decide) (by decide) w
theorem step80 (w : World) : Calls Try.prog 10 #[.int .i64 8, .int .i64 0] w fun e w' => e = .returned (.tuple #[.int .i64 0, .int .i64 0, .int .i64 2]) ∧ Below w.heap.size w w' := step_err 8 0 (by decide) w
theorem tail4 (w : World) : Calls Try.prog 11 #[.int .i64 4] w fun e w' => e = .returned (.tuple #[.agg (bytesV [0, 1, 1]), .agg (bytesV [1, 0, 1]), .int .i64 0]) ∧ Below w.heap.size w w' := tail_ok 4 (by decide) w
theorem prev2 (w : World) : Calls Try.prog 24 #[.int .i64 2] w fun e w' => e = .returned (.tuple #[.agg (prevV 2), .int .i64 0]) ∧ Below w.heap.size w w' := prev_ok 2 (by decide) w
theorem encode4 (v : Value) (w : World) (hv : Bsl w v [1, 0, 0, 0]) : Calls Try.prog 17 #[v] w fun e w' => ∃ v, e = .returned (.tuple #[v, .int .i64 6, .int .i64 0]) ∧ Bsl w' v [1, 1, 1, 1] ∧ Below w.heap.size w w' := encodeB [1, 0, 0, 0] (by decide) v w hv (by decide)
theorem word1 (v : Value) (w : World) (hv : Bsl w v [1]) : Calls Try.prog 19 #[v] w fun e w' => ∃ v', e = .returned (.tuple #[v', .int .i64 0]) ∧ Bsl w' v' [1, 1, 0, 1, 1, 1, 0, 1] ∧ Below w.heap.size w w' := word_ok [1] (by decide) v w hv (by decide)
theorem arr25 : ArrTy Try.prog 25 3 := ⟨⟨5, Try.underlying25, Try.underlying5, by kernel_rfl⟩, by kernel_rfl⟩
theorem e25 (l : List UInt8) (hl : l.length = 3) (w : World) : (binOp .eql 25 (.agg (bytesV l)) (.agg (bytesV l))).run Try.prog w = .ok (.bool true) w := by
  rw [run_eql_arr arr25 l l hl hl, decide_self]
theorem guard25 : Try.prog.eqGuardType Try.prog.depth 25 = false := by kernel_rfl
theorem guard51 : Try.prog.eqGuardType Try.prog.depth 51 = false := by kernel_rfl
theorem b25a (w : World) : (Instr.build 25 #[(0, .int .u8 0), (1, .int .u8 1), (2, .int .u8 1)]).run Try.prog w = .ok (.agg (bytesV [0, 1, 1])) w := run_build w 25 _ _ (by kernel_rfl)
theorem b25b (w : World) : (Instr.build 25 #[(0, .int .u8 1), (1, .int .u8 0), (2, .int .u8 1)]).run Try.prog w = .ok (.agg (bytesV [1, 0, 1])) w := run_build w 25 _ _ (by kernel_rfl)
theorem b50a (w : World) : (Instr.build 50 #[(0, .int .i64 4), (2, .int .i64 1), (3, .int .i64 2)]).run Try.prog w = .ok (.agg #[.int .i64 4, .int .i64 0, .int .i64 1, .int .i64 2]) w := run_build w 50 _ _ (by kernel_rfl)
theorem b50b (w : World) : (Instr.build 50 #[(0, .int .i64 5), (1, .int .i64 1), (3, .int .i64 2)]).run Try.prog w = .ok (.agg #[.int .i64 5, .int .i64 1, .int .i64 0, .int .i64 2]) w := run_build w 50 _ _ (by kernel_rfl)
theorem b51a (w : World) : (Instr.build 51 #[(0, .agg #[.int .i64 4, .int .i64 0, .int .i64 1, .int .i64 2]), (1, .agg #[.int .i64 5, .int .i64 1, .int .i64 0, .int .i64 2])]).run Try.prog w = .ok (.agg (prevV 2)) w := run_build w 51 _ _ (by kernel_rfl)
theorem e51 (w : World) : (binOp .eql 51 (.agg (prevV 2)) (.agg (prevV 2))).run Try.prog w = .ok (.bool true) w := by kernel_rfl
theorem prevV_size (s : Nat) (hs : s < 8) : (prevV s).size = 8 := by
  unfold prevV
  rw [List.size_toArray, flat_len, sel_two ⟨s, hs⟩]
theorem prev_ones (s : Nat) : (prevV s).all (·.oneCell') = true := by
  rw [Array.all_eq_true_iff_forall_mem]
  intro v hv
  simp only [prevV, List.mem_toArray, List.mem_flatMap] at hv
  obtain ⟨i, _, hv⟩ := hv
  simp only [brn, List.mem_cons, List.not_mem_nil, or_false] at hv
  rcases hv with rfl | rfl | rfl | rfl <;> rfl
theorem prev_whole : (prevV 2).extract 0 (0 + 8) = prevV 2 := by kernel_rfl
theorem z51_put : splice Z51 0 (prevV 2).toList = prevV 2 := by kernel_rfl

set_option maxRecDepth 100000 in
set_option maxHeartbeats 2000000 in
theorem works_any (w : World) : Calls Try.prog 13 #[] w fun e w' => e = .returned (.bool true) ∧ Below w.heap.size w w' := by
  have z1 : ∀ w, (zeroValue 25).run Try.prog w = .ok (.agg (bytesV Z3)) w := (zero_of_info zero25).1
  have z2 : ∀ w, (zeroValue 51).run Try.prog w = .ok (.agg Z51) w := (zero_of_info zero51).1
  have hb1 := b25a
  have hb2 := b25b
  have hb3 := b50a
  have hb4 := b50b
  have hb5 := b51a
  have e1 := e25 [0, 1, 1] rfl
  have e2 := e25 [1, 0, 1] rfl
  have e3 := e51
  have g1 := guard25
  have g2 := guard51
  have hps := Lib.hid (prevV_size 2 (by decide))
  go_enter Try.func13, Try.ntmps13
  go_wp2_with (first
    | (go_at_call 10; (with_reducible refine (step01 _).mono ?_); rintro e w1 ⟨rfl, hB⟩)
    | (go_at_call 10; (with_reducible refine (step40 _).mono ?_); rintro e w2 ⟨rfl, hb⟩; replace hB := bnext hB hb; clear hb)
    | (go_at_call 10; (with_reducible refine (step80 _).mono ?_); rintro e w3 ⟨rfl, hb⟩; replace hB := bnext hB hb; clear hb)
    | (go_at_call 17; (with_reducible refine (encode4 _ _ ?_).mono ?_); (exact bsl_lit _ (Blk.new' rfl) rfl rfl (by decide)); rintro e w4 ⟨v4, rfl, hv4, hb⟩; replace hB := bnext (hB.alloc hB.size _) hb; clear hb)
    | (go_at_call 11; (with_reducible refine (tail4 _).mono ?_); rintro e w5 ⟨rfl, hb⟩; replace hB := bnext hB hb; replace hv4 := hv4.below hb; clear hb)
    | ((with_reducible refine wpList_store_blk rfl 25 (.tmp 13) (.tmp 43) rfl w5.heap.size 0 3 (bytesV [0, 1, 1]) rfl rfl ((Blk.new' rfl).alloc _) row25 ?_ ?_ (bytesV_one _) ?_); (rfl); (exact Nat.le_refl 3); intro w6 t13 o6; rw [splice_all Z3 [0, 1, 1] rfl] at t13; have t14 := (Blk.new (w5.alloc (.cells (bytesV Z3) 25)) (bytesV Z3) 25).only o6 (by simp); have hC : Below w5.heap.size w5 w6 := below_only (((Below.refl _ _).alloc (Nat.le_refl _) _).alloc (by simp) _) o6 (Nat.le_refl _))
    | ((with_reducible refine wpList_store_blk rfl 25 (.tmp 14) (.tmp 44) rfl (w5.heap.size + 1) 0 3 (bytesV [1, 0, 1]) rfl rfl (by simpa using t14) row25 ?_ ?_ (bytesV_one _) ?_); (rfl); (exact Nat.le_refl 3); intro w7 t14' o7; rw [splice_all Z3 [1, 0, 1] rfl] at t14'; clear t14; replace t13 := t13.only o7 (by omega); replace hC := below_only hC o7 (Nat.le_succ _); replace hB := bnext hB hC; replace hv4 := hv4.below hC; clear hC)
    | (go_at_call 19; (with_reducible refine (word1 _ _ ?_).mono ?_); (exact bsl_lit _ (Blk.new' rfl) rfl rfl (by decide)); rintro e w8 ⟨v8, rfl, hv8, hb⟩; have hk := ((Below.refl w7.heap.size w7).alloc (Nat.le_refl _) (.cells #[.int .u8 1] 5)); replace hb := bnext hk hb; replace hB := bnext hB hb; replace hv4 := hv4.below hb; replace t13 := t13.below hb t13.lt; replace t14' := t14'.below hb t14'.lt; clear hb hk)
    | (go_at_call 24; (with_reducible refine (prev2 _).mono ?_); rintro e w9 ⟨rfl, hb⟩; replace hB := bnext hB hb; replace hv4 := hv4.below hb; replace hv8 := hv8.below hb; replace t13 := t13.below hb t13.lt; replace t14' := t14'.below hb t14'.lt; clear hb)
    | ((with_reducible refine wpList_store_blk rfl 51 (.tmp 18) (.tmp 53) rfl w9.heap.size 0 8 (prevV 2) rfl rfl (Blk.new' rfl) row51 ?_ ?_ (prev_ones _) ?_); (exact hps.out); (exact Nat.le_refl 8); intro w10 t18 o10; rw [z51_put] at t18; have hC : Below w9.heap.size w9 w10 := below_only ((Below.refl _ _).alloc (Nat.le_refl _) _) o10 (Nat.le_refl _); replace hB := bnext hB hC; replace hv4 := hv4.below hC; replace hv8 := hv8.below hC; replace t13 := t13.below hC t13.lt; replace t14' := t14'.below hC t14'.lt; clear hC)
    | (go_at_call 15; (with_reducible refine (num_any _ _).mono ?_); rintro e w' ⟨rfl, hw⟩; subst w')
    | (go_at_call 21; (with_reducible refine (same_any [1, 1, 1, 1] [1, 1, 1, 1] _ _ _ ?_ ?_).mono ?_); (exact hv4.below ((Below.refl _ _).alloc (Nat.le_refl _) _)); (exact bsl_lit _ (Blk.new' rfl) rfl rfl (by decide)); rintro e w' ⟨rfl, hw⟩; subst w'; rw [decide_self])
    | ((with_reducible refine wpList_load_blk_g 25 (.tmp 13) rfl w5.heap.size 0 3 rfl (t13.alloc _) row25 ?_ ?_ (bytesV [0, 1, 1]) ?_ ?_); (rfl); (exact Nat.le_refl 3); (rfl))
    | ((with_reducible refine wpList_load_blk_g 25 (.tmp 14) rfl (w5.heap.size + 1) 0 3 rfl (t14'.alloc _) row25 ?_ ?_ (bytesV [1, 0, 1]) ?_ ?_); (rfl); (exact Nat.le_refl 3); (rfl))
    | (go_at_call 21; (with_reducible refine (same_any [1, 1, 0, 1, 1, 1, 0, 1] [1, 1, 0, 1, 1, 1, 0, 1] _ _ _ ?_ ?_).mono ?_); (exact hv8.below (((Below.refl _ _).alloc (Nat.le_refl _) _).alloc (by simp) _)); (exact bsl_lit _ (Blk.new' (by simp)) rfl rfl (by decide)); rintro e w' ⟨rfl, hw⟩; subst w'; rw [decide_self])
    | ((with_reducible refine wpList_load_blk_g 51 (.tmp 18) rfl w9.heap.size 0 8 rfl ((t18.alloc _).alloc _) row51 ?_ ?_ (prevV 2) ?_ ?_); (rfl); (rw [hps.out]; exact Nat.le_refl 8); (exact prev_whole)))
  go_ret
  exact ⟨rfl, (hB.alloc hB.size _).alloc (by have := hB.size; simp; omega) _⟩
end Go.Proofs.Ytkcccoialmineaa
