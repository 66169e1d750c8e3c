/-
  The trellis, walks: the statement TrellisBranches.
-/
import Derived.Test.YtkcccoialmineaaTreP
import Derived.Test.YtkcccoialmineaaHeld
import Derived.Deep.RegionHeld3
namespace Go.Proofs.Ytkcccoialmineaa
open Go.RowKit
attribute [-go_sem] Instr.build

theorem neq50 (k : Nat) (hk : k < 16) : ∀ w, (binOp .neq 50 (.agg (brn k).toArray) (.agg (brn k).toArray)).run Try.prog w = .ok (.bool false) w :=
  lt16 (p := fun k => ∀ w, (binOp .neq 50 (.agg (brn k).toArray) (.agg (brn k).toArray)).run Try.prog w = .ok (.bool false) w) ⟨fun w => by kernel_rfl, fun w => by kernel_rfl, fun w => by kernel_rfl, fun w => by kernel_rfl, fun w => by kernel_rfl, fun w => by kernel_rfl, fun w => by kernel_rfl, fun w => by kernel_rfl, fun w => by kernel_rfl, fun w => by kernel_rfl, fun w => by kernel_rfl, fun w => by kernel_rfl, fun w => by kernel_rfl, fun w => by kernel_rfl, fun w => by kernel_rfl, fun w => by kernel_rfl⟩ k hk
theorem eql51s (s : Nat) (hs : s < 8) : ∀ w, (binOp .eql 51 (.agg (prevV s)) (.agg (prevV s))).run Try.prog w = .ok (.bool true) w :=
  lt8 (p := fun s => ∀ w, (binOp .eql 51 (.agg (prevV s)) (.agg (prevV s))).run Try.prog w = .ok (.bool true) w) ⟨fun w => by kernel_rfl, fun w => by kernel_rfl, fun w => by kernel_rfl, fun w => by kernel_rfl, fun w => by kernel_rfl, fun w => by kernel_rfl, fun w => by kernel_rfl, fun w => by kernel_rfl⟩ s hs
theorem eql51z (w : World) : (binOp .eql 51 (.agg Z51) (.agg Z51)).run Try.prog w = .ok (.bool true) w := by kernel_rfl
theorem guard50 : Try.prog.eqGuardType Try.prog.depth 50 = false := by kernel_rfl

set_option maxRecDepth 100000 in
set_option maxHeartbeats 4000000 in
theorem walk_TrellisBranches (s : Int) (ws : (Lit.int .i64 s).wf = true) (w : World) :
    Calls Try.prog 5 #[.int .i64 s] w fun e w' => e = .returned (.bool true) ∧ Below w.heap.size w w' := by
  have z2 : ∀ w, (zeroValue 51).run Try.prog w = .ok (.agg Z51) w := (zero_of_info zero51).1
  have hbz := fun w => build51z w
  have ez := eql51z
  have g1 := guard51
  have g2 := guard50
  go_enter Try.func5, Try.ntmps5
  go_wp2_with (first
    | (go_at_call 22; (with_reducible refine (branches_any _).mono ?_); rintro e w1 ⟨g, rfl, hg, hB⟩)
    | (go_at_call 23; (with_reducible refine (rbranches_any _).mono ?_); rintro e w2 ⟨v, rfl, hown, hb1⟩; obtain ⟨_, ⟨rfl, hbad⟩ | ⟨q, cap, cur, rfl, hqw, hh, hl, hm, hcs, ht⟩⟩ := hown; (exfalso; cases hbad); replace hg := hg.below hb1 hg.lt; replace hB := bnext hB hb1; have hq : Blk w2 q cur 50 := hh; have hget := Lib.hid (cur_get cur ht); have hcz := Lib.hid (cur_size cur ht); clear hb1 hh hl hm hcs ht hqw)
    | fail)
  have htz := Lib.hid (tab_size 16)
  go_loopw [5] (fun t wr => ∃ k : Nat, k ≤ 16 ∧ t = .int .i64 k ∧ Below w2.heap.size w2 wr) (fun t _ => 16 - (intOf t).toNat)
  case atStart => exact ⟨0, by omega, rfl, Below.refl _ _⟩
  case round =>
    obtain ⟨k, hk, rfl, hC⟩ := hrel
    by_cases hlt : k < 16
    · have hltI : (k : Int) < 16 := by omega
      have hgr := hg.below hC hg.lt
      have hqr := hq.below hC hq.lt
      have h1 := hget.out k hlt
      have h2 := tab_get k hlt
      have hnq := neq50 k hlt
      obtain ⟨a, b, p, n, hbr⟩ := brn_ints k
      rw [hbr] at h1 h2 hnq
      have hcell : ∀ (bb : Nat) (C : Array Value) (t : TypeId), Blk wr bb C t → 64 ≤ C.size → C.extract (k * 4) (k * 4 + 4) = #[.int .i64 a, .int .i64 b, .int .i64 p, .int .i64 n] →
          wr.cell? ⟨bb, k * 4, none⟩ = some (.int .i64 a) ∧ wr.cell? ⟨bb, k * 4 + 1, none⟩ = some (.int .i64 b) ∧ wr.cell? ⟨bb, k * 4 + 2, none⟩ = some (.int .i64 p) ∧ wr.cell? ⟨bb, k * 4 + 3, none⟩ = some (.int .i64 n) := by
        intro bb C t hb hsz he
        have e : ∀ j, j < 4 → C[k * 4 + j]? = (#[Value.int .i64 a, .int .i64 b, .int .i64 p, .int .i64 n])[j]? := by
          intro j hj
          have e1 : (C.extract (k * 4) (k * 4 + 4))[j]? = (#[Value.int .i64 a, .int .i64 b, .int .i64 p, .int .i64 n])[j]? := by rw [he]
          rw [Array.getElem?_extract, if_pos (by omega)] at e1
          exact e1
        exact ⟨(hb.cell _).trans (e 0 (by omega)), (hb.cell _).trans (e 1 (by omega)), (hb.cell _).trans (e 2 (by omega)), (hb.cell _).trans (e 3 (by omega))⟩
      obtain ⟨c0, c1, c2, c3⟩ := hcell g _ _ hgr (by rw [htz.out]; exact Nat.le_refl _) h2
      obtain ⟨d0, d1, d2, d3⟩ := hcell q _ _ hqr hcz.out h1
      clear hcell h1 h2 hbr hgr hqr
      go_wp2_with fail
      go_region_held3 (fun w' => w'.cell? ⟨g, k * 4, none⟩ = some (.int .i64 a) ∧ w'.cell? ⟨g, k * 4 + 1, none⟩ = some (.int .i64 b) ∧ w'.cell? ⟨g, k * 4 + 2, none⟩ = some (.int .i64 p) ∧ w'.cell? ⟨g, k * 4 + 3, none⟩ = some (.int .i64 n) ∧ w'.cell? ⟨q, k * 4, none⟩ = some (.int .i64 a) ∧ w'.cell? ⟨q, k * 4 + 1, none⟩ = some (.int .i64 b) ∧ w'.cell? ⟨q, k * 4 + 2, none⟩ = some (.int .i64 p) ∧ w'.cell? ⟨q, k * 4 + 3, none⟩ = some (.int .i64 n)) (exact ⟨c0, c1, c2, c3, d0, d1, d2, d3⟩) (fail)
      go_wp2
      exact ⟨⟨k + 1, by omega, by go_num, hC.drew⟩, by simp [intOf]; omega⟩
    · obtain rfl : k = 16 := by omega
      replace hB := bnext hB hC
      clear hg hq hC hget hcz
      by_cases hs : 0 ≤ s ∧ s < 8
      · obtain ⟨m, rfl⟩ : ∃ n : Nat, s = n := ⟨s.toNat, by omega⟩
        have hm8 : m < 8 := by omega
        have hv : decide (0 ≤ (m : Int) ∧ (m : Int) < 8) = true := decide_eq_true hs
        have hes := eql51s m hm8
        have HPS := Lib.hid (prevV_size m hm8)
        obtain ⟨PV, hPV⟩ : ∃ x, x = prevV m := ⟨_, rfl⟩
        have HPV := Lib.hid hPV
        rw [← hPV] at hes
        have HP1 := Lib.hid (show PV.all (·.oneCell') = true by rw [hPV]; exact prev_ones m)
        have HP8 := Lib.hid (show PV.size = 8 by rw [hPV]; exact prevV_size m hm8)
        clear hPV
        go_wp2_with (first
          | (go_at_call 24; (with_reducible refine (prev_ok m hm8 _).mono ?_); rintro e w3 ⟨rfl, hb1⟩; rw [← HPV.out]; replace hB := bnext hB hb1; clear hb1)
          | ((with_reducible refine wpList_store_blk rfl 51 (.tmp 6) (.tmp 33) rfl w3.heap.size 0 8 PV rfl rfl (Blk.new' rfl) row51 ?_ ?_ HP1.out ?_); (exact HP8.out); (exact Nat.le_refl 8); intro w4 t6 o4; rw [splice_v8 _ _ rfl HP8.out] at t6; replace hB := below_only (hB.alloc hB.size _) o4 hB.size)
          | (go_at_call 12; (with_reducible refine (rvalid_any _ _).mono ?_); rintro e w' ⟨rfl, hw⟩; subst w'; rw [hv])
          | fail)
        obtain ⟨Sw, hSw⟩ : ∃ Sw : World → Prop, Sw = fun w' => Blk w' w3.heap.size PV 51 ∧ Below w.heap.size w w' := ⟨_, rfl⟩
        have s0 : Sw w4.drew := by rw [hSw]; exact ⟨t6.drew, hB.drew⟩
        have p0 : ∀ w', Sw w' → Blk w' w3.heap.size PV 51 := fun w' h => by rw [hSw] at h; exact h.1
        have a5 : ∀ w', Sw w' → Below w.heap.size w w' := fun w' h => by rw [hSw] at h; exact h.2
        have a4 : ∀ w' w'', Sw w' → Below w'.heap.size w' w'' → Sw w'' := fun w' w'' h hb => by rw [hSw] at h ⊢; exact ⟨h.1.below hb h.1.lt, bnext h.2 hb⟩
        clear hSw t6 hB
        refine wp_region_held_drew (S := Sw) (by kernel_rfl) s0 (fun hHeld => ?_)
        refine wpAnyH_one 0 rfl (by kernel_rfl) (fun K' hK' => ?_)
        go_simp
        refine hK'.out _ _ (by assumption) ?_; clear hK' K'; try simp only [Act.put, List.setIfInBounds_toArray, List.set_cons_zero, List.set_cons_succ]
        refine wpAnyH_one 1 rfl (by kernel_rfl) (fun K' hK' => ?_)
        go_simp
        (go_at_call 15; refine (num_any _ _).mono ?_; rintro e w5 ⟨rfl, hw⟩; subst w5)
        go_wp2
        refine hK'.out _ _ (by assumption) ?_; clear hK' K'; try simp only [Act.put, List.setIfInBounds_toArray, List.set_cons_zero, List.set_cons_succ]
        refine wpAnyH_one 2 rfl (by kernel_rfl) (fun K' hK' => ?_)
        go_simp
        refine hK'.out _ _ (by assumption) ?_; clear hK' K'; try simp only [Act.put, List.setIfInBounds_toArray, List.set_cons_zero, List.set_cons_succ]
        refine wpAnyH_one 3 rfl (by kernel_rfl) (fun K' hK' => ?_)
        go_simp
        refine hK'.out _ _ (by assumption) ?_; clear hK' K'; try simp only [Act.put, List.setIfInBounds_toArray, List.set_cons_zero, List.set_cons_succ]
        refine wpAnyH_take (i := 4) rfl (by kernel_rfl) (by kernel_rfl) (by kernel_rfl) (fun _ _ _ h => h) (yieldsIf_load_blk rfl _ _ rfl (w3.heap.size) 8 (PV) 51 rfl p0 row51 (HP8.out)) (by assumption) ?_
        refine wpAnyH_one 5 rfl (by kernel_rfl) (fun K' hK' => ?_)
        go_simp
        refine hK'.out _ _ (by assumption) ?_; clear hK' K'; try simp only [Act.put, List.setIfInBounds_toArray, List.set_cons_zero, List.set_cons_succ]
        refine wpAnyH_one 6 rfl (by kernel_rfl) (fun K' hK' => ?_)
        go_simp
        (go_at_call 25; refine (rprev_any m hm8 _).mono ?_; rintro e w6 ⟨rfl, hb1⟩; rw [← HPV.out]; have s6 := a4 _ _ s0 hb1; clear hb1)
        go_wp2
        refine hK'.out _ _ (by assumption) ?_; clear hK' K'; try simp only [Act.put, List.setIfInBounds_toArray, List.set_cons_zero, List.set_cons_succ]
        refine wpAnyH_one 7 rfl (by kernel_rfl) (fun K' hK' => ?_)
        go_simp
        refine hK'.out _ _ (by assumption) ?_; clear hK' K'; try simp only [Act.put, List.setIfInBounds_toArray, List.set_cons_zero, List.set_cons_succ]
        refine wpAnyH_one 8 rfl (by kernel_rfl) (fun K' hK' => ?_)
        go_simp
        refine hK'.out _ _ (by assumption) ?_; clear hK' K'; try simp only [Act.put, List.setIfInBounds_toArray, List.set_cons_zero, List.set_cons_succ]
        refine wpAnyH_one 9 rfl (by kernel_rfl) (fun K' hK' => ?_)
        go_simp
        refine hK'.out _ _ (by assumption) ?_; clear hK' K'; try simp only [Act.put, List.setIfInBounds_toArray, List.set_cons_zero, List.set_cons_succ]
        refine wpAnyH_one 10 rfl (by kernel_rfl) (fun K' hK' => ?_)
        go_simp
        (go_at_call 13; refine (works_any _).mono ?_; rintro e w7 ⟨rfl, hb1⟩; have s7 := a4 _ _ s6 hb1; clear hb1)
        go_wp2
        refine hK'.out _ _ (by assumption) ?_; clear hK' K'; try simp only [Act.put, List.setIfInBounds_toArray, List.set_cons_zero, List.set_cons_succ]
        refine wpAnyH_one 11 rfl (by kernel_rfl) (fun K' hK' => ?_)
        go_simp
        refine hK'.out _ _ (by assumption) ?_; clear hK' K'; try simp only [Act.put, List.setIfInBounds_toArray, List.set_cons_zero, List.set_cons_succ]
        refine wpAnyH_one 12 rfl (by kernel_rfl) (fun K' hK' => ?_)
        go_simp
        refine hK'.out _ _ (by assumption) ?_; clear hK' K'; try simp only [Act.put, List.setIfInBounds_toArray, List.set_cons_zero, List.set_cons_succ]
        refine wpAnyH_done (by kernel_rfl) ?_ _
        go_wp2
        go_ret
        exact ⟨rfl, a5 _ s7⟩
      · have hv : decide (0 ≤ s ∧ s < 8) = false := decide_eq_false hs
        go_wp2_with (first
          | (go_at_call 24; (with_reducible refine (prev_err s hs _).mono ?_); rintro e w3 ⟨rfl, hb1⟩; replace hB := bnext hB hb1; clear hb1)
          | ((with_reducible refine wpList_store_blk rfl 51 (.tmp 6) (.tmp 33) rfl w3.heap.size 0 8 Z51 rfl rfl (Blk.new' rfl) row51 ?_ ?_ z51_one ?_); (rfl); (exact Nat.le_refl 8); intro w4 t6 o4; rw [splice_v8 _ _ rfl rfl] at t6; replace hB := below_only (hB.alloc hB.size _) o4 hB.size)
          | (go_at_call 12; (with_reducible refine (rvalid_any _ _).mono ?_); rintro e w' ⟨rfl, hw⟩; subst w'; rw [hv])
          | ((with_reducible refine wpList_load_blk_g 51 (.tmp 6) rfl w3.heap.size 0 8 rfl t6 row51 ?_ ?_ Z51 ?_ ?_); (rfl); (exact Nat.le_refl 8); (rfl))
          | (go_at_call 13; (with_reducible refine (works_any _).mono ?_); rintro e w9 ⟨rfl, hb1⟩; replace hB := bnext hB hb1; clear hb1)
          | fail)
        go_ret
        exact ⟨rfl, hB⟩
end Go.Proofs.Ytkcccoialmineaa
