/-
  The reference's process, walks: Send, Feedback.
-/
import Derived.Test.YthbpmofabcilhaaHarT
set_option linter.unusedSimpArgs false
set_option linter.unusedVariables false
namespace Go.Proofs.Ythbpmofabcilhaa
open Go.RowKit
attribute [-go_sem] Instr.build

theorem ite_go {b : Bool} {A C : Prop} (hb : b = true) (h : A) : if b = true then A else C := by rw [if_pos hb]; exact h
theorem wpAnyH_takeD {P : Program} {md : Region.Mode} {ops : Array Oper} {Q : Exit → Act → World → Prop} {S : World → Prop} (i : Nat) (d : Option Tmp) {oi : Oper} {v : Value} {fuel : Nat} {listed : Array Bool} {a : Act} {w : World} (hi : ops[i]? = some oi) (hd : oi.dst = d)
    (hs : Region.noSelect ops = true) (hf : Region.free md ops listed i = true) (hr : (Region.ready md ops listed).contains i = true)
    (hQ : ∀ c a w, Q (.panic c) (a.put oi.dst v) w → Q (.panic c) a w) (hy : YieldsIf P ops S oi v a) (hS : S w)
    (h : wpAnyH P md ops Q S fuel (listed.setIfInBounds i true) (a.put d v) w) : wpAnyH P md ops Q S (fuel + 1) listed a w := by
  subst hd; exact wpAnyH_take hi hs hf hr hQ hy hS h
theorem yieldsIf_calc {P : Program} {ops : Array Oper} {S : World → Prop} {op : Oper} {a : Act} {v : Value} (hw : Region.wanted op (yielded ops a.tmps) = true) (h : ∀ w, (execOp a.eval op).run P w = .ok (.value v) w) : YieldsIf P ops S op v a := .inl ⟨hw, fun w _ => h w⟩
theorem wp_store_blk {P : Program} {op : Oper} {a : Act} {w : World} {K : Act → World → Prop} {Q : Exit → Act → World → Prop} (dd : Option Tmp) (hdd : op.dst = dd) (ty : TypeId) (x y : Operand) (ho : op.op = .store ty x y)
    (b o n : Nat) (V : Array Value) (hx : a.eval x = .pointer (some ⟨b, o, none⟩)) (hy : a.eval y = .agg V) {C : Array Value} {t : TypeId} (hb : Blk w b C t) (hr : RowTy P ty n) (hV : V.size = n) (hle : o + n ≤ C.size)
    (h1 : V.all (·.oneCell') = true) (h : ∀ w', Blk w' b (splice C o V.toList) t → Only b w w' → K (a.put dd undef) w') : op.wp P a w K Q := by
  subst hdd
  obtain ⟨_, hi⟩ := hr
  subst hV
  have ht : w.there b o V.size := fun j hj => ⟨by rw [hb.cell, Array.getElem?_eq_getElem (by omega)]; rfl, hb.frozen _⟩
  exact wp_store_mid ty x y ho b o V hx hy ht hi h1 (h _ (hb.setCells _ _ _ _) (Only.setCells b _ _ w))
def sendE (m : Hq) (t : Int) : Int := if ¬ (0 ≤ t ∧ t < 1073741824) then 2 else if m.st ≠ 1 then 8 else 0
def sendS (m : Hq) (t : Int) : Hq := if ¬ (0 ≤ t ∧ t < 1073741824) then m else if m.st ≠ 1 then m1F m t else { m with st := 2, now := nowF m t, sent := nowF m t }
def sendT (u : Value) (m : Hq) (t : Int) : Array Value := if sendE m t = 0 then trV u m.num else trZ
theorem cellsR_now {u : Value} {m : Hq} {t Z : Int} (h : Z = (nowF m t : Nat)) : (cellsR u m).setIfInBounds 4 (.int .i64 Z) = cellsR u (m1F m t) := by subst h; rfl
set_option maxHeartbeats 2000000 in
theorem rsend_any (A : Option Addr) (uk uc : Nat) (m : Hq) (t : Int) (hn : m.now ≤ 1073741824) (w : World) :
    Calls Try.prog 35 #[.agg (cellsR (.slice A uk uc) m), .int .i64 t] w fun e w' => e = .returned (.tuple #[.agg (cellsR (.slice A uk uc) (sendS m t)), .agg (sendT (.slice A uk uc) m t), .int .i64 (sendE m t)]) ∧ Below w.heap.size w w' := by
  obtain ⟨Z, hZ⟩ : ∃ Z, Z = cellsR (.slice none 0 0) ⟨0, 0, [], 0, 0, 0⟩ := ⟨_, rfl⟩
  obtain ⟨T0, hT0⟩ : ∃ T0, T0 = trZ := ⟨_, rfl⟩
  have z1 := zero48'
  have z2 : ∀ w, (zeroValue 32).run Try.prog w = .ok (.agg trZ) w := (zero_of_info zero32).1
  have hbz := build32z
  have hbd := build32 A uk uc
  rw [← hZ] at z1
  rw [← hT0] at z2 hbz
  have hZs := Lib.hid (show Z.size = 6 by rw [hZ]; rfl)
  have hTs := Lib.hid (show T0.size = 4 by rw [hT0]; rfl)
  have hT1 := Lib.hid (show T0.all (·.oneCell') = true by rw [hT0]; exact trZ_one)
  have H3 := Lib.hid row3
  have HT0 := Lib.hid hT0
  obtain ⟨C, hC⟩ : ∃ C, C = cellsR (.slice A uk uc) m := ⟨_, rfl⟩
  have hCs := Lib.hid (show C.size = 6 by rw [hC]; rfl)
  have hB : Below w.heap.size w (((w.alloc (.cells C 48)).alloc (.cells Z 48)).alloc (.cells T0 32)) := below_new (below_new (below_new (Below.refl w.heap.size w) _) _) _
  have b0 : Blk (((w.alloc (.cells C 48)).alloc (.cells Z 48)).alloc (.cells T0 32)) w.heap.size C 48 := ((Blk.new' rfl).alloc _).alloc _
  have b1 : Blk (((w.alloc (.cells C 48)).alloc (.cells Z 48)).alloc (.cells T0 32)) (w.heap.size + 1) Z 48 := (Blk.new' (by simp)).alloc _
  have b2 : Blk (((w.alloc (.cells C 48)).alloc (.cells Z 48)).alloc (.cells T0 32)) (w.heap.size + 1 + 1) T0 32 := Blk.new' (by simp)
  have c4 : (((w.alloc (.cells C 48)).alloc (.cells Z 48)).alloc (.cells T0 32)).cell? ⟨w.heap.size, 4, none⟩ = some (.int .i64 m.now) := by rw [b0.cell, hC]; rfl
  have f4 := b0.frozen 4
  have HC := Lib.hid hC
  rw [← hC]
  clear hZ hT0 hC
  by_cases ht : 0 ≤ t ∧ t < 1073741824
  · by_cases hst : m.st = 1
    · have e1 : sendE m t = 0 := by unfold sendE; rw [if_neg (not_not_intro ht), if_neg (not_not_intro hst)]
      have e2 : sendS m t = { m with st := 2, now := nowF m t, sent := nowF m t } := by unfold sendS; rw [if_neg (not_not_intro ht), if_neg (not_not_intro hst)]
      have e3 : sendT (.slice A uk uc) m t = trV (.slice A uk uc) m.num := by unfold sendT; rw [e1, if_pos rfl]
      rw [e1, e2, e3]
      have hx : ((m.st : Int) != 1) = false := by rw [hst]; rfl
      have hz := dec_zero m.num
      obtain ⟨D, hD⟩ : ∃ D, D = cellsR (.slice A uk uc) { m with st := 2, now := nowF m t, sent := nowF m t } := ⟨_, rfl⟩
      obtain ⟨V, hV⟩ : ∃ V, V = trV (.slice A uk uc) m.num := ⟨_, rfl⟩
      rw [← hD, ← hV]
      have hDs := Lib.hid (show D.size = 6 by rw [hD]; rfl)
      have hVs := Lib.hid (show V.size = 4 by rw [hV]; rfl)
      have hD1 := Lib.hid (show D.all (·.oneCell') = true by rw [hD]; exact cellsR_one _ rfl)
      have hV1 := Lib.hid (show V.all (·.oneCell') = true by rw [hV]; exact trV_one _ rfl)
      have D2 : D[2]? = some (.slice A uk uc) := by rw [hD]; rfl
      have D3 : D[3]? = some (.int .i64 m.num) := by rw [hD]; rfl
      have HD := Lib.hid hD
      have HV := Lib.hid hV
      have HST := Lib.hid hst
      have hbv : ∀ w, (Instr.build 32 #[(0, .slice A uk uc), (1, .int .i64 (verF m.num)), (2, .int .i64 m.num), (3, .bool (decide (m.num = 0)))]).run Try.prog w = .ok (.agg V) w := fun w => by rw [hV]; exact hbd _ _ _ w
      have hver := rversion_any m.num
      replace D2 := Lib.hid D2
      replace D3 := Lib.hid D3
      clear e1 e2 e3 hD hst hV hbd
      go_enter Try.func35, Try.ntmps35
      go_wp2_with (first
        | ((with_reducible refine wpList_store_int rfl 3 _ _ rfl w.heap.size 4 .i64 _ rfl rfl b0 H3.out ?_ ?_); (rw [hCs.out]; exact (by decide : 4 < 6)); intro w4 hb4 ho4; rw [HC.out, cellsR_now (t := t) (by unfold nowF; omega)] at hb4; have hB4 := below_only hB ho4 (Nat.le_refl _); have k1 := b1.only ho4 (by omega); have k2 := b2.only ho4 (by omega); have c1 : w4.cell? ⟨w.heap.size, 1, none⟩ = some (.int .i64 m.st) := hb4.cell 1; have n4 : w4.cell? ⟨w.heap.size, 4, none⟩ = some (.int .i64 (nowF m t)) := hb4.cell 4; have n5 : w4.cell? ⟨w.heap.size, 5, none⟩ = some (.int .i64 m.sent) := hb4.cell 5; have g1 := hb4.frozen 1; have g5 := hb4.frozen 5; have HB4 := Lib.hid hb4; clear hb4 ho4)
        | fail)
      all_goals
        have b4 : Blk ((w4.setCell ⟨w.heap.size, 1, none⟩ (.int .i64 2)).setCell ⟨w.heap.size, 5, none⟩ (.int .i64 (nowF m t))) w.heap.size D 48 := by
          have := (HB4.out.set 1 (.int .i64 2)).set 5 (.int .i64 (nowF m t))
          rw [HD.out]
          exact this
        have q1 : Blk ((w4.setCell ⟨w.heap.size, 1, none⟩ (.int .i64 2)).setCell ⟨w.heap.size, 5, none⟩ (.int .i64 (nowF m t))) (w.heap.size + 1) Z 48 := (k1.set_other (by show w.heap.size + 1 ≠ w.heap.size; omega) _).set_other (by show w.heap.size + 1 ≠ w.heap.size; omega) _
        have q2 : Blk ((w4.setCell ⟨w.heap.size, 1, none⟩ (.int .i64 2)).setCell ⟨w.heap.size, 5, none⟩ (.int .i64 (nowF m t))) (w.heap.size + 1 + 1) T0 32 := (k2.set_other (by show w.heap.size + 1 + 1 ≠ w.heap.size; omega) _).set_other (by show w.heap.size + 1 + 1 ≠ w.heap.size; omega) _
        have hB6 := (hB4.setCell (p := ⟨w.heap.size, 1, none⟩) (Nat.le_refl _) (.int .i64 2)).setCell (p := ⟨w.heap.size, 5, none⟩) (Nat.le_refl _) (.int .i64 (nowF m t))
        clear c1 n4 n5 g1 g5 k1 k2 c4 f4 b0 b1 b2 hB4 HB4 hx
        generalize (w4.setCell ⟨w.heap.size, 1, none⟩ (.int .i64 2)).setCell ⟨w.heap.size, 5, none⟩ (.int .i64 (nowF m t)) = W6 at *
        obtain ⟨g, hg⟩ : ∃ g, g = w.heap.size := ⟨_, rfl⟩
        have s0 : Blk W6.drew g D 48 := by rw [hg]; exact b4.drew
        have q1 := q1.drew
        have q2 := q2.drew
        have hB6 := hB6.drew
        rw [← hg] at q1 q2 ⊢
        replace hg := Lib.hid hg
        clear b4
        refine wp_region_held_drew (S := fun w' => Blk w' g D 48) (by kernel_rfl) s0 (fun hHeld => ?_)
        generalize W6.drew = W7 at *
        refine wpAnyH_takeD 0 (some 29) (v := (.agg (D))) rfl rfl (by kernel_rfl) (by kernel_rfl) (by kernel_rfl) (fun _ _ _ h => h) (yieldsIf_load_blk rfl 48 _ rfl (g) 6 (D) 48 rfl (fun _ h => h) row48 (hDs.out)) (by assumption) ?_; try simp only [Act.put, List.setIfInBounds_toArray, List.set_cons_zero, List.set_cons_succ, Array.toArray_toList]
        refine wpAnyH_takeD 1 (some 30) (v := (.pointer (some ⟨g, 2, none⟩))) rfl rfl (by kernel_rfl) (by kernel_rfl) (by kernel_rfl) (fun _ _ _ h => h) (yieldsIf_calc rfl (fun w => by unfold execOp; go_simp)) (by assumption) ?_; try simp only [Act.put, List.setIfInBounds_toArray, List.set_cons_zero, List.set_cons_succ, Array.toArray_toList]
        refine wpAnyH_takeD 2 (some 31) (v := (.slice A uk uc)) rfl rfl (by kernel_rfl) (by kernel_rfl) (by kernel_rfl) (fun _ _ _ h => h) (.inl ⟨rfl, fun wS hSw => by have y2 := (hSw.cell 2).trans D2.out; have y3 := (hSw.cell 3).trans D3.out; unfold execOp; go_simp⟩) (by assumption) ?_; try simp only [Act.put, List.setIfInBounds_toArray, List.set_cons_zero, List.set_cons_succ, Array.toArray_toList]
        refine wpAnyH_takeD 3 (some 32) (v := (.pointer (some ⟨g, 3, none⟩))) rfl rfl (by kernel_rfl) (by kernel_rfl) (by kernel_rfl) (fun _ _ _ h => h) (yieldsIf_calc rfl (fun w => by unfold execOp; go_simp)) (by assumption) ?_; try simp only [Act.put, List.setIfInBounds_toArray, List.set_cons_zero, List.set_cons_succ, Array.toArray_toList]
        refine wpAnyH_takeD 4 (some 33) (v := (.int .i64 m.num)) rfl rfl (by kernel_rfl) (by kernel_rfl) (by kernel_rfl) (fun _ _ _ h => h) (.inl ⟨rfl, fun wS hSw => by have y2 := (hSw.cell 2).trans D2.out; have y3 := (hSw.cell 3).trans D3.out; unfold execOp; go_simp⟩) (by assumption) ?_; try simp only [Act.put, List.setIfInBounds_toArray, List.set_cons_zero, List.set_cons_succ, Array.toArray_toList]
        refine wpAnyH_takeD 6 (some 35) (v := (.pointer (some ⟨g, 3, none⟩))) rfl rfl (by kernel_rfl) (by kernel_rfl) (by kernel_rfl) (fun _ _ _ h => h) (yieldsIf_calc rfl (fun w => by unfold execOp; go_simp)) (by assumption) ?_; try simp only [Act.put, List.setIfInBounds_toArray, List.set_cons_zero, List.set_cons_succ, Array.toArray_toList]
        refine wpAnyH_takeD 7 (some 36) (v := (.int .i64 m.num)) rfl rfl (by kernel_rfl) (by kernel_rfl) (by kernel_rfl) (fun _ _ _ h => h) (.inl ⟨rfl, fun wS hSw => by have y2 := (hSw.cell 2).trans D2.out; have y3 := (hSw.cell 3).trans D3.out; unfold execOp; go_simp⟩) (by assumption) ?_; try simp only [Act.put, List.setIfInBounds_toArray, List.set_cons_zero, List.set_cons_succ, Array.toArray_toList]
        refine wpAnyH_takeD 8 (some 37) (v := (.pointer (some ⟨g, 3, none⟩))) rfl rfl (by kernel_rfl) (by kernel_rfl) (by kernel_rfl) (fun _ _ _ h => h) (yieldsIf_calc rfl (fun w => by unfold execOp; go_simp)) (by assumption) ?_; try simp only [Act.put, List.setIfInBounds_toArray, List.set_cons_zero, List.set_cons_succ, Array.toArray_toList]
        refine wpAnyH_takeD 9 (some 38) (v := (.int .i64 m.num)) rfl rfl (by kernel_rfl) (by kernel_rfl) (by kernel_rfl) (fun _ _ _ h => h) (.inl ⟨rfl, fun wS hSw => by have y2 := (hSw.cell 2).trans D2.out; have y3 := (hSw.cell 3).trans D3.out; unfold execOp; go_simp⟩) (by assumption) ?_; try simp only [Act.put, List.setIfInBounds_toArray, List.set_cons_zero, List.set_cons_succ, Array.toArray_toList]
        refine wpAnyH_takeD 10 (some 39) (v := (.bool (decide (m.num = 0)))) rfl rfl (by kernel_rfl) (by kernel_rfl) (by kernel_rfl) (fun _ _ _ h => h) (yieldsIf_calc rfl (fun w => by unfold execOp; go_simp)) (by assumption) ?_; try simp only [Act.put, List.setIfInBounds_toArray, List.set_cons_zero, List.set_cons_succ, Array.toArray_toList]
        refine wpAnyH_one 5 rfl (by kernel_rfl) (fun K' hK' => ?_)
        go_simp
        (go_at_call 38; (with_reducible refine (hver _).mono ?_); rintro e w8 ⟨rfl, hw⟩; subst hw)
        go_wp2
        refine hK'.out _ _ (s0) ?_; clear hK' K'; try simp only [Act.put, List.setIfInBounds_toArray, List.set_cons_zero, List.set_cons_succ, Array.toArray_toList]
        refine wpAnyH_takeD 11 (some 40) (v := (.agg V)) rfl rfl (by kernel_rfl) (by kernel_rfl) (by kernel_rfl) (fun _ _ _ h => h) (yieldsIf_calc rfl (fun w => by unfold execOp; go_simp)) (by assumption) ?_; try simp only [Act.put, List.setIfInBounds_toArray, List.set_cons_zero, List.set_cons_succ, Array.toArray_toList]
        refine wpAnyH_one 12 rfl (by kernel_rfl) (fun K' hK' => ?_)
        refine ite_go rfl ?_
        refine wp_store_blk none rfl 48 _ _ rfl (g + 1) 0 6 D rfl rfl q1 row48 hDs.out (by rw [hZs.out]; exact Nat.le_refl 6) hD1.out ?_
        intro w5 hb5 ho5; rw [splice_full _ _ (by rw [hZs.out, hDs.out])] at hb5
        have s1 := s0.only ho5 (by omega)
        have q3 := q2.only ho5 (by omega)
        refine hK'.out _ _ (s1) ?_; clear hK' K'; try simp only [Act.put, List.setIfInBounds_toArray, List.set_cons_zero, List.set_cons_succ, Array.toArray_toList]
        refine wpAnyH_one 13 rfl (by kernel_rfl) (fun K' hK' => ?_)
        refine ite_go rfl ?_
        refine wp_store_blk none rfl 32 _ _ rfl (g + 1 + 1) 0 4 V rfl rfl q3 row32 hVs.out (by rw [hTs.out]; exact Nat.le_refl 4) hV1.out ?_
        intro w6 hb6 ho6; rw [splice_full _ _ (by rw [hTs.out, hVs.out])] at hb6
        have s2 := s1.only ho6 (by omega)
        refine hK'.out _ _ (s2) ?_; clear hK' K'; try simp only [Act.put, List.setIfInBounds_toArray, List.set_cons_zero, List.set_cons_succ, Array.toArray_toList]
        refine wpAnyH_takeD 14 (some 6) (v := (.int .i64 0)) rfl rfl (by kernel_rfl) (by kernel_rfl) (by kernel_rfl) (fun _ _ _ h => h) (yieldsIf_calc rfl (fun w => by unfold execOp; go_simp)) (by assumption) ?_; try simp only [Act.put, List.setIfInBounds_toArray, List.set_cons_zero, List.set_cons_succ, Array.toArray_toList]
        refine wpAnyH_done (by kernel_rfl) ?_ _
        go_wp2
        refine bodyPost_ret (results_blk2_tmp rfl _ _ (g + 1) (g + 1 + 1) D V 48 32 6 4 _ rfl rfl rfl (hb5.only ho6 (by omega)) row48 hDs.out hb6 row32 hVs.out) rfl ?_
        exact ⟨rfl, below_only (below_only hB6 ho5 (by have := hg.out; omega)) ho6 (by have := hg.out; omega)⟩
    · have e1 : sendE m t = 8 := by unfold sendE; rw [if_neg (not_not_intro ht), if_pos hst]
      have e2 : sendS m t = m1F m t := by unfold sendS; rw [if_neg (not_not_intro ht), if_pos hst]
      have e3 : sendT (.slice A uk uc) m t = T0 := by unfold sendT; rw [e1, if_neg (by decide), HT0.out]
      rw [e1, e2, e3]
      have hx : ((m.st : Int) != 1) = true := by simp; omega
      obtain ⟨D, hD⟩ : ∃ D, D = cellsR (.slice A uk uc) (m1F m t) := ⟨_, rfl⟩
      rw [← hD]
      have hDs := Lib.hid (show D.size = 6 by rw [hD]; rfl)
      have hDw := Lib.hid (show D.extract 0 (0 + 6) = D by rw [hD]; rfl)
      have hD1 := Lib.hid (show D.all (·.oneCell') = true by rw [hD]; exact cellsR_one _ rfl)
      have HD := Lib.hid hD
      clear e1 e2 e3 hD hst
      go_enter Try.func35, Try.ntmps35
      go_wp2_with (first
        | ((with_reducible refine wpList_store_int rfl 3 _ _ rfl w.heap.size 4 .i64 _ rfl rfl b0 H3.out ?_ ?_); (rw [hCs.out]; exact (by decide : 4 < 6)); intro w4 hb4 ho4; rw [HC.out, cellsR_now (t := t) (by unfold nowF; omega)] at hb4; have hB4 := below_only hB ho4 (Nat.le_refl _); have k1 := b1.only ho4 (by omega); have k2 := b2.only ho4 (by omega); have c1 : w4.cell? ⟨w.heap.size, 1, none⟩ = some (.int .i64 m.st) := hb4.cell 1; have n4 : w4.cell? ⟨w.heap.size, 4, none⟩ = some (.int .i64 (nowF m t)) := hb4.cell 4; have n5 : w4.cell? ⟨w.heap.size, 5, none⟩ = some (.int .i64 m.sent) := hb4.cell 5; have g1 := hb4.frozen 1; have g5 := hb4.frozen 5; rw [← HD.out] at hb4; have HB4 := Lib.hid hb4; clear hb4 ho4)
        | (with_reducible refine wpList_load_blk rfl 48 _ rfl w.heap.size 0 6 rfl HB4.out row48 (by rw [hDs.out]; exact Nat.le_refl 6) D hDw.out ?_)
        | ((with_reducible refine wpList_store_blk rfl 48 _ _ rfl (w.heap.size + 1) 0 6 D rfl rfl k1 row48 hDs.out (by rw [hZs.out]; exact Nat.le_refl 6) hD1.out ?_); intro w5 hb5 ho5; rw [splice_full _ _ (by rw [hZs.out, hDs.out])] at hb5; have k2 := k2.only ho5 (by omega))
        | ((with_reducible refine wpList_store_blk rfl 32 _ _ rfl (w.heap.size + 1 + 1) 0 4 T0 rfl rfl k2 row32 hTs.out (by rw [hTs.out]; exact Nat.le_refl 4) hT1.out ?_); intro w6 hb6 ho6; rw [splice_full _ _ (by rfl)] at hb6))
      all_goals
        refine bodyPost_ret (results_blk2_tmp rfl _ _ (w.heap.size + 1) (w.heap.size + 1 + 1) D T0 48 32 6 4 _ rfl rfl rfl (hb5.only ho6 (by omega)) row48 hDs.out hb6 row32 hTs.out) rfl ?_
        exact ⟨rfl, below_only (below_only hB4 ho5 (by omega)) ho6 (by omega)⟩
  · have e1 : sendE m t = 2 := by unfold sendE; rw [if_pos ht]
    have e2 : sendS m t = m := by unfold sendS; rw [if_pos ht]
    have e3 : sendT (.slice A uk uc) m t = T0 := by unfold sendT; rw [e1, if_neg (by decide), HT0.out]
    rw [e1, e2, e3]
    have hC1 := Lib.hid (show C.all (·.oneCell') = true by rw [HC.out]; exact cellsR_one _ rfl)
    have hCw := Lib.hid (show C.extract 0 (0 + 6) = C by rw [HC.out]; rfl)
    rw [← HC.out]
    clear e1 e2 e3
    go_enter Try.func35, Try.ntmps35
    have hc : t < 0 ∨ (¬ t < 0 ∧ 1073741824 ≤ t) := by omega
    clear ht
    rcases hc with h1 | ⟨h1, h2⟩
    all_goals
      go_wp2_with (first
        | (with_reducible refine wpList_load_blk rfl 48 _ rfl w.heap.size 0 6 rfl b0 row48 (by rw [hCs.out]; exact Nat.le_refl 6) C hCw.out ?_)
        | ((with_reducible refine wpList_store_blk rfl 48 _ _ rfl (w.heap.size + 1) 0 6 C rfl rfl b1 row48 hCs.out (by rw [hZs.out]; exact Nat.le_refl 6) hC1.out ?_); intro w5 hb5 ho5; rw [splice_full _ _ (by rw [hZs.out, hCs.out])] at hb5; have b2 := b2.only ho5 (by omega))
        | ((with_reducible refine wpList_store_blk rfl 32 _ _ rfl (w.heap.size + 1 + 1) 0 4 T0 rfl rfl b2 row32 hTs.out (by rw [hTs.out]; exact Nat.le_refl 4) hT1.out ?_); intro w6 hb6 ho6; rw [splice_full _ _ (by rfl)] at hb6))
      refine bodyPost_ret (results_blk2_tmp rfl _ _ (w.heap.size + 1) (w.heap.size + 1 + 1) C T0 48 32 6 4 _ rfl rfl rfl (hb5.only ho6 (by omega)) row48 hCs.out hb6 row32 hTs.out) rfl ?_
      exact ⟨rfl, below_only (below_only hB ho5 (by omega)) ho6 (by omega)⟩
/-- What feedback answers: the error, the outcome, the process behind it. -/
def fbE (m : Hq) (t a : Int) : Int := if ¬ (0 ≤ t ∧ t < 1073741824) ∨ a < 0 ∨ 2 < a then 2 else if m.st ≠ 2 ∨ nowF m t < m.sent + 4 then 8 else 0
def fbO (m : Hq) (t a : Int) : Int := if fbE m t a ≠ 0 then 0 else if a = 1 then 1 else if m.lim ≤ m.num + 1 then 2 else 0
def fbS (m : Hq) (t a : Int) : Hq := if ¬ (0 ≤ t ∧ t < 1073741824) ∨ a < 0 ∨ 2 < a then m else if m.st ≠ 2 ∨ nowF m t < m.sent + 4 then m1F m t else if a = 1 ∨ m.lim ≤ m.num + 1 then idleF m t else { m1F m t with st := 1, num := m.num + 1 }
theorem idle_now (m : Hq) (t : Int) : idleR (m1F m t) = idleF m t := rfl
set_option maxHeartbeats 4000000 in
theorem rfb_any (A : Option Addr) (uk uc : Nat) (m : Hq) (t a : Int) (hn : m.now ≤ 1073741824) (hs : m.sent ≤ 1073741824) (hnum : m.num ≤ 100) (w : World) (hu : RP w (.slice A uk uc) m) :
    Calls Try.prog 36 #[.agg (cellsR (.slice A uk uc) m), .int .i64 t, .int .i64 a] w fun e w' => ∃ u', e = .returned (.tuple #[.agg (cellsR u' (fbS m t a)), .int .i64 (fbO m t a), .int .i64 (fbE m t a)]) ∧ RP w' u' (fbS m t a) ∧ Below w.heap.size w w' := by
  obtain ⟨Z, hZ⟩ : ∃ Z, Z = cellsR (.slice none 0 0) ⟨0, 0, [], 0, 0, 0⟩ := ⟨_, rfl⟩
  have z1 := zero48'
  rw [← hZ] at z1
  have hZs := Lib.hid (show Z.size = 6 by rw [hZ]; rfl)
  have H3 := Lib.hid row3
  obtain ⟨C, hC⟩ : ∃ C, C = cellsR (.slice A uk uc) m := ⟨_, rfl⟩
  have hCs := Lib.hid (show C.size = 6 by rw [hC]; rfl)
  have hB : Below w.heap.size w ((w.alloc (.cells C 48)).alloc (.cells Z 48)) := below_new (below_new (Below.refl w.heap.size w) _) _
  have b0 : Blk ((w.alloc (.cells C 48)).alloc (.cells Z 48)) w.heap.size C 48 := (Blk.new' rfl).alloc _
  have b1 : Blk ((w.alloc (.cells C 48)).alloc (.cells Z 48)) (w.heap.size + 1) Z 48 := Blk.new' (by simp)
  have c4 : ((w.alloc (.cells C 48)).alloc (.cells Z 48)).cell? ⟨w.heap.size, 4, none⟩ = some (.int .i64 m.now) := by rw [b0.cell, hC]; rfl
  have f4 := b0.frozen 4
  have HC := Lib.hid hC
  have HU := Lib.hid hu
  rw [← hC]
  clear hZ hC hu
  by_cases harg : ¬ (0 ≤ t ∧ t < 1073741824) ∨ a < 0 ∨ 2 < a
  · have e1 : fbE m t a = 2 := by unfold fbE; rw [if_pos harg]
    have e2 : fbS m t a = m := by unfold fbS; rw [if_pos harg]
    have e3 : fbO m t a = 0 := by unfold fbO; rw [e1, if_pos (by decide)]
    rw [e1, e2, e3]
    have hC1 := Lib.hid (show C.all (·.oneCell') = true by rw [HC.out]; exact cellsR_one _ rfl)
    have hCw := Lib.hid (show C.extract 0 (0 + 6) = C by rw [HC.out]; rfl)
    clear e1 e2 e3
    have hc : t < 0 ∨ (¬ t < 0 ∧ 1073741824 ≤ t) ∨ ((¬ t < 0 ∧ ¬ 1073741824 ≤ t) ∧ (a < 0 ∨ 2 < a)) := by omega
    clear harg
    rcases hc with h1 | ⟨h1, h2⟩ | ⟨⟨h1, h2⟩, h3⟩
    · go_enter Try.func36, Try.ntmps36
      go_wp2_with (first
        | (with_reducible refine wpList_load_blk rfl 48 _ rfl w.heap.size 0 6 rfl b0 row48 (by rw [hCs.out]; exact Nat.le_refl 6) C hCw.out ?_)
        | ((with_reducible refine wpList_store_blk rfl 48 _ _ rfl (w.heap.size + 1) 0 6 C rfl rfl b1 row48 hCs.out (by rw [hZs.out]; exact Nat.le_refl 6) hC1.out ?_); intro w5 hb5 ho5; rw [splice_full _ _ (by rw [hZs.out, hCs.out])] at hb5))
      refine bodyPost_ret (results_blk_tmp2 rfl _ _ (w.heap.size + 1) C 48 6 _ _ rfl rfl rfl hb5 row48 hCs.out) rfl ?_
      have hB5 := below_only hB ho5 (by omega)
      exact ⟨_, by rw [HC.out]; rfl, HU.out.below hB5, hB5⟩
    · go_enter Try.func36, Try.ntmps36
      go_wp2_with (first
        | (with_reducible refine wpList_load_blk rfl 48 _ rfl w.heap.size 0 6 rfl b0 row48 (by rw [hCs.out]; exact Nat.le_refl 6) C hCw.out ?_)
        | ((with_reducible refine wpList_store_blk rfl 48 _ _ rfl (w.heap.size + 1) 0 6 C rfl rfl b1 row48 hCs.out (by rw [hZs.out]; exact Nat.le_refl 6) hC1.out ?_); intro w5 hb5 ho5; rw [splice_full _ _ (by rw [hZs.out, hCs.out])] at hb5))
      refine bodyPost_ret (results_blk_tmp2 rfl _ _ (w.heap.size + 1) C 48 6 _ _ rfl rfl rfl hb5 row48 hCs.out) rfl ?_
      have hB5 := below_only hB ho5 (by omega)
      exact ⟨_, by rw [HC.out]; rfl, HU.out.below hB5, hB5⟩
    · have x0 : (a != 0) = true := by simp; omega
      have x1 : (a != 1) = true := by simp; omega
      have x2 : (a != 2) = true := by simp; omega
      clear h3
      go_enter Try.func36, Try.ntmps36
      go_wp2_with (first
        | (with_reducible refine wpList_load_blk rfl 48 _ rfl w.heap.size 0 6 rfl b0 row48 (by rw [hCs.out]; exact Nat.le_refl 6) C hCw.out ?_)
        | ((with_reducible refine wpList_store_blk rfl 48 _ _ rfl (w.heap.size + 1) 0 6 C rfl rfl b1 row48 hCs.out (by rw [hZs.out]; exact Nat.le_refl 6) hC1.out ?_); intro w5 hb5 ho5; rw [splice_full _ _ (by rw [hZs.out, hCs.out])] at hb5))
      refine bodyPost_ret (results_blk_tmp2 rfl _ _ (w.heap.size + 1) C 48 6 _ _ rfl rfl rfl hb5 row48 hCs.out) rfl ?_
      have hB5 := below_only hB ho5 (by omega)
      exact ⟨_, by rw [HC.out]; rfl, HU.out.below hB5, hB5⟩
  · have ht0 : ¬ t < 0 := by omega
    have ht1 : ¬ ((1073741824 : Int) ≤ t) := by omega
    have ha3 : a = 0 ∨ a = 1 ∨ a = 2 := by omega
    replace harg := Lib.hid harg
    by_cases hst : m.st ≠ 2 ∨ nowF m t < m.sent + 4
    · have e1 : fbE m t a = 8 := by unfold fbE; rw [if_neg harg.out, if_pos hst]
      have e2 : fbS m t a = m1F m t := by unfold fbS; rw [if_neg harg.out, if_pos hst]
      have e3 : fbO m t a = 0 := by unfold fbO; rw [e1, if_pos (by decide)]
      rw [e1, e2, e3]
      clear e1 e2 e3
      obtain ⟨D, hD⟩ : ∃ D, D = cellsR (.slice A uk uc) (m1F m t) := ⟨_, rfl⟩
      have hDs := Lib.hid (show D.size = 6 by rw [hD]; rfl)
      have hDw := Lib.hid (show D.extract 0 (0 + 6) = D by rw [hD]; rfl)
      have hD1 := Lib.hid (show D.all (·.oneCell') = true by rw [hD]; exact cellsR_one _ rfl)
      have HD := Lib.hid hD
      clear hD
      clear harg
      by_cases h2 : m.st = 2
      · have hx : ((m.st : Int) != 2) = false := by rw [h2]; rfl
        have hdI : (nowF m t : Int) < (m.sent : Int) + 4 := by omega
        have hw5 : IntKind.i64.wrap ((m.sent : Int) + 4) = (m.sent : Int) + 4 := IntWalk.i64_in _ (by omega)
        clear hst
        replace h2 := Lib.hid h2
        rcases ha3 with rfl | rfl | rfl
        · go_enter Try.func36, Try.ntmps36
          go_wp2_with (first
            | ((with_reducible refine wpList_store_int rfl 3 _ _ rfl w.heap.size 4 .i64 _ rfl rfl b0 H3.out ?_ ?_); (rw [hCs.out]; exact (by decide : 4 < 6)); intro w4 hb4 ho4; rw [HC.out, cellsR_now (t := t) (by unfold nowF; omega)] at hb4; have hB4 := below_only hB ho4 (Nat.le_refl _); have k1 := b1.only ho4 (by omega); have c1 : w4.cell? ⟨w.heap.size, 1, none⟩ = some (.int .i64 m.st) := hb4.cell 1; have n0 : w4.cell? ⟨w.heap.size, 0, none⟩ = some (.int .i64 m.lim) := hb4.cell 0; have n3 : w4.cell? ⟨w.heap.size, 3, none⟩ = some (.int .i64 m.num) := hb4.cell 3; have g3 := hb4.frozen 3; have n4 : w4.cell? ⟨w.heap.size, 4, none⟩ = some (.int .i64 (nowF m t)) := hb4.cell 4; have n5 : w4.cell? ⟨w.heap.size, 5, none⟩ = some (.int .i64 m.sent) := hb4.cell 5; have g1 := hb4.frozen 1; have g5 := hb4.frozen 5; rw [← HD.out] at hb4; have HB4 := Lib.hid hb4; clear hb4 ho4)
            | (with_reducible refine wpList_load_blk rfl 48 _ rfl w.heap.size 0 6 rfl HB4.out row48 (by rw [hDs.out]; exact Nat.le_refl 6) D hDw.out ?_)
            | ((with_reducible refine wpList_store_blk rfl 48 _ _ rfl (w.heap.size + 1) 0 6 D rfl rfl k1 row48 hDs.out (by rw [hZs.out]; exact Nat.le_refl 6) hD1.out ?_); intro w5 hb5 ho5; rw [splice_full _ _ (by rw [hZs.out, hDs.out])] at hb5)
            | fail)
          all_goals
            refine bodyPost_ret (results_blk_tmp2 rfl _ _ (w.heap.size + 1) D 48 6 _ _ rfl rfl rfl hb5 row48 hDs.out) rfl ?_
            have hB5 := below_only hB4 ho5 (by omega)
            exact ⟨_, by rw [HD.out]; rfl, own_below HU.out hB5, hB5⟩
        · go_enter Try.func36, Try.ntmps36
          go_wp2_with (first
            | ((with_reducible refine wpList_store_int rfl 3 _ _ rfl w.heap.size 4 .i64 _ rfl rfl b0 H3.out ?_ ?_); (rw [hCs.out]; exact (by decide : 4 < 6)); intro w4 hb4 ho4; rw [HC.out, cellsR_now (t := t) (by unfold nowF; omega)] at hb4; have hB4 := below_only hB ho4 (Nat.le_refl _); have k1 := b1.only ho4 (by omega); have c1 : w4.cell? ⟨w.heap.size, 1, none⟩ = some (.int .i64 m.st) := hb4.cell 1; have n0 : w4.cell? ⟨w.heap.size, 0, none⟩ = some (.int .i64 m.lim) := hb4.cell 0; have n3 : w4.cell? ⟨w.heap.size, 3, none⟩ = some (.int .i64 m.num) := hb4.cell 3; have g3 := hb4.frozen 3; have n4 : w4.cell? ⟨w.heap.size, 4, none⟩ = some (.int .i64 (nowF m t)) := hb4.cell 4; have n5 : w4.cell? ⟨w.heap.size, 5, none⟩ = some (.int .i64 m.sent) := hb4.cell 5; have g1 := hb4.frozen 1; have g5 := hb4.frozen 5; rw [← HD.out] at hb4; have HB4 := Lib.hid hb4; clear hb4 ho4)
            | (with_reducible refine wpList_load_blk rfl 48 _ rfl w.heap.size 0 6 rfl HB4.out row48 (by rw [hDs.out]; exact Nat.le_refl 6) D hDw.out ?_)
            | ((with_reducible refine wpList_store_blk rfl 48 _ _ rfl (w.heap.size + 1) 0 6 D rfl rfl k1 row48 hDs.out (by rw [hZs.out]; exact Nat.le_refl 6) hD1.out ?_); intro w5 hb5 ho5; rw [splice_full _ _ (by rw [hZs.out, hDs.out])] at hb5)
            | fail)
          all_goals
            refine bodyPost_ret (results_blk_tmp2 rfl _ _ (w.heap.size + 1) D 48 6 _ _ rfl rfl rfl hb5 row48 hDs.out) rfl ?_
            have hB5 := below_only hB4 ho5 (by omega)
            exact ⟨_, by rw [HD.out]; rfl, own_below HU.out hB5, hB5⟩
        · go_enter Try.func36, Try.ntmps36
          go_wp2_with (first
            | ((with_reducible refine wpList_store_int rfl 3 _ _ rfl w.heap.size 4 .i64 _ rfl rfl b0 H3.out ?_ ?_); (rw [hCs.out]; exact (by decide : 4 < 6)); intro w4 hb4 ho4; rw [HC.out, cellsR_now (t := t) (by unfold nowF; omega)] at hb4; have hB4 := below_only hB ho4 (Nat.le_refl _); have k1 := b1.only ho4 (by omega); have c1 : w4.cell? ⟨w.heap.size, 1, none⟩ = some (.int .i64 m.st) := hb4.cell 1; have n0 : w4.cell? ⟨w.heap.size, 0, none⟩ = some (.int .i64 m.lim) := hb4.cell 0; have n3 : w4.cell? ⟨w.heap.size, 3, none⟩ = some (.int .i64 m.num) := hb4.cell 3; have g3 := hb4.frozen 3; have n4 : w4.cell? ⟨w.heap.size, 4, none⟩ = some (.int .i64 (nowF m t)) := hb4.cell 4; have n5 : w4.cell? ⟨w.heap.size, 5, none⟩ = some (.int .i64 m.sent) := hb4.cell 5; have g1 := hb4.frozen 1; have g5 := hb4.frozen 5; rw [← HD.out] at hb4; have HB4 := Lib.hid hb4; clear hb4 ho4)
            | (with_reducible refine wpList_load_blk rfl 48 _ rfl w.heap.size 0 6 rfl HB4.out row48 (by rw [hDs.out]; exact Nat.le_refl 6) D hDw.out ?_)
            | ((with_reducible refine wpList_store_blk rfl 48 _ _ rfl (w.heap.size + 1) 0 6 D rfl rfl k1 row48 hDs.out (by rw [hZs.out]; exact Nat.le_refl 6) hD1.out ?_); intro w5 hb5 ho5; rw [splice_full _ _ (by rw [hZs.out, hDs.out])] at hb5)
            | fail)
          all_goals
            refine bodyPost_ret (results_blk_tmp2 rfl _ _ (w.heap.size + 1) D 48 6 _ _ rfl rfl rfl hb5 row48 hDs.out) rfl ?_
            have hB5 := below_only hB4 ho5 (by omega)
            exact ⟨_, by rw [HD.out]; rfl, own_below HU.out hB5, hB5⟩
      · have hx : ((m.st : Int) != 2) = true := by simp; omega
        clear hst
        replace h2 := Lib.hid h2
        rcases ha3 with rfl | rfl | rfl
        · go_enter Try.func36, Try.ntmps36
          go_wp2_with (first
            | ((with_reducible refine wpList_store_int rfl 3 _ _ rfl w.heap.size 4 .i64 _ rfl rfl b0 H3.out ?_ ?_); (rw [hCs.out]; exact (by decide : 4 < 6)); intro w4 hb4 ho4; rw [HC.out, cellsR_now (t := t) (by unfold nowF; omega)] at hb4; have hB4 := below_only hB ho4 (Nat.le_refl _); have k1 := b1.only ho4 (by omega); have c1 : w4.cell? ⟨w.heap.size, 1, none⟩ = some (.int .i64 m.st) := hb4.cell 1; have n0 : w4.cell? ⟨w.heap.size, 0, none⟩ = some (.int .i64 m.lim) := hb4.cell 0; have n3 : w4.cell? ⟨w.heap.size, 3, none⟩ = some (.int .i64 m.num) := hb4.cell 3; have g3 := hb4.frozen 3; have n4 : w4.cell? ⟨w.heap.size, 4, none⟩ = some (.int .i64 (nowF m t)) := hb4.cell 4; have n5 : w4.cell? ⟨w.heap.size, 5, none⟩ = some (.int .i64 m.sent) := hb4.cell 5; have g1 := hb4.frozen 1; have g5 := hb4.frozen 5; rw [← HD.out] at hb4; have HB4 := Lib.hid hb4; clear hb4 ho4)
            | (with_reducible refine wpList_load_blk rfl 48 _ rfl w.heap.size 0 6 rfl HB4.out row48 (by rw [hDs.out]; exact Nat.le_refl 6) D hDw.out ?_)
            | ((with_reducible refine wpList_store_blk rfl 48 _ _ rfl (w.heap.size + 1) 0 6 D rfl rfl k1 row48 hDs.out (by rw [hZs.out]; exact Nat.le_refl 6) hD1.out ?_); intro w5 hb5 ho5; rw [splice_full _ _ (by rw [hZs.out, hDs.out])] at hb5)
            | fail)
          all_goals
            refine bodyPost_ret (results_blk_tmp2 rfl _ _ (w.heap.size + 1) D 48 6 _ _ rfl rfl rfl hb5 row48 hDs.out) rfl ?_
            have hB5 := below_only hB4 ho5 (by omega)
            exact ⟨_, by rw [HD.out]; rfl, own_below HU.out hB5, hB5⟩
        · go_enter Try.func36, Try.ntmps36
          go_wp2_with (first
            | ((with_reducible refine wpList_store_int rfl 3 _ _ rfl w.heap.size 4 .i64 _ rfl rfl b0 H3.out ?_ ?_); (rw [hCs.out]; exact (by decide : 4 < 6)); intro w4 hb4 ho4; rw [HC.out, cellsR_now (t := t) (by unfold nowF; omega)] at hb4; have hB4 := below_only hB ho4 (Nat.le_refl _); have k1 := b1.only ho4 (by omega); have c1 : w4.cell? ⟨w.heap.size, 1, none⟩ = some (.int .i64 m.st) := hb4.cell 1; have n0 : w4.cell? ⟨w.heap.size, 0, none⟩ = some (.int .i64 m.lim) := hb4.cell 0; have n3 : w4.cell? ⟨w.heap.size, 3, none⟩ = some (.int .i64 m.num) := hb4.cell 3; have g3 := hb4.frozen 3; have n4 : w4.cell? ⟨w.heap.size, 4, none⟩ = some (.int .i64 (nowF m t)) := hb4.cell 4; have n5 : w4.cell? ⟨w.heap.size, 5, none⟩ = some (.int .i64 m.sent) := hb4.cell 5; have g1 := hb4.frozen 1; have g5 := hb4.frozen 5; rw [← HD.out] at hb4; have HB4 := Lib.hid hb4; clear hb4 ho4)
            | (with_reducible refine wpList_load_blk rfl 48 _ rfl w.heap.size 0 6 rfl HB4.out row48 (by rw [hDs.out]; exact Nat.le_refl 6) D hDw.out ?_)
            | ((with_reducible refine wpList_store_blk rfl 48 _ _ rfl (w.heap.size + 1) 0 6 D rfl rfl k1 row48 hDs.out (by rw [hZs.out]; exact Nat.le_refl 6) hD1.out ?_); intro w5 hb5 ho5; rw [splice_full _ _ (by rw [hZs.out, hDs.out])] at hb5)
            | fail)
          all_goals
            refine bodyPost_ret (results_blk_tmp2 rfl _ _ (w.heap.size + 1) D 48 6 _ _ rfl rfl rfl hb5 row48 hDs.out) rfl ?_
            have hB5 := below_only hB4 ho5 (by omega)
            exact ⟨_, by rw [HD.out]; rfl, own_below HU.out hB5, hB5⟩
        · go_enter Try.func36, Try.ntmps36
          go_wp2_with (first
            | ((with_reducible refine wpList_store_int rfl 3 _ _ rfl w.heap.size 4 .i64 _ rfl rfl b0 H3.out ?_ ?_); (rw [hCs.out]; exact (by decide : 4 < 6)); intro w4 hb4 ho4; rw [HC.out, cellsR_now (t := t) (by unfold nowF; omega)] at hb4; have hB4 := below_only hB ho4 (Nat.le_refl _); have k1 := b1.only ho4 (by omega); have c1 : w4.cell? ⟨w.heap.size, 1, none⟩ = some (.int .i64 m.st) := hb4.cell 1; have n0 : w4.cell? ⟨w.heap.size, 0, none⟩ = some (.int .i64 m.lim) := hb4.cell 0; have n3 : w4.cell? ⟨w.heap.size, 3, none⟩ = some (.int .i64 m.num) := hb4.cell 3; have g3 := hb4.frozen 3; have n4 : w4.cell? ⟨w.heap.size, 4, none⟩ = some (.int .i64 (nowF m t)) := hb4.cell 4; have n5 : w4.cell? ⟨w.heap.size, 5, none⟩ = some (.int .i64 m.sent) := hb4.cell 5; have g1 := hb4.frozen 1; have g5 := hb4.frozen 5; rw [← HD.out] at hb4; have HB4 := Lib.hid hb4; clear hb4 ho4)
            | (with_reducible refine wpList_load_blk rfl 48 _ rfl w.heap.size 0 6 rfl HB4.out row48 (by rw [hDs.out]; exact Nat.le_refl 6) D hDw.out ?_)
            | ((with_reducible refine wpList_store_blk rfl 48 _ _ rfl (w.heap.size + 1) 0 6 D rfl rfl k1 row48 hDs.out (by rw [hZs.out]; exact Nat.le_refl 6) hD1.out ?_); intro w5 hb5 ho5; rw [splice_full _ _ (by rw [hZs.out, hDs.out])] at hb5)
            | fail)
          all_goals
            refine bodyPost_ret (results_blk_tmp2 rfl _ _ (w.heap.size + 1) D 48 6 _ _ rfl rfl rfl hb5 row48 hDs.out) rfl ?_
            have hB5 := below_only hB4 ho5 (by omega)
            exact ⟨_, by rw [HD.out]; rfl, own_below HU.out hB5, hB5⟩
    · have hx : ((m.st : Int) != 2) = false := by have : m.st = 2 := by omega
                                                  rw [this]; rfl
      have hdI : ¬ ((nowF m t : Int) < (m.sent : Int) + 4) := by omega
      have hw5 : IntKind.i64.wrap ((m.sent : Int) + 4) = (m.sent : Int) + 4 := IntWalk.i64_in _ (by omega)
      have hE : fbE m t a = 0 := by unfold fbE; rw [if_neg harg.out, if_neg hst]
      by_cases ha : a = 1
      · subst ha
        have e2 : fbS m t 1 = idleF m t := by unfold fbS; rw [if_neg harg.out, if_neg hst, if_pos (.inl rfl)]
        have e3 : fbO m t 1 = 1 := by unfold fbO; rw [hE, if_neg (by decide), if_pos rfl]
        rw [hE, e2, e3]
        clear hE e2 e3 hst harg ha3
        obtain ⟨I, hI⟩ : ∃ I, I = cellsR (.slice none 0 0) (idleF m t) := ⟨_, rfl⟩
        have hIs := Lib.hid (show I.size = 6 by rw [hI]; rfl)
        have hI1 := Lib.hid (show I.all (·.oneCell') = true by rw [hI]; exact cellsR_one _ rfl)
        have hid := ridle_any (.slice A uk uc) (m1F m t)
        rw [idle_now, ← hI] at hid
        obtain ⟨D, hD⟩ : ∃ D, D = cellsR (.slice A uk uc) (m1F m t) := ⟨_, rfl⟩
        have hDs := Lib.hid (show D.size = 6 by rw [hD]; rfl)
        have hDw := Lib.hid (show D.extract 0 (0 + 6) = D by rw [hD]; rfl)
        have hD1 := Lib.hid (show D.all (·.oneCell') = true by rw [hD]; exact cellsR_one _ rfl)
        have HD := Lib.hid hD
        clear hD
        rw [← HD.out] at hid
        have HI := Lib.hid hI
        clear hI
        go_enter Try.func36, Try.ntmps36
        go_wp2_with (first
          | ((with_reducible refine wpList_store_int rfl 3 _ _ rfl w.heap.size 4 .i64 _ rfl rfl b0 H3.out ?_ ?_); (rw [hCs.out]; exact (by decide : 4 < 6)); intro w4 hb4 ho4; rw [HC.out, cellsR_now (t := t) (by unfold nowF; omega)] at hb4; have hB4 := below_only hB ho4 (Nat.le_refl _); have k1 := b1.only ho4 (by omega); have c1 : w4.cell? ⟨w.heap.size, 1, none⟩ = some (.int .i64 m.st) := hb4.cell 1; have n0 : w4.cell? ⟨w.heap.size, 0, none⟩ = some (.int .i64 m.lim) := hb4.cell 0; have n3 : w4.cell? ⟨w.heap.size, 3, none⟩ = some (.int .i64 m.num) := hb4.cell 3; have g3 := hb4.frozen 3; have n4 : w4.cell? ⟨w.heap.size, 4, none⟩ = some (.int .i64 (nowF m t)) := hb4.cell 4; have n5 : w4.cell? ⟨w.heap.size, 5, none⟩ = some (.int .i64 m.sent) := hb4.cell 5; have g1 := hb4.frozen 1; have g5 := hb4.frozen 5; rw [← HD.out] at hb4; have HB4 := Lib.hid hb4; clear hb4 ho4)
          | (with_reducible refine wpList_load_blk rfl 48 _ rfl w.heap.size 0 6 rfl HB4.out row48 (by rw [hDs.out]; exact Nat.le_refl 6) D hDw.out ?_)
          | (go_at_call 39; (with_reducible refine (hid _).mono ?_); rintro e w5 ⟨rfl, hb5'⟩; have hB5 := bnext hB4 hb5'; have k5 := k1.below hb5' k1.lt; clear hid)
          | ((with_reducible refine wpList_store_blk rfl 48 _ _ rfl (w.heap.size + 1) 0 6 I rfl rfl k5 row48 hIs.out (by rw [hZs.out]; exact Nat.le_refl 6) hI1.out ?_); intro w6 hb6 ho6; rw [splice_full _ _ (by rw [hZs.out, hIs.out])] at hb6)
          | fail)
        all_goals
          refine bodyPost_ret (results_blk_tmp2 rfl _ _ (w.heap.size + 1) I 48 6 _ _ rfl rfl rfl hb6 row48 hIs.out) rfl ?_
          exact ⟨_, by rw [HI.out]; rfl, World.ownsRow_nil _ _ _ _, below_only hB5 ho6 (by omega)⟩
      · by_cases hl : m.lim ≤ m.num + 1
        · have e2 : fbS m t a = idleF m t := by unfold fbS; rw [if_neg harg.out, if_neg hst, if_pos (.inr hl)]
          have e3 : fbO m t a = 2 := by unfold fbO; rw [hE, if_neg (by decide), if_neg ha, if_pos hl]
          rw [hE, e2, e3]
          have ha2 : a = 0 ∨ a = 2 := by omega
          have hw6 : IntKind.i64.wrap ((m.num : Int) + 1) = (m.num : Int) + 1 := IntWalk.i64_in _ (by omega)
          have hlI : (m.lim : Int) ≤ (m.num : Int) + 1 := by omega
          clear hE e2 e3 hst harg hl ha ha3
          obtain ⟨I, hI⟩ : ∃ I, I = cellsR (.slice none 0 0) (idleF m t) := ⟨_, rfl⟩
          have hIs := Lib.hid (show I.size = 6 by rw [hI]; rfl)
          have hI1 := Lib.hid (show I.all (·.oneCell') = true by rw [hI]; exact cellsR_one _ rfl)
          have hid := ridle_any (.slice A uk uc) (m1F m t)
          rw [idle_now, ← hI] at hid
          obtain ⟨D, hD⟩ : ∃ D, D = cellsR (.slice A uk uc) (m1F m t) := ⟨_, rfl⟩
          have hDs := Lib.hid (show D.size = 6 by rw [hD]; rfl)
          have hDw := Lib.hid (show D.extract 0 (0 + 6) = D by rw [hD]; rfl)
          have hD1 := Lib.hid (show D.all (·.oneCell') = true by rw [hD]; exact cellsR_one _ rfl)
          have HD := Lib.hid hD
          clear hD
          rw [← HD.out] at hid
          have HI := Lib.hid hI
          clear hI
          rcases ha2 with rfl | rfl
          · go_enter Try.func36, Try.ntmps36
            go_wp2_with (first
              | ((with_reducible refine wpList_store_int rfl 3 _ _ rfl w.heap.size 4 .i64 _ rfl rfl b0 H3.out ?_ ?_); (rw [hCs.out]; exact (by decide : 4 < 6)); intro w4 hb4 ho4; rw [HC.out, cellsR_now (t := t) (by unfold nowF; omega)] at hb4; have hB4 := below_only hB ho4 (Nat.le_refl _); have k1 := b1.only ho4 (by omega); have c1 : w4.cell? ⟨w.heap.size, 1, none⟩ = some (.int .i64 m.st) := hb4.cell 1; have n0 : w4.cell? ⟨w.heap.size, 0, none⟩ = some (.int .i64 m.lim) := hb4.cell 0; have n3 : w4.cell? ⟨w.heap.size, 3, none⟩ = some (.int .i64 m.num) := hb4.cell 3; have g3 := hb4.frozen 3; have n4 : w4.cell? ⟨w.heap.size, 4, none⟩ = some (.int .i64 (nowF m t)) := hb4.cell 4; have n5 : w4.cell? ⟨w.heap.size, 5, none⟩ = some (.int .i64 m.sent) := hb4.cell 5; have g1 := hb4.frozen 1; have g5 := hb4.frozen 5; rw [← HD.out] at hb4; have HB4 := Lib.hid hb4; clear hb4 ho4)
              | (with_reducible refine wpList_load_blk rfl 48 _ rfl w.heap.size 0 6 rfl HB4.out row48 (by rw [hDs.out]; exact Nat.le_refl 6) D hDw.out ?_)
              | (go_at_call 39; (with_reducible refine (hid _).mono ?_); rintro e w5 ⟨rfl, hb5'⟩; have hB5 := bnext hB4 hb5'; have k5 := k1.below hb5' k1.lt; clear hid)
              | ((with_reducible refine wpList_store_blk rfl 48 _ _ rfl (w.heap.size + 1) 0 6 I rfl rfl k5 row48 hIs.out (by rw [hZs.out]; exact Nat.le_refl 6) hI1.out ?_); intro w6 hb6 ho6; rw [splice_full _ _ (by rw [hZs.out, hIs.out])] at hb6)
              | fail)
            all_goals
              refine bodyPost_ret (results_blk_tmp2 rfl _ _ (w.heap.size + 1) I 48 6 _ _ rfl rfl rfl hb6 row48 hIs.out) rfl ?_
              exact ⟨_, by rw [HI.out]; rfl, World.ownsRow_nil _ _ _ _, below_only hB5 ho6 (by omega)⟩
          · go_enter Try.func36, Try.ntmps36
            go_wp2_with (first
              | ((with_reducible refine wpList_store_int rfl 3 _ _ rfl w.heap.size 4 .i64 _ rfl rfl b0 H3.out ?_ ?_); (rw [hCs.out]; exact (by decide : 4 < 6)); intro w4 hb4 ho4; rw [HC.out, cellsR_now (t := t) (by unfold nowF; omega)] at hb4; have hB4 := below_only hB ho4 (Nat.le_refl _); have k1 := b1.only ho4 (by omega); have c1 : w4.cell? ⟨w.heap.size, 1, none⟩ = some (.int .i64 m.st) := hb4.cell 1; have n0 : w4.cell? ⟨w.heap.size, 0, none⟩ = some (.int .i64 m.lim) := hb4.cell 0; have n3 : w4.cell? ⟨w.heap.size, 3, none⟩ = some (.int .i64 m.num) := hb4.cell 3; have g3 := hb4.frozen 3; have n4 : w4.cell? ⟨w.heap.size, 4, none⟩ = some (.int .i64 (nowF m t)) := hb4.cell 4; have n5 : w4.cell? ⟨w.heap.size, 5, none⟩ = some (.int .i64 m.sent) := hb4.cell 5; have g1 := hb4.frozen 1; have g5 := hb4.frozen 5; rw [← HD.out] at hb4; have HB4 := Lib.hid hb4; clear hb4 ho4)
              | (with_reducible refine wpList_load_blk rfl 48 _ rfl w.heap.size 0 6 rfl HB4.out row48 (by rw [hDs.out]; exact Nat.le_refl 6) D hDw.out ?_)
              | (go_at_call 39; (with_reducible refine (hid _).mono ?_); rintro e w5 ⟨rfl, hb5'⟩; have hB5 := bnext hB4 hb5'; have k5 := k1.below hb5' k1.lt; clear hid)
              | ((with_reducible refine wpList_store_blk rfl 48 _ _ rfl (w.heap.size + 1) 0 6 I rfl rfl k5 row48 hIs.out (by rw [hZs.out]; exact Nat.le_refl 6) hI1.out ?_); intro w6 hb6 ho6; rw [splice_full _ _ (by rw [hZs.out, hIs.out])] at hb6)
              | fail)
            all_goals
              refine bodyPost_ret (results_blk_tmp2 rfl _ _ (w.heap.size + 1) I 48 6 _ _ rfl rfl rfl hb6 row48 hIs.out) rfl ?_
              exact ⟨_, by rw [HI.out]; rfl, World.ownsRow_nil _ _ _ _, below_only hB5 ho6 (by omega)⟩
        · have e2 : fbS m t a = { m1F m t with st := 1, num := m.num + 1 } := by unfold fbS; rw [if_neg harg.out, if_neg hst, if_neg (by omega)]
          have e3 : fbO m t a = 0 := by unfold fbO; rw [hE, if_neg (by decide), if_neg ha, if_neg hl]
          rw [hE, e2, e3]
          have ha2 : a = 0 ∨ a = 2 := by omega
          have hw6 : IntKind.i64.wrap ((m.num : Int) + 1) = (m.num : Int) + 1 := IntWalk.i64_in _ (by omega)
          have hlI : ¬ ((m.lim : Int) ≤ (m.num : Int) + 1) := by omega
          clear hE e2 e3 hst harg hl ha ha3
          obtain ⟨D, hD⟩ : ∃ D, D = cellsR (.slice A uk uc) { m1F m t with st := 1, num := m.num + 1 } := ⟨_, rfl⟩
          have hDs := Lib.hid (show D.size = 6 by rw [hD]; rfl)
          have hDw := Lib.hid (show D.extract 0 (0 + 6) = D by rw [hD]; rfl)
          have hD1 := Lib.hid (show D.all (·.oneCell') = true by rw [hD]; exact cellsR_one _ rfl)
          have HD := Lib.hid hD
          clear hD
          rcases ha2 with rfl | rfl
          · go_enter Try.func36, Try.ntmps36
            go_wp2_with (first
              | ((with_reducible refine wpList_store_int rfl 3 _ _ rfl w.heap.size 4 .i64 _ rfl rfl b0 H3.out ?_ ?_); (rw [hCs.out]; exact (by decide : 4 < 6)); intro w4 hb4 ho4; rw [HC.out, cellsR_now (t := t) (by unfold nowF; omega)] at hb4; have hB4 := below_only hB ho4 (Nat.le_refl _); have k1 := b1.only ho4 (by omega); have c1 : w4.cell? ⟨w.heap.size, 1, none⟩ = some (.int .i64 m.st) := hb4.cell 1; have n0 : w4.cell? ⟨w.heap.size, 0, none⟩ = some (.int .i64 m.lim) := hb4.cell 0; have n3 : w4.cell? ⟨w.heap.size, 3, none⟩ = some (.int .i64 m.num) := hb4.cell 3; have g3 := hb4.frozen 3; have n4 : w4.cell? ⟨w.heap.size, 4, none⟩ = some (.int .i64 (nowF m t)) := hb4.cell 4; have n5 : w4.cell? ⟨w.heap.size, 5, none⟩ = some (.int .i64 m.sent) := hb4.cell 5; have g1 := hb4.frozen 1; have g5 := hb4.frozen 5
                 have HDX := Lib.hid (show Blk ((w4.setCell ⟨w.heap.size, 1, none⟩ (.int .i64 1)).setCell ⟨w.heap.size, 3, none⟩ (.int .i64 ((m.num : Int) + 1))) w.heap.size D 48 from by
                   have := (hb4.set 1 (.int .i64 1)).set 3 (.int .i64 ((m.num : Int) + 1))
                   rw [HD.out]; exact this)
                 have HB4 := Lib.hid hb4; have K1X := Lib.hid (show Blk ((w4.setCell ⟨w.heap.size, 1, none⟩ (.int .i64 1)).setCell ⟨w.heap.size, 3, none⟩ (.int .i64 ((m.num : Int) + 1))) (w.heap.size + 1) Z 48 from (k1.set_other (by show w.heap.size + 1 ≠ w.heap.size; omega) _).set_other (by show w.heap.size + 1 ≠ w.heap.size; omega) _)
                 clear hb4 ho4)
              | (with_reducible refine wpList_load_blk rfl 48 _ rfl w.heap.size 0 6 rfl HDX.out row48 (by rw [hDs.out]; exact Nat.le_refl 6) D hDw.out ?_)
              | ((with_reducible refine wpList_store_blk rfl 48 _ _ rfl (w.heap.size + 1) 0 6 D rfl rfl K1X.out row48 hDs.out (by rw [hZs.out]; exact Nat.le_refl 6) hD1.out ?_); intro w5 hb5 ho5; rw [splice_full _ _ (by rw [hZs.out, hDs.out])] at hb5)
              | fail)
            all_goals
              refine bodyPost_ret (results_blk_tmp2 rfl _ _ (w.heap.size + 1) D 48 6 _ _ rfl rfl rfl hb5 row48 hDs.out) rfl ?_
              have hB6 := (hB4.setCell (p := ⟨w.heap.size, 1, none⟩) (Nat.le_refl _) (.int .i64 1)).setCell (p := ⟨w.heap.size, 3, none⟩) (Nat.le_refl _) (.int .i64 ((m.num : Int) + 1))
              have hB5 := below_only hB6 ho5 (by omega)
              exact ⟨_, by rw [HD.out]; rfl, own_below HU.out hB5, hB5⟩
          · go_enter Try.func36, Try.ntmps36
            go_wp2_with (first
              | ((with_reducible refine wpList_store_int rfl 3 _ _ rfl w.heap.size 4 .i64 _ rfl rfl b0 H3.out ?_ ?_); (rw [hCs.out]; exact (by decide : 4 < 6)); intro w4 hb4 ho4; rw [HC.out, cellsR_now (t := t) (by unfold nowF; omega)] at hb4; have hB4 := below_only hB ho4 (Nat.le_refl _); have k1 := b1.only ho4 (by omega); have c1 : w4.cell? ⟨w.heap.size, 1, none⟩ = some (.int .i64 m.st) := hb4.cell 1; have n0 : w4.cell? ⟨w.heap.size, 0, none⟩ = some (.int .i64 m.lim) := hb4.cell 0; have n3 : w4.cell? ⟨w.heap.size, 3, none⟩ = some (.int .i64 m.num) := hb4.cell 3; have g3 := hb4.frozen 3; have n4 : w4.cell? ⟨w.heap.size, 4, none⟩ = some (.int .i64 (nowF m t)) := hb4.cell 4; have n5 : w4.cell? ⟨w.heap.size, 5, none⟩ = some (.int .i64 m.sent) := hb4.cell 5; have g1 := hb4.frozen 1; have g5 := hb4.frozen 5
                 have HDX := Lib.hid (show Blk ((w4.setCell ⟨w.heap.size, 1, none⟩ (.int .i64 1)).setCell ⟨w.heap.size, 3, none⟩ (.int .i64 ((m.num : Int) + 1))) w.heap.size D 48 from by
                   have := (hb4.set 1 (.int .i64 1)).set 3 (.int .i64 ((m.num : Int) + 1))
                   rw [HD.out]; exact this)
                 have HB4 := Lib.hid hb4; have K1X := Lib.hid (show Blk ((w4.setCell ⟨w.heap.size, 1, none⟩ (.int .i64 1)).setCell ⟨w.heap.size, 3, none⟩ (.int .i64 ((m.num : Int) + 1))) (w.heap.size + 1) Z 48 from (k1.set_other (by show w.heap.size + 1 ≠ w.heap.size; omega) _).set_other (by show w.heap.size + 1 ≠ w.heap.size; omega) _)
                 clear hb4 ho4)
              | (with_reducible refine wpList_load_blk rfl 48 _ rfl w.heap.size 0 6 rfl HDX.out row48 (by rw [hDs.out]; exact Nat.le_refl 6) D hDw.out ?_)
              | ((with_reducible refine wpList_store_blk rfl 48 _ _ rfl (w.heap.size + 1) 0 6 D rfl rfl K1X.out row48 hDs.out (by rw [hZs.out]; exact Nat.le_refl 6) hD1.out ?_); intro w5 hb5 ho5; rw [splice_full _ _ (by rw [hZs.out, hDs.out])] at hb5)
              | fail)
            all_goals
              refine bodyPost_ret (results_blk_tmp2 rfl _ _ (w.heap.size + 1) D 48 6 _ _ rfl rfl rfl hb5 row48 hDs.out) rfl ?_
              have hB6 := (hB4.setCell (p := ⟨w.heap.size, 1, none⟩) (Nat.le_refl _) (.int .i64 1)).setCell (p := ⟨w.heap.size, 3, none⟩) (Nat.le_refl _) (.int .i64 ((m.num : Int) + 1))
              have hB5 := below_only hB6 ho5 (by omega)
              exact ⟨_, by rw [HD.out]; rfl, own_below HU.out hB5, hB5⟩
end Go.Proofs.Ythbpmofabcilhaa
