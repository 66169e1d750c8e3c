/-
  The law's helpers, walks: an operation on both sides.
-/
import Derived.Test.YthbpmofabcilhaaHarW
set_option linter.unusedSimpArgs false
set_option linter.unusedVariables false
namespace Go.Proofs.Ythbpmofabcilhaa
open Go.RowKit
attribute [-go_sem] Instr.build

set_option maxRecDepth 100000 in
set_option maxHeartbeats 4000000 in
theorem do_other (b : Nat) (v u : Value) (m : Hq) (hm : OkH m) (kd : Int) (t c : Int) (l : List UInt8) (a : Option Addr) (q cap : Nat) (hq : q = l.length) (w : World) (hP : HP w b v m) (hu : RP w u m) (hb : Byt w a l) (h0 : a = none → cap = 0) (hl : l.length ≤ 1000) (hap : 0 < l.length → ∀ g o, a = some ⟨g, o, none⟩ → g ≠ b) (hkd : kd ≠ 0 ∧ kd ≠ 1 ∧ kd ≠ 2 ∧ kd ≠ 3) :
    Calls Try.prog 19 #[.pointer (some ⟨b, 0, none⟩), .agg (cellsR u m), .agg #[.int .i64 kd, .slice a q cap, .int .i64 t, .int .i64 c]] w fun e w' => ∃ v' u', e = .returned (.tuple #[.agg (cellsR u' (m)), .bool true]) ∧ DoI w w' b v' u' (m) (m) := by
  obtain ⟨uA, uk, uc, rfl⟩ := own_form hu
  obtain ⟨Z, hZ⟩ : ∃ Z, Z = cellsR (.slice none 0 0) ⟨0, 0, [], 0, 0, 0⟩ := ⟨_, rfl⟩
  obtain ⟨C, hC⟩ : ∃ C, C = cellsR (.slice uA uk uc) m := ⟨_, rfl⟩
  have z1 := zero48'
  rw [← hZ] at z1
  have hZs := Lib.hid (show Z.size = 6 by rw [hZ]; rfl)
  have hCs := Lib.hid (show C.size = 6 by rw [hC]; rfl)
  have hCw := Lib.hid (show C.extract 0 (0 + 6) = C by rw [hC]; rfl)
  have hC1 := Lib.hid (show C.all (·.oneCell') = true by rw [hC]; exact cellsR_one _ rfl)
  have hB : Below w.heap.size w (((w.alloc (.cells C 48)).alloc (.cells #[.int .i64 kd, .slice a q cap, .int .i64 t, .int .i64 c] 53)).alloc (.cells Z 48)) := below_new (below_new (below_new (Below.refl w.heap.size w) _) _) _
  have HD0 : RowKit.Hid (DoI w (((w.alloc (.cells C 48)).alloc (.cells #[.int .i64 kd, .slice a q cap, .int .i64 t, .int .i64 c] 53)).alloc (.cells Z 48)) b v (.slice uA uk uc) m m) := Lib.hid ⟨hP.below hB, hu.below hB, (But.refl _ _ _).below hB (Nat.le_refl _)⟩
  have b0 : Blk (((w.alloc (.cells C 48)).alloc (.cells #[.int .i64 kd, .slice a q cap, .int .i64 t, .int .i64 c] 53)).alloc (.cells Z 48)) w.heap.size C 48 := ((Blk.new' rfl).alloc _).alloc _
  have b1 : Blk (((w.alloc (.cells C 48)).alloc (.cells #[.int .i64 kd, .slice a q cap, .int .i64 t, .int .i64 c] 53)).alloc (.cells Z 48)) (w.heap.size + 1) #[.int .i64 kd, .slice a q cap, .int .i64 t, .int .i64 c] 53 := (Blk.new' (by simp)).alloc _
  have b2 : Blk (((w.alloc (.cells C 48)).alloc (.cells #[.int .i64 kd, .slice a q cap, .int .i64 t, .int .i64 c] 53)).alloc (.cells Z 48)) (w.heap.size + 1 + 1) Z 48 := Blk.new' (by simp)
  have hbw := hP.1.lt
  have HBY := Lib.hid hb
  have H0 := Lib.hid h0
  have HL := Lib.hid hl
  have HQ := Lib.hid hq
  have HAP := Lib.hid hap
  have HM := Lib.hid hm
  have HC := Lib.hid hC
  have HP0 := Lib.hid hP
  have HU0 := Lib.hid hu
  have HB := Lib.hid hB
  rw [← hC]
  clear hZ hC hP hu hb h0 hl hap hm hq
  have q0 : (kd == 0) = false := by simp [hkd.1]
  have q1 : (kd == 1) = false := by simp [hkd.2.1]
  have q2 : (kd == 2) = false := by simp [hkd.2.2.1]
  have q3 : (kd == 3) = false := by simp [hkd.2.2.2]
  clear hkd
  have d0 : (((w.alloc (.cells C 48)).alloc (.cells #[.int .i64 kd, .slice a q cap, .int .i64 t, .int .i64 c] 53)).alloc (.cells Z 48)).cell? ⟨w.heap.size + 1, 0, none⟩ = some (.int .i64 kd) := b1.cell 0; have d1 : (((w.alloc (.cells C 48)).alloc (.cells #[.int .i64 kd, .slice a q cap, .int .i64 t, .int .i64 c] 53)).alloc (.cells Z 48)).cell? ⟨w.heap.size + 1, 1, none⟩ = some (.slice a q cap) := b1.cell 1; have d2 : (((w.alloc (.cells C 48)).alloc (.cells #[.int .i64 kd, .slice a q cap, .int .i64 t, .int .i64 c] 53)).alloc (.cells Z 48)).cell? ⟨w.heap.size + 1, 2, none⟩ = some (.int .i64 t) := b1.cell 2; have d3 : (((w.alloc (.cells C 48)).alloc (.cells #[.int .i64 kd, .slice a q cap, .int .i64 t, .int .i64 c] 53)).alloc (.cells Z 48)).cell? ⟨w.heap.size + 1, 3, none⟩ = some (.int .i64 c) := b1.cell 3
  go_enter Try.func19, Try.ntmps19
  go_wp2_with (first
    | (with_reducible refine wpList_load_blk rfl 48 _ rfl w.heap.size 0 6 rfl b0 row48 (by rw [hCs.out]; exact Nat.le_refl 6) C hCw.out ?_)
    | ((with_reducible refine wpList_store_blk rfl 48 _ _ rfl (w.heap.size + 1 + 1) 0 6 C rfl rfl b2 row48 hCs.out (by rw [hZs.out]; exact Nat.le_refl 6) hC1.out ?_); intro w5 hb5 ho5; rw [splice_full _ _ (by rw [hZs.out, hCs.out])] at hb5))
  refine bodyPost_ret (results_blk_tmp rfl _ _ (w.heap.size + 1 + 1) C 48 6 _ rfl rfl hb5 row48 hCs.out) rfl ?_
  exact ⟨_, _, by rw [HC.out]; rfl, HD0.out.store ho5 b2 (by decide) (by omega) hbw⟩
set_option maxRecDepth 100000 in
set_option maxHeartbeats 4000000 in
theorem do_fb (b : Nat) (v u : Value) (m : Hq) (hm : OkH m) (t c : Int) (l : List UInt8) (a : Option Addr) (q cap : Nat) (hq : q = l.length) (w : World) (hP : HP w b v m) (hu : RP w u m) (hb : Byt w a l) (h0 : a = none → cap = 0) (hl : l.length ≤ 1000) (hap : 0 < l.length → ∀ g o, a = some ⟨g, o, none⟩ → g ≠ b) :
    Calls Try.prog 19 #[.pointer (some ⟨b, 0, none⟩), .agg (cellsR u m), .agg #[.int .i64 2, .slice a q cap, .int .i64 t, .int .i64 c]] w fun e w' => ∃ v' u', e = .returned (.tuple #[.agg (cellsR u' (fbS m t c)), .bool true]) ∧ DoI w w' b v' u' (fbS m t c) (fbS m t c) := by
  obtain ⟨uA, uk, uc, rfl⟩ := own_form hu
  obtain ⟨Z, hZ⟩ : ∃ Z, Z = cellsR (.slice none 0 0) ⟨0, 0, [], 0, 0, 0⟩ := ⟨_, rfl⟩
  obtain ⟨C, hC⟩ : ∃ C, C = cellsR (.slice uA uk uc) m := ⟨_, rfl⟩
  have z1 := zero48'
  rw [← hZ] at z1
  have hZs := Lib.hid (show Z.size = 6 by rw [hZ]; rfl)
  have hCs := Lib.hid (show C.size = 6 by rw [hC]; rfl)
  have hCw := Lib.hid (show C.extract 0 (0 + 6) = C by rw [hC]; rfl)
  have hC1 := Lib.hid (show C.all (·.oneCell') = true by rw [hC]; exact cellsR_one _ rfl)
  have hB : Below w.heap.size w (((w.alloc (.cells C 48)).alloc (.cells #[.int .i64 2, .slice a q cap, .int .i64 t, .int .i64 c] 53)).alloc (.cells Z 48)) := below_new (below_new (below_new (Below.refl w.heap.size w) _) _) _
  have HD0 : RowKit.Hid (DoI w (((w.alloc (.cells C 48)).alloc (.cells #[.int .i64 2, .slice a q cap, .int .i64 t, .int .i64 c] 53)).alloc (.cells Z 48)) b v (.slice uA uk uc) m m) := Lib.hid ⟨hP.below hB, hu.below hB, (But.refl _ _ _).below hB (Nat.le_refl _)⟩
  have b0 : Blk (((w.alloc (.cells C 48)).alloc (.cells #[.int .i64 2, .slice a q cap, .int .i64 t, .int .i64 c] 53)).alloc (.cells Z 48)) w.heap.size C 48 := ((Blk.new' rfl).alloc _).alloc _
  have b1 : Blk (((w.alloc (.cells C 48)).alloc (.cells #[.int .i64 2, .slice a q cap, .int .i64 t, .int .i64 c] 53)).alloc (.cells Z 48)) (w.heap.size + 1) #[.int .i64 2, .slice a q cap, .int .i64 t, .int .i64 c] 53 := (Blk.new' (by simp)).alloc _
  have b2 : Blk (((w.alloc (.cells C 48)).alloc (.cells #[.int .i64 2, .slice a q cap, .int .i64 t, .int .i64 c] 53)).alloc (.cells Z 48)) (w.heap.size + 1 + 1) Z 48 := Blk.new' (by simp)
  have hbw := hP.1.lt
  have HBY := Lib.hid hb
  have H0 := Lib.hid h0
  have HL := Lib.hid hl
  have HQ := Lib.hid hq
  have HAP := Lib.hid hap
  have HM := Lib.hid hm
  have HC := Lib.hid hC
  have HP0 := Lib.hid hP
  have HU0 := Lib.hid hu
  have HB := Lib.hid hB
  rw [← hC]
  clear hZ hC hP hu hb h0 hl hap hm hq
  have d0 : (((w.alloc (.cells C 48)).alloc (.cells #[.int .i64 2, .slice a q cap, .int .i64 t, .int .i64 c] 53)).alloc (.cells Z 48)).cell? ⟨w.heap.size + 1, 0, none⟩ = some (.int .i64 2) := b1.cell 0; have d1 : (((w.alloc (.cells C 48)).alloc (.cells #[.int .i64 2, .slice a q cap, .int .i64 t, .int .i64 c] 53)).alloc (.cells Z 48)).cell? ⟨w.heap.size + 1, 1, none⟩ = some (.slice a q cap) := b1.cell 1; have d2 : (((w.alloc (.cells C 48)).alloc (.cells #[.int .i64 2, .slice a q cap, .int .i64 t, .int .i64 c] 53)).alloc (.cells Z 48)).cell? ⟨w.heap.size + 1, 2, none⟩ = some (.int .i64 t) := b1.cell 2; have d3 : (((w.alloc (.cells C 48)).alloc (.cells #[.int .i64 2, .slice a q cap, .int .i64 t, .int .i64 c] 53)).alloc (.cells Z 48)).cell? ⟨w.heap.size + 1, 3, none⟩ = some (.int .i64 c) := b1.cell 3
  obtain ⟨W0, hW0⟩ : ∃ W0, W0 = (((w.alloc (.cells C 48)).alloc (.cells #[.int .i64 2, .slice a q cap, .int .i64 t, .int .i64 c] 53)).alloc (.cells Z 48)) := ⟨_, rfl⟩
  have hsz : W0.heap.size = w.heap.size + 1 + 1 + 1 := by rw [hW0]; simp
  have hff := ffb_any b v m t c _ HD0.out.p HM.out
  have hrf := fun W (h : RP W (.slice uA uk uc) m) => rfb_any uA uk uc m t c HM.out.now HM.out.sent (by have := HM.out.num; have := HM.out.l16; omega) W h
  rw [← HC.out] at hrf
  obtain ⟨E, hE⟩ : ∃ E, E = fbE m t c := ⟨_, rfl⟩
  obtain ⟨O, hO⟩ : ∃ O, O = fbO m t c := ⟨_, rfl⟩
  obtain ⟨m1, hm1⟩ : ∃ m1, m1 = fbS m t c := ⟨_, rfl⟩
  have hok : OkH m1 := by rw [hm1]; exact okH_fb HM.out t c
  rw [← hE, ← hO, ← hm1] at hrf hff
  rw [← hm1]
  rw [← hW0] at hff HD0 b0 b1 b2 HB
  have HW0 := Lib.hid hW0
  have HOK := Lib.hid hok
  replace hff := Lib.hid hff
  replace hrf := Lib.hid hrf
  have e1 : (E == E) = true := by simp
  have e2 : (O == O) = true := by simp
  have HB0 := Lib.hid b0
  have HB1 := Lib.hid b1
  have HB2 := Lib.hid b2
  clear hW0 hE hO hm1 hok hB b0 b1 b2
  go_enter Try.func19, Try.ntmps19
  go_wp2_with (first
    | (go_at_call 15; rw [← HW0.out]; (with_reducible refine hff.out.mono ?_); rintro e w1 ⟨v', rfl, hp1, hk1⟩; have HP1 := Lib.hid hp1; have HK1 := Lib.hid hk1; have r1 : RP w1 (.slice uA uk uc) m := own_but HD0.out.r hk1 (own_ne_blk HD0.out.r HD0.out.p.1 (by decide)); have a0 := HB0.out.but hk1 HB0.out.lt (by omega); have a1 := HB1.out.but hk1 HB1.out.lt (by omega); have a2 := HB2.out.but hk1 HB2.out.lt (by omega); have x0 : w1.cell? ⟨w.heap.size + 1, 0, none⟩ = some (.int .i64 2) := a1.cell 0; have x1 : w1.cell? ⟨w.heap.size + 1, 1, none⟩ = some (.slice a q cap) := a1.cell 1; have x2 : w1.cell? ⟨w.heap.size + 1, 2, none⟩ = some (.int .i64 t) := a1.cell 2; have x3 : w1.cell? ⟨w.heap.size + 1, 3, none⟩ = some (.int .i64 c) := a1.cell 3; have R1 := Lib.hid r1; have A2 := Lib.hid a2; have hsz1 := hk1.size; clear hp1 hk1 r1 a1 a2)
    | (with_reducible refine wpList_load_blk rfl 48 _ rfl w.heap.size 0 6 rfl a0 row48 (by rw [hCs.out]; exact Nat.le_refl 6) C hCw.out ?_)
    | (go_at_call 36; (with_reducible refine (hrf.out _ R1.out).mono ?_); rintro e w2 ⟨u', rfl, hr2, hB2⟩; obtain ⟨R, hR⟩ : ∃ R, R = cellsR u' m1 := ⟨_, rfl⟩
       rw [← hR]; have hRs := Lib.hid (show R.size = 6 by rw [hR]; rfl); have hR1 := Lib.hid (show R.all (·.oneCell') = true by rw [hR]; exact cellsR_one _ (own_slice hr2).2); have HR := Lib.hid hR; have HR2 := Lib.hid hr2; have HB2' := Lib.hid hB2; have A2' := Lib.hid (A2.out.below hB2 A2.out.lt); have hsz2 := hB2.size; have kz : Blk (w2.alloc (.cells Z 48)) w2.heap.size Z 48 := Blk.new' rfl
       clear hr2 hB2 hR a0)
    | ((with_reducible refine wpList_store_blk rfl 48 _ _ rfl w2.heap.size 0 6 R rfl rfl kz row48 hRs.out (by rw [hZs.out]; exact Nat.le_refl 6) hR1.out ?_); intro w3 hb3 ho3; rw [splice_full _ _ (by rw [hZs.out, hRs.out])] at hb3))
  have kg := (A2'.out.alloc (.cells Z 48)).only ho3 (by have := A2'.out.lt; omega)
  have DI0 : DoI w w1 b v' (.slice uA uk uc) m1 m := ⟨HP1.out, R1.out, HD0.out.k.trans ⟨HK1.out.os, HK1.out.tape, HK1.out.output, HK1.out.size, fun i hi hn => HK1.out.block i (by omega) hn⟩⟩
  have DI1 : DoI w w2 b v' u' m1 m1 := ⟨HP1.out.below HB2'.out, HR2.out, DI0.k.below HB2'.out DI0.k.size⟩
  have DI : RowKit.Hid (DoI w w3 b v' u' m1 m1) := Lib.hid ((DI1.below (alloc_below _ _)).store ho3 kz (by decide) (by omega) hbw)
  have hne : w.heap.size + 1 + 1 ≠ w2.heap.size := by omega
  have kr := hb3
  clear DI0 DI1 hb3 ho3 kz hrf hff d0 d1 d2 d3 x0 x1 x2 x3
  generalize w2.heap.size = gr at *
  obtain ⟨gg, hgg⟩ : ∃ gg, gg = w.heap.size + 1 + 1 := ⟨_, rfl⟩
  have hgrg : gg ≠ gr := by rw [hgg]; exact hne
  rw [← hgg] at kg ⊢
  replace hgg := Lib.hid hgg
  have HAG := Lib.hid (fun WW h => agrees_any b (v') (u') (m1) HOK.out WW h)
  rw [← HR.out] at HAG
  have DD : RowKit.Hid (DoI w w3.drew b (v') (u') (m1) (m1)) := Lib.hid DI.out.drew
  have s0 : Blk w3.drew gr R 48 := kr.drew
  have t8 : Blk w3.drew gg Z 48 := kg.drew
  clear kg hne
  refine wp_region_held_drew (S := fun W' => Blk W' gr R 48) (by kernel_rfl) s0 (fun hHeld => ?_)
  generalize w3.drew = W7 at *
  refine wpAnyH_takeD 0 (some 132) (v := (.agg (R))) rfl rfl (by kernel_rfl) (by kernel_rfl) (by kernel_rfl) (fun _ _ _ h => h) (yieldsIf_load_blk rfl 48 _ rfl (gr) 6 (R) 48 rfl (fun _ h => h) row48 (hRs.out)) (by assumption) ?_; try simp only [Act.put, List.setIfInBounds_toArray, List.set_cons_zero, List.set_cons_succ, Array.toArray_toList]
  refine wpAnyH_takeD 1 (some 133) (v := (.int .i64 E)) rfl rfl (by kernel_rfl) (by kernel_rfl) (by kernel_rfl) (fun _ _ _ h => h) (yieldsIf_calc rfl (fun w => by unfold execOp; go_simp)) (by assumption) ?_; try simp only [Act.put, List.setIfInBounds_toArray, List.set_cons_zero, List.set_cons_succ, Array.toArray_toList]
  refine wpAnyH_takeD 2 (some 134) (v := (.int .i64 E)) rfl rfl (by kernel_rfl) (by kernel_rfl) (by kernel_rfl) (fun _ _ _ h => h) (yieldsIf_calc rfl (fun w => by unfold execOp; go_simp)) (by assumption) ?_; try simp only [Act.put, List.setIfInBounds_toArray, List.set_cons_zero, List.set_cons_succ, Array.toArray_toList]
  refine wpAnyH_takeD 3 (some 135) (v := (.bool true)) rfl rfl (by kernel_rfl) (by kernel_rfl) (by kernel_rfl) (fun _ _ _ h => h) (yieldsIf_calc rfl (fun w => by unfold execOp; go_simp)) (by assumption) ?_; try simp only [Act.put, List.setIfInBounds_toArray, List.set_cons_zero, List.set_cons_succ, Array.toArray_toList]
  refine wpAnyH_takeD 4 (some 136) (v := (.bool true)) rfl rfl (by kernel_rfl) (by kernel_rfl) (by kernel_rfl) (fun _ _ _ h => h) (yieldsIf_calc rfl (fun w => by unfold execOp; go_simp)) (by assumption) ?_; try simp only [Act.put, List.setIfInBounds_toArray, List.set_cons_zero, List.set_cons_succ, Array.toArray_toList]
  refine wpAnyH_takeD 5 (some 137) (v := (.int .i64 O)) rfl rfl (by kernel_rfl) (by kernel_rfl) (by kernel_rfl) (fun _ _ _ h => h) (yieldsIf_calc rfl (fun w => by unfold execOp; go_simp)) (by assumption) ?_; try simp only [Act.put, List.setIfInBounds_toArray, List.set_cons_zero, List.set_cons_succ, Array.toArray_toList]
  refine wpAnyH_takeD 6 (some 138) (v := (.int .i64 O)) rfl rfl (by kernel_rfl) (by kernel_rfl) (by kernel_rfl) (fun _ _ _ h => h) (yieldsIf_calc rfl (fun w => by unfold execOp; go_simp)) (by assumption) ?_; try simp only [Act.put, List.setIfInBounds_toArray, List.set_cons_zero, List.set_cons_succ, Array.toArray_toList]
  refine wpAnyH_takeD 7 (some 139) (v := (.bool true)) rfl rfl (by kernel_rfl) (by kernel_rfl) (by kernel_rfl) (fun _ _ _ h => h) (yieldsIf_calc rfl (fun w => by unfold execOp; go_simp)) (by assumption) ?_; try simp only [Act.put, List.setIfInBounds_toArray, List.set_cons_zero, List.set_cons_succ, Array.toArray_toList]
  refine wpAnyH_takeD 8 (some 140) (v := (.bool true)) rfl rfl (by kernel_rfl) (by kernel_rfl) (by kernel_rfl) (fun _ _ _ h => h) (yieldsIf_calc rfl (fun w => by unfold execOp; go_simp)) (by assumption) ?_; try simp only [Act.put, List.setIfInBounds_toArray, List.set_cons_zero, List.set_cons_succ, Array.toArray_toList]
  refine wpAnyH_takeD 9 (some 141) (v := (.bool true)) rfl rfl (by kernel_rfl) (by kernel_rfl) (by kernel_rfl) (fun _ _ _ h => h) (yieldsIf_calc rfl (fun w => by unfold execOp; go_simp)) (by assumption) ?_; try simp only [Act.put, List.setIfInBounds_toArray, List.set_cons_zero, List.set_cons_succ, Array.toArray_toList]
  refine wpAnyH_takeD 10 (some 142) (v := (.pointer (some ⟨b, 0, none⟩))) rfl rfl (by kernel_rfl) (by kernel_rfl) (by kernel_rfl) (fun _ _ _ h => h) (yieldsIf_calc rfl (fun w => by unfold execOp; go_simp)) (by assumption) ?_; try simp only [Act.put, List.setIfInBounds_toArray, List.set_cons_zero, List.set_cons_succ, Array.toArray_toList]
  refine wpAnyH_takeD 11 (some 143) (v := (.agg (R))) rfl rfl (by kernel_rfl) (by kernel_rfl) (by kernel_rfl) (fun _ _ _ h => h) (yieldsIf_load_blk rfl 48 _ rfl (gr) 6 (R) 48 rfl (fun _ h => h) row48 (hRs.out)) (by assumption) ?_; try simp only [Act.put, List.setIfInBounds_toArray, List.set_cons_zero, List.set_cons_succ, Array.toArray_toList]
  refine wpAnyH_one 12 rfl (by kernel_rfl) (fun K' hK' => ?_)
  go_simp
  (go_at_call 18; (with_reducible refine (HAG.out _ DD.out.p.1).mono ?_); rintro e w9 ⟨rfl, hw9⟩; have s9 := s0.below hw9 s0.lt; replace DD := Lib.hid (DD.out.below hw9); have t9 := t8.below hw9 t8.lt)
  go_wp2
  refine hK'.out _ _ (s9) ?_; clear hK' K'; try simp only [Act.put, List.setIfInBounds_toArray, List.set_cons_zero, List.set_cons_succ, Array.toArray_toList]
  refine wpAnyH_takeD 13 (some 145) (v := (.bool true)) rfl rfl (by kernel_rfl) (by kernel_rfl) (by kernel_rfl) (fun _ _ _ h => h) (yieldsIf_calc rfl (fun w => by unfold execOp; go_simp)) (by assumption) ?_; try simp only [Act.put, List.setIfInBounds_toArray, List.set_cons_zero, List.set_cons_succ, Array.toArray_toList]
  refine wpAnyH_one 14 rfl (by kernel_rfl) (fun K' hK' => ?_)
  refine ite_go rfl ?_
  refine wp_store_blk none rfl 48 _ _ rfl gg 0 6 R rfl rfl t9 row48 hRs.out (by rw [hZs.out]; exact Nat.le_refl 6) hR1.out ?_
  intro w10 hb10 ho10; rw [splice_full _ _ (by rw [hZs.out, hRs.out])] at hb10
  have s10 := s9.only ho10 (Ne.symm hgrg)
  refine hK'.out _ _ (s10) ?_; clear hK' K'; try simp only [Act.put, List.setIfInBounds_toArray, List.set_cons_zero, List.set_cons_succ, Array.toArray_toList]
  refine wpAnyH_takeD 15 (some 7) (v := (.bool true)) rfl rfl (by kernel_rfl) (by kernel_rfl) (by kernel_rfl) (fun _ _ _ h => h) (yieldsIf_calc rfl (fun w => by unfold execOp; go_simp)) (by assumption) ?_; try simp only [Act.put, List.setIfInBounds_toArray, List.set_cons_zero, List.set_cons_succ, Array.toArray_toList]
  refine wpAnyH_done (by kernel_rfl) ?_ _
  go_wp2
  refine bodyPost_ret (results_blk_tmp rfl _ _ gg R 48 6 _ rfl rfl hb10 row48 hRs.out) rfl ?_
  exact ⟨_, _, by rw [HR.out]; rfl, DD.out.store ho10 t9 (by decide) (by have := hgg.out; omega) hbw⟩
set_option maxRecDepth 100000 in
set_option maxHeartbeats 4000000 in
theorem do_drop0 (b : Nat) (v u : Value) (m : Hq) (hm : OkH m) (t c : Int) (l : List UInt8) (a : Option Addr) (q cap : Nat) (hq : q = l.length) (w : World) (hP : HP w b v m) (hu : RP w u m) (hb : Byt w a l) (h0 : a = none → cap = 0) (hl : l.length ≤ 1000) (hap : 0 < l.length → ∀ g o, a = some ⟨g, o, none⟩ → g ≠ b) (hst : m.st = 0) :
    Calls Try.prog 19 #[.pointer (some ⟨b, 0, none⟩), .agg (cellsR u m), .agg #[.int .i64 3, .slice a q cap, .int .i64 t, .int .i64 c]] w fun e w' => ∃ v' u', e = .returned (.tuple #[.agg (cellsR u' (m)), .bool true]) ∧ DoI w w' b v' u' (m) (m) := by
  obtain ⟨uA, uk, uc, rfl⟩ := own_form hu
  obtain ⟨Z, hZ⟩ : ∃ Z, Z = cellsR (.slice none 0 0) ⟨0, 0, [], 0, 0, 0⟩ := ⟨_, rfl⟩
  obtain ⟨C, hC⟩ : ∃ C, C = cellsR (.slice uA uk uc) m := ⟨_, rfl⟩
  have z1 := zero48'
  rw [← hZ] at z1
  have hZs := Lib.hid (show Z.size = 6 by rw [hZ]; rfl)
  have hCs := Lib.hid (show C.size = 6 by rw [hC]; rfl)
  have hCw := Lib.hid (show C.extract 0 (0 + 6) = C by rw [hC]; rfl)
  have hC1 := Lib.hid (show C.all (·.oneCell') = true by rw [hC]; exact cellsR_one _ rfl)
  have hB : Below w.heap.size w (((w.alloc (.cells C 48)).alloc (.cells #[.int .i64 3, .slice a q cap, .int .i64 t, .int .i64 c] 53)).alloc (.cells Z 48)) := below_new (below_new (below_new (Below.refl w.heap.size w) _) _) _
  have HD0 : RowKit.Hid (DoI w (((w.alloc (.cells C 48)).alloc (.cells #[.int .i64 3, .slice a q cap, .int .i64 t, .int .i64 c] 53)).alloc (.cells Z 48)) b v (.slice uA uk uc) m m) := Lib.hid ⟨hP.below hB, hu.below hB, (But.refl _ _ _).below hB (Nat.le_refl _)⟩
  have b0 : Blk (((w.alloc (.cells C 48)).alloc (.cells #[.int .i64 3, .slice a q cap, .int .i64 t, .int .i64 c] 53)).alloc (.cells Z 48)) w.heap.size C 48 := ((Blk.new' rfl).alloc _).alloc _
  have b1 : Blk (((w.alloc (.cells C 48)).alloc (.cells #[.int .i64 3, .slice a q cap, .int .i64 t, .int .i64 c] 53)).alloc (.cells Z 48)) (w.heap.size + 1) #[.int .i64 3, .slice a q cap, .int .i64 t, .int .i64 c] 53 := (Blk.new' (by simp)).alloc _
  have b2 : Blk (((w.alloc (.cells C 48)).alloc (.cells #[.int .i64 3, .slice a q cap, .int .i64 t, .int .i64 c] 53)).alloc (.cells Z 48)) (w.heap.size + 1 + 1) Z 48 := Blk.new' (by simp)
  have hbw := hP.1.lt
  have HBY := Lib.hid hb
  have H0 := Lib.hid h0
  have HL := Lib.hid hl
  have HQ := Lib.hid hq
  have HAP := Lib.hid hap
  have HM := Lib.hid hm
  have HC := Lib.hid hC
  have HP0 := Lib.hid hP
  have HU0 := Lib.hid hu
  have HB := Lib.hid hB
  rw [← hC]
  clear hZ hC hP hu hb h0 hl hap hm hq
  have d0 : (((w.alloc (.cells C 48)).alloc (.cells #[.int .i64 3, .slice a q cap, .int .i64 t, .int .i64 c] 53)).alloc (.cells Z 48)).cell? ⟨w.heap.size + 1, 0, none⟩ = some (.int .i64 3) := b1.cell 0; have d1 : (((w.alloc (.cells C 48)).alloc (.cells #[.int .i64 3, .slice a q cap, .int .i64 t, .int .i64 c] 53)).alloc (.cells Z 48)).cell? ⟨w.heap.size + 1, 1, none⟩ = some (.slice a q cap) := b1.cell 1; have d2 : (((w.alloc (.cells C 48)).alloc (.cells #[.int .i64 3, .slice a q cap, .int .i64 t, .int .i64 c] 53)).alloc (.cells Z 48)).cell? ⟨w.heap.size + 1, 2, none⟩ = some (.int .i64 t) := b1.cell 2; have d3 : (((w.alloc (.cells C 48)).alloc (.cells #[.int .i64 3, .slice a q cap, .int .i64 t, .int .i64 c] 53)).alloc (.cells Z 48)).cell? ⟨w.heap.size + 1, 3, none⟩ = some (.int .i64 c) := b1.cell 3
  have hl0 : m.lim ≠ 0 := by have := HM.out.l1; omega
  have hdr := drop_idle b v m _ HD0.out.p hl0 hst
  have c1 : (((w.alloc (.cells C 48)).alloc (.cells #[.int .i64 3, .slice a q cap, .int .i64 t, .int .i64 c] 53)).alloc (.cells Z 48)).cell? ⟨w.heap.size, 1, none⟩ = some (.int .i64 m.st) := by rw [b0.cell, HC.out]; rfl
  have hx : ((m.st : Int) == 0) = true := by rw [hst]; rfl
  have DI := HD0
  have kr := b0
  have kg := b2
  have hne : w.heap.size + 1 + 1 ≠ w.heap.size := by omega
  replace hdr := Lib.hid hdr
  replace hst := Lib.hid hst
  have K1 := Lib.hid kr
  have K2 := Lib.hid kg
  clear b0 b1 b2 kr kg
  go_enter Try.func19, Try.ntmps19
  go_wp2_with (go_at_call 22; (with_reducible refine hdr.out.mono ?_); rintro e w' ⟨rfl, hw⟩; rw [hw]; clear hw)
  have kr := K1.out
  have kg := K2.out
  obtain ⟨W3, hW3⟩ : ∃ W3, W3 = (((w.alloc (.cells C 48)).alloc (.cells #[.int .i64 3, .slice a q cap, .int .i64 t, .int .i64 c] 53)).alloc (.cells Z 48)) := ⟨_, rfl⟩
  rw [← hW3] at DI kr kg ⊢
  clear hW3 d0 d1 d2 d3 c1 hdr hB HB HD0 K1 K2
  obtain ⟨gr, hgr⟩ : ∃ gr, gr = w.heap.size := ⟨_, rfl⟩
  rw [← hgr] at kr hne
  have hgr2 := hgr
  replace hgr := Lib.hid hgr
  obtain ⟨gg, hgg⟩ : ∃ gg, gg = w.heap.size + 1 + 1 := ⟨_, rfl⟩
  have hgrg : gg ≠ gr := by rw [hgg, hgr2]; omega
  rw [← hgg] at kg
  rw [← hgg, ← hgr2]
  clear hgr2
  replace hgg := Lib.hid hgg
  have HAG := Lib.hid (fun WW h => agrees_any b (v) (.slice uA uk uc) (m) HM.out WW h)
  rw [← HC.out] at HAG
  have DD : RowKit.Hid (DoI w W3.drew b (v) (.slice uA uk uc) (m) (m)) := Lib.hid DI.out.drew
  have s0 : Blk W3.drew gr C 48 := kr.drew
  have t8 : Blk W3.drew gg Z 48 := kg.drew
  clear kg hne
  refine wp_region_held_drew (S := fun W' => Blk W' gr C 48) (by kernel_rfl) s0 (fun hHeld => ?_)
  generalize W3.drew = W7 at *
  refine wpAnyH_takeD 0 (some 156) (v := (.agg (C))) rfl rfl (by kernel_rfl) (by kernel_rfl) (by kernel_rfl) (fun _ _ _ h => h) (yieldsIf_load_blk rfl 48 _ rfl (gr) 6 (C) 48 rfl (fun _ h => h) row48 (hCs.out)) (by assumption) ?_; try simp only [Act.put, List.setIfInBounds_toArray, List.set_cons_zero, List.set_cons_succ, Array.toArray_toList]
  refine wpAnyH_takeD 1 (some 157) (v := (.int .i64 8)) rfl rfl (by kernel_rfl) (by kernel_rfl) (by kernel_rfl) (fun _ _ _ h => h) (yieldsIf_calc rfl (fun w => by unfold execOp; go_simp)) (by assumption) ?_; try simp only [Act.put, List.setIfInBounds_toArray, List.set_cons_zero, List.set_cons_succ, Array.toArray_toList]
  refine wpAnyH_takeD 2 (some 158) (v := (.bool true)) rfl rfl (by kernel_rfl) (by kernel_rfl) (by kernel_rfl) (fun _ _ _ h => h) (yieldsIf_calc rfl (fun w => by unfold execOp; go_simp)) (by assumption) ?_; try simp only [Act.put, List.setIfInBounds_toArray, List.set_cons_zero, List.set_cons_succ, Array.toArray_toList]
  refine wpAnyH_takeD 3 (some 159) (v := (.bool true)) rfl rfl (by kernel_rfl) (by kernel_rfl) (by kernel_rfl) (fun _ _ _ h => h) (yieldsIf_calc rfl (fun w => by unfold execOp; go_simp)) (by assumption) ?_; try simp only [Act.put, List.setIfInBounds_toArray, List.set_cons_zero, List.set_cons_succ, Array.toArray_toList]
  refine wpAnyH_takeD 4 (some 160) (v := (.slice none 0 0)) rfl rfl (by kernel_rfl) (by kernel_rfl) (by kernel_rfl) (fun _ _ _ h => h) (yieldsIf_calc rfl (fun w => by unfold execOp; go_simp)) (by assumption) ?_; try simp only [Act.put, List.setIfInBounds_toArray, List.set_cons_zero, List.set_cons_succ, Array.toArray_toList]
  refine wpAnyH_takeD 5 (some 161) (v := (.int .i64 0)) rfl rfl (by kernel_rfl) (by kernel_rfl) (by kernel_rfl) (fun _ _ _ h => h) (yieldsIf_calc rfl (fun w => by unfold execOp; go_simp)) (by assumption) ?_; try simp only [Act.put, List.setIfInBounds_toArray, List.set_cons_zero, List.set_cons_succ, Array.toArray_toList]
  refine wpAnyH_takeD 6 (some 162) (v := (.bool true)) rfl rfl (by kernel_rfl) (by kernel_rfl) (by kernel_rfl) (fun _ _ _ h => h) (yieldsIf_calc rfl (fun w => by unfold execOp; go_simp)) (by assumption) ?_; try simp only [Act.put, List.setIfInBounds_toArray, List.set_cons_zero, List.set_cons_succ, Array.toArray_toList]
  refine wpAnyH_takeD 7 (some 163) (v := (.bool true)) rfl rfl (by kernel_rfl) (by kernel_rfl) (by kernel_rfl) (fun _ _ _ h => h) (yieldsIf_calc rfl (fun w => by unfold execOp; go_simp)) (by assumption) ?_; try simp only [Act.put, List.setIfInBounds_toArray, List.set_cons_zero, List.set_cons_succ, Array.toArray_toList]
  refine wpAnyH_takeD 8 (some 164) (v := (.bool true)) rfl rfl (by kernel_rfl) (by kernel_rfl) (by kernel_rfl) (fun _ _ _ h => h) (yieldsIf_calc rfl (fun w => by unfold execOp; go_simp)) (by assumption) ?_; try simp only [Act.put, List.setIfInBounds_toArray, List.set_cons_zero, List.set_cons_succ, Array.toArray_toList]
  refine wpAnyH_takeD 9 (some 165) (v := (.pointer (some ⟨b, 0, none⟩))) rfl rfl (by kernel_rfl) (by kernel_rfl) (by kernel_rfl) (fun _ _ _ h => h) (yieldsIf_calc rfl (fun w => by unfold execOp; go_simp)) (by assumption) ?_; try simp only [Act.put, List.setIfInBounds_toArray, List.set_cons_zero, List.set_cons_succ, Array.toArray_toList]
  refine wpAnyH_takeD 10 (some 166) (v := (.agg (C))) rfl rfl (by kernel_rfl) (by kernel_rfl) (by kernel_rfl) (fun _ _ _ h => h) (yieldsIf_load_blk rfl 48 _ rfl (gr) 6 (C) 48 rfl (fun _ h => h) row48 (hCs.out)) (by assumption) ?_; try simp only [Act.put, List.setIfInBounds_toArray, List.set_cons_zero, List.set_cons_succ, Array.toArray_toList]
  refine wpAnyH_one 11 rfl (by kernel_rfl) (fun K' hK' => ?_)
  go_simp
  (go_at_call 18; (with_reducible refine (HAG.out _ DD.out.p.1).mono ?_); rintro e w9 ⟨rfl, hw9⟩; have s9 := s0.below hw9 s0.lt; replace DD := Lib.hid (DD.out.below hw9); have t9 := t8.below hw9 t8.lt)
  go_wp2
  refine hK'.out _ _ (s9) ?_; clear hK' K'; try simp only [Act.put, List.setIfInBounds_toArray, List.set_cons_zero, List.set_cons_succ, Array.toArray_toList]
  refine wpAnyH_takeD 12 (some 168) (v := (.bool true)) rfl rfl (by kernel_rfl) (by kernel_rfl) (by kernel_rfl) (fun _ _ _ h => h) (yieldsIf_calc rfl (fun w => by unfold execOp; go_simp)) (by assumption) ?_; try simp only [Act.put, List.setIfInBounds_toArray, List.set_cons_zero, List.set_cons_succ, Array.toArray_toList]
  refine wpAnyH_one 13 rfl (by kernel_rfl) (fun K' hK' => ?_)
  refine ite_go rfl ?_
  refine wp_store_blk none rfl 48 _ _ rfl gg 0 6 C rfl rfl t9 row48 hCs.out (by rw [hZs.out]; exact Nat.le_refl 6) hC1.out ?_
  intro w10 hb10 ho10; rw [splice_full _ _ (by rw [hZs.out, hCs.out])] at hb10
  have s10 := s9.only ho10 (Ne.symm hgrg)
  refine hK'.out _ _ (s10) ?_; clear hK' K'; try simp only [Act.put, List.setIfInBounds_toArray, List.set_cons_zero, List.set_cons_succ, Array.toArray_toList]
  refine wpAnyH_takeD 14 (some 7) (v := (.bool true)) rfl rfl (by kernel_rfl) (by kernel_rfl) (by kernel_rfl) (fun _ _ _ h => h) (yieldsIf_calc rfl (fun w => by unfold execOp; go_simp)) (by assumption) ?_; try simp only [Act.put, List.setIfInBounds_toArray, List.set_cons_zero, List.set_cons_succ, Array.toArray_toList]
  refine wpAnyH_done (by kernel_rfl) ?_ _
  go_wp2
  refine bodyPost_ret (results_blk_tmp rfl _ _ gg C 48 6 _ rfl rfl hb10 row48 hCs.out) rfl ?_
  exact ⟨_, _, by rw [HC.out]; rfl, DD.out.store ho10 t9 (by decide) (by have := hgg.out; omega) hbw⟩
set_option maxRecDepth 100000 in
set_option maxHeartbeats 4000000 in
theorem do_drop1 (b : Nat) (v u : Value) (m : Hq) (hm : OkH m) (t c : Int) (l : List UInt8) (a : Option Addr) (q cap : Nat) (hq : q = l.length) (w : World) (hP : HP w b v m) (hu : RP w u m) (hb : Byt w a l) (h0 : a = none → cap = 0) (hl : l.length ≤ 1000) (hap : 0 < l.length → ∀ g o, a = some ⟨g, o, none⟩ → g ≠ b) (hst : m.st ≠ 0) :
    Calls Try.prog 19 #[.pointer (some ⟨b, 0, none⟩), .agg (cellsR u m), .agg #[.int .i64 3, .slice a q cap, .int .i64 t, .int .i64 c]] w fun e w' => ∃ v' u', e = .returned (.tuple #[.agg (cellsR u' (idleR m)), .bool true]) ∧ DoI w w' b v' u' (idleR m) (idleR m) := by
  obtain ⟨uA, uk, uc, rfl⟩ := own_form hu
  obtain ⟨Z, hZ⟩ : ∃ Z, Z = cellsR (.slice none 0 0) ⟨0, 0, [], 0, 0, 0⟩ := ⟨_, rfl⟩
  obtain ⟨C, hC⟩ : ∃ C, C = cellsR (.slice uA uk uc) m := ⟨_, rfl⟩
  have z1 := zero48'
  rw [← hZ] at z1
  have hZs := Lib.hid (show Z.size = 6 by rw [hZ]; rfl)
  have hCs := Lib.hid (show C.size = 6 by rw [hC]; rfl)
  have hCw := Lib.hid (show C.extract 0 (0 + 6) = C by rw [hC]; rfl)
  have hC1 := Lib.hid (show C.all (·.oneCell') = true by rw [hC]; exact cellsR_one _ rfl)
  have hB : Below w.heap.size w (((w.alloc (.cells C 48)).alloc (.cells #[.int .i64 3, .slice a q cap, .int .i64 t, .int .i64 c] 53)).alloc (.cells Z 48)) := below_new (below_new (below_new (Below.refl w.heap.size w) _) _) _
  have HD0 : RowKit.Hid (DoI w (((w.alloc (.cells C 48)).alloc (.cells #[.int .i64 3, .slice a q cap, .int .i64 t, .int .i64 c] 53)).alloc (.cells Z 48)) b v (.slice uA uk uc) m m) := Lib.hid ⟨hP.below hB, hu.below hB, (But.refl _ _ _).below hB (Nat.le_refl _)⟩
  have b0 : Blk (((w.alloc (.cells C 48)).alloc (.cells #[.int .i64 3, .slice a q cap, .int .i64 t, .int .i64 c] 53)).alloc (.cells Z 48)) w.heap.size C 48 := ((Blk.new' rfl).alloc _).alloc _
  have b1 : Blk (((w.alloc (.cells C 48)).alloc (.cells #[.int .i64 3, .slice a q cap, .int .i64 t, .int .i64 c] 53)).alloc (.cells Z 48)) (w.heap.size + 1) #[.int .i64 3, .slice a q cap, .int .i64 t, .int .i64 c] 53 := (Blk.new' (by simp)).alloc _
  have b2 : Blk (((w.alloc (.cells C 48)).alloc (.cells #[.int .i64 3, .slice a q cap, .int .i64 t, .int .i64 c] 53)).alloc (.cells Z 48)) (w.heap.size + 1 + 1) Z 48 := Blk.new' (by simp)
  have hbw := hP.1.lt
  have HBY := Lib.hid hb
  have H0 := Lib.hid h0
  have HL := Lib.hid hl
  have HQ := Lib.hid hq
  have HAP := Lib.hid hap
  have HM := Lib.hid hm
  have HC := Lib.hid hC
  have HP0 := Lib.hid hP
  have HU0 := Lib.hid hu
  have HB := Lib.hid hB
  rw [← hC]
  clear hZ hC hP hu hb h0 hl hap hm hq
  obtain ⟨vA, vk, vc, rfl⟩ := own_form HP0.out.2
  have d0 : (((w.alloc (.cells C 48)).alloc (.cells #[.int .i64 3, .slice a q cap, .int .i64 t, .int .i64 c] 53)).alloc (.cells Z 48)).cell? ⟨w.heap.size + 1, 0, none⟩ = some (.int .i64 3) := b1.cell 0; have d1 : (((w.alloc (.cells C 48)).alloc (.cells #[.int .i64 3, .slice a q cap, .int .i64 t, .int .i64 c] 53)).alloc (.cells Z 48)).cell? ⟨w.heap.size + 1, 1, none⟩ = some (.slice a q cap) := b1.cell 1; have d2 : (((w.alloc (.cells C 48)).alloc (.cells #[.int .i64 3, .slice a q cap, .int .i64 t, .int .i64 c] 53)).alloc (.cells Z 48)).cell? ⟨w.heap.size + 1, 2, none⟩ = some (.int .i64 t) := b1.cell 2; have d3 : (((w.alloc (.cells C 48)).alloc (.cells #[.int .i64 3, .slice a q cap, .int .i64 t, .int .i64 c] 53)).alloc (.cells Z 48)).cell? ⟨w.heap.size + 1, 3, none⟩ = some (.int .i64 c) := b1.cell 3
  obtain ⟨W0, hW0⟩ : ∃ W0, W0 = (((w.alloc (.cells C 48)).alloc (.cells #[.int .i64 3, .slice a q cap, .int .i64 t, .int .i64 c] 53)).alloc (.cells Z 48)) := ⟨_, rfl⟩
  have hsz : W0.heap.size = w.heap.size + 1 + 1 + 1 := by rw [hW0]; simp
  have hl0 : m.lim ≠ 0 := by have := HM.out.l1; omega
  have hdr := drop_ok b _ m _ HD0.out.p hl0 hst
  have hx : ((m.st : Int) == 0) = false := by simp; exact hst
  have hbd := build48 m.lim m.now m.sent
  obtain ⟨m1, hm1⟩ : ∃ m1, m1 = idleR m := ⟨_, rfl⟩
  have hok : OkH m1 := by
    have := okH_do HM.out 3 0 0 [] (by simp)
    unfold doS at this
    rw [if_neg (by decide), if_neg (by decide), if_neg (by decide), if_pos rfl, if_neg hst] at this
    rw [hm1]; exact this
  have hdf : dropF m = m1 := by rw [hm1]; rfl
  rw [hdf] at hdr
  obtain ⟨R, hR⟩ : ∃ R, R = cellsR (.slice none 0 0) m1 := ⟨_, rfl⟩
  have hR' : cellsR (.slice none 0 0) ⟨m.lim, 0, [], 0, m.now, m.sent⟩ = R := by rw [hR, hm1]; rfl
  rw [hR'] at hbd
  rw [← hm1]
  have hRs := Lib.hid (show R.size = 6 by rw [hR]; rfl)
  have hR1 := Lib.hid (show R.all (·.oneCell') = true by rw [hR]; exact cellsR_one _ rfl)
  have HR := Lib.hid hR
  rw [← hW0] at hdr HD0 b0 b1 b2 HB
  have HW0 := Lib.hid hW0
  have HOK := Lib.hid hok
  have HM1 := Lib.hid hm1
  replace hdr := Lib.hid hdr
  have C0 := Lib.hid (show C[0]? = some (.int .i64 m.lim) by rw [HC.out]; rfl)
  have C1 := Lib.hid (show C[1]? = some (.int .i64 m.st) by rw [HC.out]; rfl)
  have C2 := Lib.hid (show C[2]? = some (.slice uA uk uc) by rw [HC.out]; rfl)
  have C4 := Lib.hid (show C[4]? = some (.int .i64 m.now) by rw [HC.out]; rfl)
  have C5 := Lib.hid (show C[5]? = some (.int .i64 m.sent) by rw [HC.out]; rfl)
  have HB0 := Lib.hid b0
  have HB2 := Lib.hid b2
  replace hst := Lib.hid hst
  clear hW0 hm1 hok hB b0 b1 b2 hdf hR hR'
  go_enter Try.func19, Try.ntmps19
  go_wp2_with (first
    | (go_at_call 22; rw [← HW0.out]; (with_reducible refine hdr.out.mono ?_); rintro e w1 ⟨rfl, hp1, hk1, hbv⟩; have HP1 := Lib.hid hp1; have HK1 := Lib.hid hk1; have r1 : RP w1 (.slice uA uk uc) m := own_but HD0.out.r hk1.1 (own_ne_blk HD0.out.r HD0.out.p.1 (by decide)); have a0 := HB0.out.but hk1.1 HB0.out.lt (by omega); have a2 := HB2.out.but hk1.1 HB2.out.lt (by omega); have x0 := (a0.cell 0).trans C0.out; have x1 := (a0.cell 1).trans C1.out; have x4 := (a0.cell 4).trans C4.out; have x5 := (a0.cell 5).trans C5.out; have R1 := Lib.hid r1; have A0 := Lib.hid a0; have A2 := Lib.hid a2; have HBV := Lib.hid hbv; have hsz1 := hk1.1.size; have kz : Blk (w1.alloc (.cells Z 48)) w1.heap.size Z 48 := Blk.new' rfl
       clear hp1 hk1 r1 a2 a0 hbv)
    | ((with_reducible refine wpList_store_blk rfl 48 _ _ rfl w1.heap.size 0 6 R rfl rfl kz row48 hRs.out (by rw [hZs.out]; exact Nat.le_refl 6) hR1.out ?_); intro w3 hb3 ho3; rw [splice_full _ _ (by rw [hZs.out, hRs.out])] at hb3))
  have kg := (A2.out.alloc (.cells Z 48)).only ho3 (by have := A2.out.lt; omega)
  have k0 := (A0.out.alloc (.cells Z 48)).only ho3 (by have := A0.out.lt; omega)
  have hB13 : Below w1.heap.size w1 w3 := below_only (alloc_below w1 (.cells Z 48)) ho3 (Nat.le_refl _)
  have DI : RowKit.Hid (DoI w w3 b (.slice none 0 0) (.slice none 0 0) m1 m1) := Lib.hid ⟨HP1.out.below hB13, by rw [HM1.out]; exact World.ownsRow_nil _ _ _ _, (HD0.out.k.trans ⟨HK1.out.1.os, HK1.out.1.tape, HK1.out.1.output, HK1.out.1.size, fun i hi hn => HK1.out.1.block i (by omega) hn⟩).below hB13 (by omega)⟩
  have HVB : RowKit.Hid (Bsl w3.drew (.slice vA vk vc) m.blk ∧ Bsl w3.drew (.slice uA uk uc) m.blk) := Lib.hid ⟨HBV.out.below (hB13.drew), (bsl_own R1.out).below hB13.drew⟩
  have hlm := HM.out.blk
  have hsm := fun W h1 h2 => bsame_any m.blk m.blk (.slice vA vk vc) (.slice uA uk uc) W h1 h2 (by omega)
  rw [decide_eq_true rfl] at hsm
  replace hsm := Lib.hid hsm
  have hne : w.heap.size + 1 + 1 ≠ w1.heap.size := by omega
  have hgg0 : w.heap.size ≠ w.heap.size + 1 + 1 := by omega
  have kr := hb3
  clear hb3 ho3 kz hdr d0 d1 d2 d3 x0 x1 x4 x5 hbd hB13 hlm
  generalize w1.heap.size = gr at *
  obtain ⟨g0, hg0⟩ : ∃ g0, g0 = w.heap.size := ⟨_, rfl⟩
  have hg02 := hg0
  rw [← hg0] at k0
  obtain ⟨gg, hgg⟩ : ∃ gg, gg = w.heap.size + 1 + 1 := ⟨_, rfl⟩
  have hgrg : gg ≠ gr := by rw [hgg]; exact hne
  have hg0n : g0 ≠ gg := by rw [hgg, hg0]; exact hgg0
  rw [← hgg] at kg ⊢
  rw [← hg02]
  clear hg02 hgg0
  replace hg0 := Lib.hid hg0
  replace hgg := Lib.hid hgg
  have HAG := Lib.hid (fun WW h => agrees_any b (.slice none 0 0) (.slice none 0 0) (m1) HOK.out WW h)
  rw [← HR.out] at HAG
  have DD : RowKit.Hid (DoI w w3.drew b (.slice none 0 0) (.slice none 0 0) (m1) (m1)) := Lib.hid DI.out.drew
  have s0 : Blk w3.drew gr R 48 ∧ Blk w3.drew g0 C 48 := ⟨kr.drew, k0.drew⟩
  have t8 : Blk w3.drew gg Z 48 := kg.drew
  clear kg hne
  refine wp_region_held_drew (S := fun W' => Blk W' gr R 48 ∧ Blk W' g0 C 48) (by kernel_rfl) s0 (fun hHeld => ?_)
  generalize w3.drew = W7 at *
  refine wpAnyH_takeD 0 (some 176) (v := (.agg (R))) rfl rfl (by kernel_rfl) (by kernel_rfl) (by kernel_rfl) (fun _ _ _ h => h) (yieldsIf_load_blk rfl 48 _ rfl (gr) 6 (R) 48 rfl (fun _ h => h.1) row48 (hRs.out)) (by assumption) ?_; try simp only [Act.put, List.setIfInBounds_toArray, List.set_cons_zero, List.set_cons_succ, Array.toArray_toList]
  refine wpAnyH_takeD 1 (some 177) (v := (.int .i64 0)) rfl rfl (by kernel_rfl) (by kernel_rfl) (by kernel_rfl) (fun _ _ _ h => h) (yieldsIf_calc rfl (fun w => by unfold execOp; go_simp)) (by assumption) ?_; try simp only [Act.put, List.setIfInBounds_toArray, List.set_cons_zero, List.set_cons_succ, Array.toArray_toList]
  refine wpAnyH_takeD 2 (some 178) (v := (.bool true)) rfl rfl (by kernel_rfl) (by kernel_rfl) (by kernel_rfl) (fun _ _ _ h => h) (yieldsIf_calc rfl (fun w => by unfold execOp; go_simp)) (by assumption) ?_; try simp only [Act.put, List.setIfInBounds_toArray, List.set_cons_zero, List.set_cons_succ, Array.toArray_toList]
  refine wpAnyH_takeD 3 (some 179) (v := (.bool true)) rfl rfl (by kernel_rfl) (by kernel_rfl) (by kernel_rfl) (fun _ _ _ h => h) (yieldsIf_calc rfl (fun w => by unfold execOp; go_simp)) (by assumption) ?_; try simp only [Act.put, List.setIfInBounds_toArray, List.set_cons_zero, List.set_cons_succ, Array.toArray_toList]
  refine wpAnyH_takeD 4 (some 180) (v := (.slice vA vk vc)) rfl rfl (by kernel_rfl) (by kernel_rfl) (by kernel_rfl) (fun _ _ _ h => h) (yieldsIf_calc rfl (fun w => by unfold execOp; go_simp)) (by assumption) ?_; try simp only [Act.put, List.setIfInBounds_toArray, List.set_cons_zero, List.set_cons_succ, Array.toArray_toList]
  refine wpAnyH_takeD 5 (some 181) (v := (.pointer (some ⟨g0, 2, none⟩))) rfl rfl (by kernel_rfl) (by kernel_rfl) (by kernel_rfl) (fun _ _ _ h => h) (yieldsIf_calc rfl (fun w => by unfold execOp; go_simp)) (by assumption) ?_; try simp only [Act.put, List.setIfInBounds_toArray, List.set_cons_zero, List.set_cons_succ, Array.toArray_toList]
  refine wpAnyH_takeD 6 (some 182) (v := (.slice uA uk uc)) rfl rfl (by kernel_rfl) (by kernel_rfl) (by kernel_rfl) (fun _ _ _ h => h) (.inl ⟨rfl, fun wS hSw => by have y2 := (hSw.2.cell 2).trans C2.out; unfold execOp; go_simp⟩) (by assumption) ?_; try simp only [Act.put, List.setIfInBounds_toArray, List.set_cons_zero, List.set_cons_succ, Array.toArray_toList]
  refine wpAnyH_one 7 rfl (by kernel_rfl) (fun K' hK' => ?_)
  go_simp
  (go_at_call 13; (with_reducible refine (hsm.out _ HVB.out.1 HVB.out.2).mono ?_); rintro e w8 ⟨rfl, hw8⟩; have s8 : Blk w8 gr R 48 ∧ Blk w8 g0 C 48 := ⟨s0.1.below hw8 s0.1.lt, s0.2.below hw8 s0.2.lt⟩; replace DD := Lib.hid (DD.out.below hw8); replace t8 := t8.below hw8 t8.lt; clear s0; have s0 := s8)
  go_wp2
  refine hK'.out _ _ (s0) ?_; clear hK' K'; try simp only [Act.put, List.setIfInBounds_toArray, List.set_cons_zero, List.set_cons_succ, Array.toArray_toList]
  refine wpAnyH_takeD 8 (some 184) (v := (.bool true)) rfl rfl (by kernel_rfl) (by kernel_rfl) (by kernel_rfl) (fun _ _ _ h => h) (yieldsIf_calc rfl (fun w => by unfold execOp; go_simp)) (by assumption) ?_; try simp only [Act.put, List.setIfInBounds_toArray, List.set_cons_zero, List.set_cons_succ, Array.toArray_toList]
  refine wpAnyH_takeD 9 (some 185) (v := (.bool true)) rfl rfl (by kernel_rfl) (by kernel_rfl) (by kernel_rfl) (fun _ _ _ h => h) (yieldsIf_calc rfl (fun w => by unfold execOp; go_simp)) (by assumption) ?_; try simp only [Act.put, List.setIfInBounds_toArray, List.set_cons_zero, List.set_cons_succ, Array.toArray_toList]
  refine wpAnyH_takeD 10 (some 186) (v := (.pointer (some ⟨b, 0, none⟩))) rfl rfl (by kernel_rfl) (by kernel_rfl) (by kernel_rfl) (fun _ _ _ h => h) (yieldsIf_calc rfl (fun w => by unfold execOp; go_simp)) (by assumption) ?_; try simp only [Act.put, List.setIfInBounds_toArray, List.set_cons_zero, List.set_cons_succ, Array.toArray_toList]
  refine wpAnyH_takeD 11 (some 187) (v := (.agg (R))) rfl rfl (by kernel_rfl) (by kernel_rfl) (by kernel_rfl) (fun _ _ _ h => h) (yieldsIf_load_blk rfl 48 _ rfl (gr) 6 (R) 48 rfl (fun _ h => h.1) row48 (hRs.out)) (by assumption) ?_; try simp only [Act.put, List.setIfInBounds_toArray, List.set_cons_zero, List.set_cons_succ, Array.toArray_toList]
  refine wpAnyH_one 12 rfl (by kernel_rfl) (fun K' hK' => ?_)
  go_simp
  (go_at_call 18; (with_reducible refine (HAG.out _ DD.out.p.1).mono ?_); rintro e w9 ⟨rfl, hw9⟩; have s9 := (show Blk w9 gr R 48 ∧ Blk w9 g0 C 48 from ⟨s0.1.below hw9 s0.1.lt, s0.2.below hw9 s0.2.lt⟩); replace DD := Lib.hid (DD.out.below hw9); have t9 := t8.below hw9 t8.lt)
  go_wp2
  refine hK'.out _ _ (s9) ?_; clear hK' K'; try simp only [Act.put, List.setIfInBounds_toArray, List.set_cons_zero, List.set_cons_succ, Array.toArray_toList]
  refine wpAnyH_takeD 13 (some 189) (v := (.bool true)) rfl rfl (by kernel_rfl) (by kernel_rfl) (by kernel_rfl) (fun _ _ _ h => h) (yieldsIf_calc rfl (fun w => by unfold execOp; go_simp)) (by assumption) ?_; try simp only [Act.put, List.setIfInBounds_toArray, List.set_cons_zero, List.set_cons_succ, Array.toArray_toList]
  refine wpAnyH_one 14 rfl (by kernel_rfl) (fun K' hK' => ?_)
  refine ite_go rfl ?_
  refine wp_store_blk none rfl 48 _ _ rfl gg 0 6 R rfl rfl t9 row48 hRs.out (by rw [hZs.out]; exact Nat.le_refl 6) hR1.out ?_
  intro w10 hb10 ho10; rw [splice_full _ _ (by rw [hZs.out, hRs.out])] at hb10
  have s10 := (show Blk w10 gr R 48 ∧ Blk w10 g0 C 48 from ⟨s9.1.only ho10 (Ne.symm hgrg), s9.2.only ho10 hg0n⟩)
  refine hK'.out _ _ (s10) ?_; clear hK' K'; try simp only [Act.put, List.setIfInBounds_toArray, List.set_cons_zero, List.set_cons_succ, Array.toArray_toList]
  refine wpAnyH_takeD 15 (some 7) (v := (.bool true)) rfl rfl (by kernel_rfl) (by kernel_rfl) (by kernel_rfl) (fun _ _ _ h => h) (yieldsIf_calc rfl (fun w => by unfold execOp; go_simp)) (by assumption) ?_; try simp only [Act.put, List.setIfInBounds_toArray, List.set_cons_zero, List.set_cons_succ, Array.toArray_toList]
  refine wpAnyH_done (by kernel_rfl) ?_ _
  go_wp2
  refine bodyPost_ret (results_blk_tmp rfl _ _ gg R 48 6 _ rfl rfl hb10 row48 hRs.out) rfl ?_
  exact ⟨_, _, by rw [HR.out]; rfl, DD.out.store ho10 t9 (by decide) (by have := hgg.out; omega) hbw⟩
end Go.Proofs.Ythbpmofabcilhaa
