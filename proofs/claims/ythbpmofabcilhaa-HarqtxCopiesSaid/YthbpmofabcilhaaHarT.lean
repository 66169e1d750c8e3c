/-
  The reference's process, walks: Load.
-/
import Derived.Test.YthbpmofabcilhaaHarS
set_option linter.unusedSimpArgs false
set_option linter.unusedVariables false
namespace Go.Proofs.Ythbpmofabcilhaa
open Go.RowKit
attribute [-go_sem] Instr.build

theorem okb_at {l : List UInt8} (h : okb l = true) (i : Nat) (hi : i < l.length) : (gd l i).toNat ≤ 1 := by
  unfold okb at h
  rw [List.all_eq_true] at h
  have := h (gd l i) (by unfold gd; rw [List.getD_eq_getElem?_getD, List.getElem?_eq_getElem hi]; exact List.getElem_mem _)
  have := of_decide_eq_true this
  rw [UInt8.le_iff_toNat_le] at this
  exact this
theorem okb_all {l : List UInt8} (h : ∀ i, i < l.length → (gd l i).toNat ≤ 1) : okb l = true := by
  unfold okb
  rw [List.all_eq_true]
  intro x hx
  obtain ⟨i, hi, rfl⟩ := List.getElem_of_mem hx
  have := h i hi
  unfold gd at this
  rw [List.getD_eq_getElem?_getD, List.getElem?_eq_getElem hi] at this
  exact decide_eq_true (UInt8.le_iff_toNat_le.2 this)
set_option maxHeartbeats 1000000 in
theorem rload_any (u : Value) (m : Hq) (l : List UInt8) (a : Option Addr) (cap : Nat) (w : World) (hu : RP w u m) (hb : Byt w a l) (h0 : a = none → cap = 0) (hl : l.length ≤ 1000) :
    Calls Try.prog 34 #[.agg (cellsR u m), .slice a l.length cap] w fun e w' => ∃ u', e = .returned (.tuple #[.agg (cellsR u' (loadS m l)), .int .i64 (loadE m l)]) ∧ RP w' u' (loadS m l) ∧ (u' = u ∨ ∀ g, u'.ownBlock = some g → w.heap.size ≤ g) ∧ Below w.heap.size w w' := by
  obtain ⟨i0, hi, hz0, hz1, hz2⟩ := info_parts info5
  obtain ⟨Z, hZ⟩ : ∃ Z, Z = cellsR (.slice none 0 0) ⟨0, 0, [], 0, 0, 0⟩ := ⟨_, rfl⟩
  obtain ⟨C, hC⟩ : ∃ C, C = cellsR u m := ⟨_, rfl⟩
  have z1 := zero48'
  rw [← hZ] at z1
  have hu1 := (own_slice hu).2
  have hZs := Lib.hid (show Z.size = 6 by rw [hZ]; rfl)
  have hCs := Lib.hid (show C.size = 6 by rw [hC]; rfl)
  have hCw := Lib.hid (show C.extract 0 (0 + 6) = C by rw [hC]; rfl)
  have hC1 := Lib.hid (show C.all (·.oneCell') = true by rw [hC]; exact cellsR_one _ hu1)
  have hB : Below w.heap.size w ((w.alloc (.cells C 48)).alloc (.cells Z 48)) := below_new (below_new (Below.refl w.heap.size w) _) _
  have b0 : Blk ((w.alloc (.cells C 48)).alloc (.cells Z 48)) w.heap.size C 48 := (Blk.new' rfl).alloc _
  have b1 : Blk ((w.alloc (.cells C 48)).alloc (.cells Z 48)) (w.heap.size + 1) Z 48 := Blk.new' (by simp)
  have c1 : ((w.alloc (.cells C 48)).alloc (.cells Z 48)).cell? ⟨w.heap.size, 1, none⟩ = some (.int .i64 m.st) := by rw [b0.cell, hC]; rfl
  have HBY := Lib.hid hb
  have H0 := Lib.hid h0
  have HU := Lib.hid hu
  have HC := Lib.hid hC
  rw [← hC]
  clear hZ hC hb h0 hu hu1
  by_cases k1 : l.length = 0
  · have e1 : loadE m l = 2 := by unfold loadE; rw [if_pos (.inl k1)]
    have e2 : loadS m l = m := by unfold loadS; rw [e1]; rfl
    rw [e1, e2]
    have x1 : (l.length : Int) < 1 := by omega
    replace k1 := Lib.hid k1
    clear e1 e2
    generalize l.length = q at *
    go_enter Try.func34, Try.ntmps34
    go_wp2_with (first
      | (with_reducible refine wpList_load_blk rfl 48 _ rfl w.heap.size 0 6 rfl b0 row48 (by rw [hCs.out]; exact Nat.le_refl 6) C hCw.out ?_)
      | ((with_reducible refine wpList_store_blk rfl 48 _ _ rfl (w.heap.size + 1) 0 6 C rfl rfl b1 row48 hCs.out (by rw [hZs.out]; exact Nat.le_refl 6) hC1.out ?_); intro w5 hb5 ho5; rw [splice_full _ _ (by rw [hZs.out, hCs.out])] at hb5))
    refine bodyPost_ret (results_blk_tmp rfl _ _ (w.heap.size + 1) C 48 6 _ rfl rfl hb5 row48 hCs.out) rfl ?_
    have hB5 := below_only hB ho5 (by omega)
    exact ⟨u, by rw [HC.out]; rfl, HU.out.below hB5, .inl rfl, hB5⟩
  · have x1 : ¬ ((l.length : Int) < 1) := by omega
    have x2 : ¬ ((131072 : Int) < (l.length : Int)) := by omega
    obtain ⟨b, o, rfl, hbl, hc⟩ := HBY.out (by omega)
    have hcB : ∀ i, i < l.length → ((w.alloc (.cells C 48)).alloc (.cells Z 48)).cell? ⟨b, o + i, none⟩ = some (.int .u8 (gd l i).toNat) := fun i hi => (hB.cell (p := ⟨b, o + i, none⟩) hbl).trans (hc i hi)
    replace hcB := Lib.hid hcB
    have hE : loadE m l = if okb l = false then 3 else if m.st ≠ 0 then 8 else 0 := by unfold loadE; rw [if_neg (by omega)]
    have hS : loadE m l ≠ 0 → loadS m l = m := fun h => by unfold loadS; rw [if_neg h]
    obtain ⟨q, hq⟩ : ∃ q, q = l.length := ⟨_, rfl⟩
    rw [← hq] at x1 x2 hl hcB ⊢
    replace hq := Lib.hid hq
    replace hE := Lib.hid hE
    replace hS := Lib.hid hS
    clear hc k1
    go_enter Try.func34, Try.ntmps34
    go_wp2
    go_loopw [6] (fun t wr => ∃ k : Nat, k ≤ q ∧ t = .int .i64 k ∧ (∀ i, i < k → (gd l i).toNat ≤ 1) ∧ wr = ((w.alloc (.cells C 48)).alloc (.cells Z 48))) (fun t _ => q - (intOf t).toNat)
    case atStart => exact ⟨0, by omega, rfl, fun i hi => absurd hi (by omega), rfl⟩
    case round =>
      obtain ⟨k, hk, rfl, hp, hwr⟩ := hrel
      subst hwr
      by_cases hlt : k < q
      · have ck := hcB.out k hlt
        have hnx : (gd l k).toNat ≤ 1 → ∀ i, i < k + 1 → (gd l i).toNat ≤ 1 := fun h i hi => by
          rcases Nat.lt_succ_iff_lt_or_eq.1 hi with h' | rfl
          · exact hp i h'
          · exact h
        have hbad : 1 < (gd l k).toNat → okb l = false := fun h => by
          cases ho : okb l with
          | false => rfl
          | true => have := okb_at ho k (by rw [← hq.out]; exact hlt); omega
        replace hnx := Lib.hid hnx
        replace hbad := Lib.hid hbad
        clear hp
        generalize (gd l k).toNat = y at *
        by_cases hy : 1 < y
        · have hyI : (1 : Int) < (y : Int) := by omega
          have e1 : loadE m l = 3 := by rw [hE.out, if_pos (hbad.out hy)]
          have e2 := hS.out (by rw [e1]; decide)
          replace e1 := Lib.hid e1
          replace e2 := Lib.hid e2
          go_wp2_with (first
            | (with_reducible refine wpList_load_blk rfl 48 _ rfl w.heap.size 0 6 rfl b0 row48 (by rw [hCs.out]; exact Nat.le_refl 6) C hCw.out ?_)
            | ((with_reducible refine wpList_store_blk rfl 48 _ _ rfl (w.heap.size + 1) 0 6 C rfl rfl b1 row48 hCs.out (by rw [hZs.out]; exact Nat.le_refl 6) hC1.out ?_); intro w5 hb5 ho5; rw [splice_full _ _ (by rw [hZs.out, hCs.out])] at hb5))
          refine bodyPost_ret (results_blk_tmp rfl _ _ (w.heap.size + 1) C 48 6 _ rfl rfl hb5 row48 hCs.out) rfl ?_
          have hB5 := below_only hB ho5 (by omega)
          rw [e1.out, e2.out]
          exact ⟨u, by rw [HC.out]; rfl, HU.out.below hB5, .inl rfl, hB5⟩
        · have hyI : ¬ ((1 : Int) < (y : Int)) := by omega
          replace hnx := Lib.hid (hnx.out (by omega))
          go_wp2
          exact ⟨⟨k + 1, by omega, by go_num, hnx.out, trivial⟩, by simp [intOf]; omega⟩
      · obtain rfl : q = k := by omega
        have hok := okb_all (l := l) (by rw [← hq.out]; exact hp)
        clear hp hlt hk
        by_cases hst : m.st = 0
        · have e1 : loadE m l = 0 := by rw [hE.out, if_neg (by rw [hok]; decide), if_neg (by omega)]
          have e2 : loadS m l = { m with st := 1, blk := l, num := 0 } := by unfold loadS; rw [if_pos e1]
          replace e1 := Lib.hid e1
          replace e2 := Lib.hid e2
          have hx : ((m.st : Int) != 0) = false := by rw [hst]; rfl
          obtain ⟨m1, hm1⟩ : ∃ m1 : Hq, m1 = { m with st := 1, blk := l, num := 0 } := ⟨_, rfl⟩
          have HM1 := Lib.hid hm1
          clear hm1
          replace hst := Lib.hid hst
          clear hok
          have f1 := b0.frozen 1
          go_wp2_with (first
            | (at_builtin; (refine wpList_append_bytes rfl _ _ 22 rfl w.heap.size 5 i0 Try.underlying22 hi hz0 hz1 hz2 _ [] rfl (World.ownsRow_nil _ _ _ _) (some ⟨b, o, none⟩) l cap ?_ (fun h => nomatch h) (HBY.out.cells hB) ?_ ?_ ?_); (rw [← hq.out]; rfl); (have := hq.out; simp; omega); (exact hB.size); intro v' w1 hown hg; obtain ⟨uA, uk, uc, rfl⟩ := own_form hown; have hBg : Below w.heap.size w w1 := hB.grown hg hB.size (fun k hk => nomatch hk); have k0 := b0.grown hg (fun h => nomatch h); have k1 := b1.grown hg (fun h => nomatch h); have d1 : w1.cell? ⟨w.heap.size, 1, none⟩ = some (.int .i64 m.st) := by rw [k0.cell, HC.out]; rfl
               have d2 : w1.cell? ⟨w.heap.size, 2, none⟩ = some u := by rw [k0.cell, HC.out]; rfl
               have d3 : w1.cell? ⟨w.heap.size, 3, none⟩ = some (.int .i64 m.num) := by rw [k0.cell, HC.out]; rfl
               have g1 := k0.frozen 1; have g2 := k0.frozen 2; have g3 := k0.frozen 3
               have HOW := Lib.hid hown; 
               have HKR := Lib.hid (show Blk (((w1.setCell ⟨w.heap.size, 1, none⟩ (.int .i64 1)).setCell ⟨w.heap.size, 2, none⟩ (.slice uA uk uc)).setCell ⟨w.heap.size, 3, none⟩ (.int .i64 0)) w.heap.size (cellsR (.slice uA uk uc) m1) 48 from by
                 have := ((k0.set 1 (.int .i64 1)).set 2 (.slice uA uk uc)).set 3 (.int .i64 0)
                 rw [HC.out] at this
                 rw [HM1.out]; exact this)
               have HK1 := Lib.hid (show Blk (((w1.setCell ⟨w.heap.size, 1, none⟩ (.int .i64 1)).setCell ⟨w.heap.size, 2, none⟩ (.slice uA uk uc)).setCell ⟨w.heap.size, 3, none⟩ (.int .i64 0)) (w.heap.size + 1) Z 48 from ((k1.set_other (by simp) _).set_other (by simp) _).set_other (by simp) _)
               have hR1 := Lib.hid (cellsR_one (u := .slice uA uk uc) m1 rfl); have hRz := Lib.hid (cellsR_size (.slice uA uk uc) m1); have hRw := Lib.hid (show (cellsR (.slice uA uk uc) m1).extract 0 (0 + 6) = cellsR (.slice uA uk uc) m1 from rfl)
               have HK0 := Lib.hid k0; have HK1z := Lib.hid k1; clear hown k0 k1 hg)
            | (with_reducible refine wpList_load_blk rfl 48 _ rfl w.heap.size 0 6 rfl HKR.out row48 (by rw [hRz.out]; exact Nat.le_refl 6) _ hRw.out ?_)
            | ((with_reducible refine wpList_store_blk rfl 48 _ _ rfl (w.heap.size + 1) 0 6 (cellsR (.slice uA uk uc) m1) rfl rfl HK1.out row48 hRz.out (by rw [hZs.out]; exact Nat.le_refl 6) hR1.out ?_); intro w5 hb5 ho5; rw [splice_full _ _ (by rw [hZs.out, hRz.out])] at hb5))
          refine bodyPost_ret (results_blk_tmp rfl _ _ (w.heap.size + 1) (cellsR (.slice uA uk uc) m1) 48 6 _ rfl rfl hb5 row48 rfl) rfl ?_
          have hB4 := ((hBg.setCell (p := ⟨w.heap.size, 1, none⟩) (Nat.le_refl _) (.int .i64 1)).setCell (p := ⟨w.heap.size, 2, none⟩) (Nat.le_refl _) (.slice uA uk uc)).setCell (p := ⟨w.heap.size, 3, none⟩) (Nat.le_refl _) (.int .i64 0)
          have hB5 := below_only hB4 ho5 (by omega)
          rw [e1.out, e2.out, ← HM1.out]
          have ho := own_only (own_only (own_only (own_only HOW.out (Only.setCell w1 1 (.int .i64 1)) (own_ne_blk HOW.out HK0.out (by decide))) (Only.setCell _ 2 (.slice uA uk uc)) (own_ne_blk HOW.out HK0.out (by decide))) (Only.setCell _ 3 (.int .i64 0)) (own_ne_blk HOW.out HK0.out (by decide))) ho5 (fun g hg => by have := own_ne_blk HOW.out HK1z.out (by decide) g hg; omega)
          refine ⟨_, rfl, ?_, .inr (fun g hg => (HOW.out.lt g hg).1), hB5⟩
          unfold RP
          rw [HM1.out]
          exact own_base (by simpa using ho) (Nat.zero_le _)
        · have e1 : loadE m l = 8 := by rw [hE.out, if_neg (by rw [hok]; decide), if_pos hst]
          have e2 := hS.out (by rw [e1]; decide)
          replace e1 := Lib.hid e1
          replace e2 := Lib.hid e2
          have hx : ((m.st : Int) != 0) = true := by simp; omega
          replace hst := Lib.hid hst
          clear hok
          go_wp2_with (first
            | (with_reducible refine wpList_load_blk rfl 48 _ rfl w.heap.size 0 6 rfl b0 row48 (by rw [hCs.out]; exact Nat.le_refl 6) C hCw.out ?_)
            | ((with_reducible refine wpList_store_blk rfl 48 _ _ rfl (w.heap.size + 1) 0 6 C rfl rfl b1 row48 hCs.out (by rw [hZs.out]; exact Nat.le_refl 6) hC1.out ?_); intro w5 hb5 ho5; rw [splice_full _ _ (by rw [hZs.out, hCs.out])] at hb5))
          refine bodyPost_ret (results_blk_tmp rfl _ _ (w.heap.size + 1) C 48 6 _ rfl rfl hb5 row48 hCs.out) rfl ?_
          have hB5 := below_only hB ho5 (by omega)
          rw [e1.out, e2.out]
          exact ⟨u, by rw [HC.out]; rfl, HU.out.below hB5, .inl rfl, hB5⟩
end Go.Proofs.Ythbpmofabcilhaa
