/-
  The trellis, walks: Previous.
-/
import Derived.Test.YtkcccoialmineaaTreG
import Derived.Test.YtkcccoialmineaaOwn
namespace Go.Proofs.Ytkcccoialmineaa
open Go.RowKit
attribute [-go_sem] Instr.build

/-- The branches among the first k that lead to s. -/
def sel (s k : Nat) : List Nat := (List.range k).filter (fun i => nx (i / 2) (i % 2) == s)
theorem sel_succ (s k : Nat) : sel s (k + 1) = sel s k ++ (if nx (k / 2) (k % 2) == s then [k] else []) := by
  unfold sel
  rw [List.range_succ, List.filter_append]
  congr 1
  simp [List.filter_cons]
theorem sel_two : ∀ s : Fin 8, (sel s.val 16).length = 2 := by decide +kernel
theorem flat_len : ∀ (l : List Nat), (l.flatMap brn).length = l.length * 4
  | [] => rfl
  | a :: l => by rw [List.flatMap_cons, List.length_append, flat_len l, List.length_cons]; simp [brn]; omega
theorem tab_get (k : Nat) (hk : k < 16) : (tabV 16).extract (k * 4) (k * 4 + 4) = (brn k).toArray :=
  lt16 (p := fun k => (tabV 16).extract (k * 4) (k * 4 + 4) = (brn k).toArray) ⟨by kernel_rfl, by kernel_rfl, by kernel_rfl, by kernel_rfl, by kernel_rfl, by kernel_rfl, by kernel_rfl, by kernel_rfl, by kernel_rfl, by kernel_rfl, by kernel_rfl, by kernel_rfl, by kernel_rfl, by kernel_rfl, by kernel_rfl, by kernel_rfl⟩ k hk
theorem info50 : (Try.prog.info? 50).map (fun i => (i.zero, i.size, i.bytes)) = some (some (.agg #[.int .i64 0, .int .i64 0, .int .i64 0, .int .i64 0]), 4, 32) := by kernel_rfl

theorem prev1_any (a b p n s : Int) (c : Nat) (w : World) (hc : w.cell? ⟨c, 0, none⟩ = some (.int .i64 s)) (hlt : c < w.heap.size) :
    Calls Try.prog 40 #[.agg #[.int .i64 a, .int .i64 b, .int .i64 p, .int .i64 n], .pointer (some ⟨c, 0, none⟩)] w fun e w' => e = .returned (.bool (n == s)) ∧ Below w.heap.size w w' := by
  go_enter Try.func40, Try.ntmps40
  have hc2 := (World.cell?_alloc_past (w := w) (.cells #[.int .i64 a, .int .i64 b, .int .i64 p, .int .i64 n] 50) c 0 hlt).trans hc
  go_wp2
  go_ret
  exact ⟨rfl, (Below.refl _ _).alloc (Nat.le_refl _) _⟩

theorem rows4 {w : World} {a b p n : Int} (t : TypeId) : ∀ j u, [Value.int .i64 a, .int .i64 b, .int .i64 p, .int .i64 n][j]? = some u → (w.alloc (.cells #[.int .i64 a, .int .i64 b, .int .i64 p, .int .i64 n] t)).cell? ((⟨w.heap.size, 0, none⟩ : Addr).add j) = some u := by
  intro j u hj
  rw [Go.WideShapes.add_plain, (Blk.new w _ t).cell]
  simpa using hj
theorem all4 (a b p n : Int) : #[Value.int .i64 a, .int .i64 b, .int .i64 p, .int .i64 n].all (·.oneCell') = true := by
  rw [Array.all_eq_true_iff_forall_mem]
  intro v hv
  simp only [List.mem_toArray, List.mem_cons, List.not_mem_nil, or_false] at hv
  rcases hv with rfl | rfl | rfl | rfl <;> rfl
theorem only_cell {w w' : World} {b c o : Nat} (h : Only b w w') (hne : c ≠ b) : w'.cell? ⟨c, o, none⟩ = w.cell? ⟨c, o, none⟩ := World.cell?_of_block (a := ⟨c, o, none⟩) (h.block c hne)
theorem le_alloc' {w : World} {base : Nat} (h : base ≤ w.heap.size) (o : Obj) : base ≤ (w.alloc o).heap.size := by simp; omega
theorem ones4 (a b p n : Int) : ∀ u ∈ [Value.int .i64 a, .int .i64 b, .int .i64 p, .int .i64 n], u.oneCell' = true := by
  intro u hu
  simp only [List.mem_cons, List.not_mem_nil, or_false] at hu
  rcases hu with rfl | rfl | rfl | rfl <;> rfl

set_option maxHeartbeats 1000000 in
theorem chosen_any (s g c : Nat) (w : World) (hg : Blk w g (tabV 16) 75) (hc : w.cell? ⟨c, 0, none⟩ = some (.int .i64 s)) (hlt : c < w.heap.size) :
    Calls Try.prog 39 #[.slice (some ⟨g, 0, none⟩) 16 16, .func (.func 40) #[] #[.pointer (some ⟨c, 0, none⟩)]] w fun e w' => ∃ v, e = .returned v ∧ w'.ownsRow w.heap.size 50 4 v (sel s 16).length ((sel s 16).flatMap brn) ∧ Below w.heap.size w w' := by
  obtain ⟨i0, hi, hz0, hz1, hz2⟩ := info_parts info50
  go_enter Try.func39, Try.ntmps39
  go_wp2
  go_loopw [4, 9] (fun v t wr => ∃ k : Nat, k ≤ 16 ∧ t = .int .i64 k ∧ wr.ownsRow w.heap.size 50 4 v (sel s k).length ((sel s k).flatMap brn) ∧ Below w.heap.size w wr) (fun _ t _ => 16 - (intOf t).toNat)
  case atStart => exact ⟨0, by omega, rfl, World.ownsRow_nil _ _ _ _, Below.refl _ _⟩
  case round =>
    obtain ⟨k, hk, rfl, hown, hB⟩ := hrel
    by_cases hlt' : k < 16
    · have hgr := hg.below hB hg.lt
      have hcr := (hB.cell (p := ⟨c, 0, none⟩) hlt).trans hc
      have hts := Lib.hid (tab_size 16)
      have hget := Lib.hid (tab_get k hlt')
      have hss := sel_succ s k
      have hll : (sel s k).length ≤ 16 := Nat.le_trans (List.length_filter_le _ _) (by simp; omega)
      obtain ⟨L, hL⟩ : ∃ L, L = sel s k := ⟨_, rfl⟩
      rw [← hL] at hown hss hll
      obtain ⟨a, ha⟩ : ∃ a : Int, a = (k / 2 : Nat) := ⟨_, rfl⟩
      obtain ⟨b, hb⟩ : ∃ a : Int, a = (k % 2 : Nat) := ⟨_, rfl⟩
      obtain ⟨p, hp⟩ : ∃ a : Int, a = (pr (k / 2) (k % 2) : Nat) := ⟨_, rfl⟩
      obtain ⟨n, hn⟩ : ∃ a : Int, a = (nx (k / 2) (k % 2) : Nat) := ⟨_, rfl⟩
      have hbr := Lib.hid (show (brn k) = [.int .i64 a, .int .i64 b, .int .i64 p, .int .i64 n] by rw [ha, hb, hp, hn]; rfl)
      have hns := Lib.hid (show n = (s : Int) ↔ nx (k / 2) (k % 2) = s by rw [hn]; omega)
      have HSS := Lib.hid hss
      clear ha hb hp hn hL hss
      have hsz := hB.size
      have hltr : c < wr.heap.size := by omega
      by_cases hq : n = (s : Int)
      · have hq' : (n == (s : Int)) = true := by simpa using hq
        have HS : sel s (k + 1) = L ++ [k] := by rw [HSS.out, if_pos (by simpa using hns.out.1 hq)]
        have HQ := Lib.hid HS
        clear hq HS
        go_wp2_with (first
          | ((with_reducible refine wpList_load_blk rfl 50 (.tmp 11) rfl g (k * 4) 4 rfl hgr row50 ?_ #[.int .i64 a, .int .i64 b, .int .i64 p, .int .i64 n] ?_ ?_); (rw [hts.out]; omega); (rw [hget.out, hbr.out]))
          | ((with_reducible refine wpList_store_blk rfl 50 (.tmp 6) (.tmp 12) rfl wr.heap.size 0 4 #[.int .i64 a, .int .i64 b, .int .i64 p, .int .i64 n] rfl rfl (Blk.new' rfl) row50 ?_ ?_ (all4 _ _ _ _) ?_); (rfl); (exact Nat.le_refl 4); intro w5 h5 o5; replace h5 : Blk w5 wr.heap.size #[.int .i64 a, .int .i64 b, .int .i64 p, .int .i64 n] 50 := h5; replace hcr := (only_cell o5 (Nat.ne_of_lt hltr)).trans ((World.cell?_alloc_past (w := wr) _ c 0 hltr).trans hcr); replace hown := own_only_ge hown o5 (Nat.le_refl _); replace hB := below_only (hB.alloc hsz _) o5 hsz; have hs5 := h5.lt; replace hsz := Nat.le_of_lt (Nat.lt_of_le_of_lt hsz hs5); replace hltr := Nat.lt_trans hltr hs5; clear hgr)
          | ((with_reducible refine wpList_load_blk rfl 50 (.tmp 6) rfl wr.heap.size 0 4 rfl h5 row50 ?_ #[.int .i64 a, .int .i64 b, .int .i64 p, .int .i64 n] ?_ ?_); (exact Nat.le_refl 4); (rfl))
          | (go_at_call 40; (with_reducible refine (prev1_any a b p n s c _ hcr hltr).mono ?_); rintro e w6 ⟨rfl, hb1⟩; rw [hq']; replace h5 := h5.below hb1 h5.lt; replace hown := own_below hown hb1; replace hB := bnext hB hb1; replace hsz := Nat.le_trans hsz hb1.size; clear hb1 hcr hltr)
          | (at_builtin; refine wpList_append_own _ rfl (.tmp 16) (.tmp 18) 47 rfl w.heap.size 50 i0 (.agg #[.int .i64 0, .int .i64 0, .int .i64 0, .int .i64 0]) 4 32 Try.underlying47 hi hz0 hz1 hz2 rfl (by decide) _ L.length (L.flatMap brn) rfl (hown.alloc _) ⟨w6.heap.size, 0, none⟩ 1 1 [.int .i64 a, .int .i64 b, .int .i64 p, .int .i64 n] rfl rfl ?_ ?_ ?_ ?_ ?_ ?_; (exact rows4 _); (exact ones4 _ _ _ _); (unfold maxLen; omega); (omega); (exact le_alloc' hsz _); intro v7 w7 hown7 hg7 _; replace hB := (hB.alloc hsz _).grown hg7 (le_alloc' hsz _) (fun k hk => (hown.lt k hk).1)))
        refine ⟨⟨k + 1, by omega, by go_num, ?_, hB⟩, by simp [intOf]; omega⟩
        rw [HQ.out, List.length_append, List.flatMap_append]
        have e1 : [k].flatMap brn = [.int .i64 a, .int .i64 b, .int .i64 p, .int .i64 n] := by rw [← hbr.out]; simp
        rw [e1]
        exact hown7
      · have hq' : (n == (s : Int)) = false := by simpa using hq
        have HS : sel s (k + 1) = L := by rw [HSS.out, if_neg (by simpa using fun h => hq (hns.out.2 h)), List.append_nil]
        have HQ := Lib.hid HS
        clear hq HS
        go_wp2_with (first
          | ((with_reducible refine wpList_load_blk rfl 50 (.tmp 11) rfl g (k * 4) 4 rfl hgr row50 ?_ #[.int .i64 a, .int .i64 b, .int .i64 p, .int .i64 n] ?_ ?_); (rw [hts.out]; omega); (rw [hget.out, hbr.out]))
          | ((with_reducible refine wpList_store_blk rfl 50 (.tmp 6) (.tmp 12) rfl wr.heap.size 0 4 #[.int .i64 a, .int .i64 b, .int .i64 p, .int .i64 n] rfl rfl (Blk.new' rfl) row50 ?_ ?_ (all4 _ _ _ _) ?_); (rfl); (exact Nat.le_refl 4); intro w5 h5 o5; replace h5 : Blk w5 wr.heap.size #[.int .i64 a, .int .i64 b, .int .i64 p, .int .i64 n] 50 := h5; replace hcr := (only_cell o5 (Nat.ne_of_lt hltr)).trans ((World.cell?_alloc_past (w := wr) _ c 0 hltr).trans hcr); replace hown := own_only_ge hown o5 (Nat.le_refl _); replace hB := below_only (hB.alloc hsz _) o5 hsz; have hs5 := h5.lt; replace hsz := Nat.le_of_lt (Nat.lt_of_le_of_lt hsz hs5); replace hltr := Nat.lt_trans hltr hs5; clear hgr)
          | ((with_reducible refine wpList_load_blk rfl 50 (.tmp 6) rfl wr.heap.size 0 4 rfl h5 row50 ?_ #[.int .i64 a, .int .i64 b, .int .i64 p, .int .i64 n] ?_ ?_); (exact Nat.le_refl 4); (rfl))
          | (go_at_call 40; (with_reducible refine (prev1_any a b p n s c _ hcr hltr).mono ?_); rintro e w6 ⟨rfl, hb1⟩; rw [hq']; replace h5 := h5.below hb1 h5.lt; replace hown := own_below hown hb1; replace hB := bnext hB hb1; replace hsz := Nat.le_trans hsz hb1.size; clear hb1 hcr hltr))
        exact ⟨⟨k + 1, by omega, by go_num, by rw [HQ.out]; exact hown, hB⟩, by simp [intOf]; omega⟩
    · obtain rfl : k = 16 := by omega
      go_wp2
      go_ret
      exact ⟨_, rfl, hown, hB⟩

/-- The two branches that lead to s. -/
def prevV (s : Nat) : Array Value := ((sel s 16).flatMap brn).toArray
def Z51 : Array Value := #[.int .i64 0, .int .i64 0, .int .i64 0, .int .i64 0, .int .i64 0, .int .i64 0, .int .i64 0, .int .i64 0]
theorem zero51 : (Try.prog.info? 51).map (fun i => (i.zero, i.size)) = some (some (.agg Z51), 8) := by kernel_rfl
theorem row51 : RowTy Try.prog 51 8 := ⟨⟨_, Try.underlying51, rfl⟩, by kernel_rfl⟩
theorem build51 (a b p n a' b' p' n' : Int) (w : World) : (Instr.build 51 #[(0, .agg #[.int .i64 a, .int .i64 b, .int .i64 p, .int .i64 n]), (1, .agg #[.int .i64 a', .int .i64 b', .int .i64 p', .int .i64 n'])]).run Try.prog w
    = .ok (.agg #[.int .i64 a, .int .i64 b, .int .i64 p, .int .i64 n, .int .i64 a', .int .i64 b', .int .i64 p', .int .i64 n']) w := run_build w 51 _ _ (by kernel_rfl)
theorem build51z (w : World) : (Instr.build 51 #[]).run Try.prog w = .ok (.agg Z51) w := run_build w 51 _ _ (by kernel_rfl)
theorem z51_one : Z51.all (·.oneCell') = true := by
  rw [Array.all_eq_true_iff_forall_mem]
  intro v hv
  simp only [Z51, List.mem_toArray, List.mem_cons, List.not_mem_nil, or_false] at hv
  rcases hv with rfl | rfl | rfl | rfl | rfl | rfl | rfl | rfl <;> rfl

theorem prev_err (s : Int) (h : ¬ (0 ≤ s ∧ s < 8)) (w : World) :
    Calls Try.prog 24 #[.int .i64 s] w fun e w' => e = .returned (.tuple #[.agg Z51, .int .i64 2]) ∧ Below w.heap.size w w' := by
  have z1 : ∀ w, (zeroValue 51).run Try.prog w = .ok (.agg Z51) w := (zero_of_info zero51).1
  have hbz := fun w => build51z w
  have hf : decide (0 ≤ s ∧ s < 8 ∧ (0 : Int) ≤ 0 ∧ (0 : Int) < 2) = false := decide_eq_false (by omega)
  have b1 : Blk ((w.alloc (.cells #[.int .i64 s] 3)).alloc (.cells Z51 51)) (w.heap.size + 1) Z51 51 := Blk.new' (by simp)
  have hB : Below w.heap.size w ((w.alloc (.cells #[.int .i64 s] 3)).alloc (.cells Z51 51)) := ((Below.refl _ _).alloc (Nat.le_refl _) _).alloc (by simp) _
  go_enter Try.func24, Try.ntmps24
  go_wp2_with (first
    | (go_at_call 29; (with_reducible refine (fits_any _ _ _).mono ?_); rintro e w2 ⟨rfl, hw⟩; subst w2; rw [hf])
    | ((with_reducible refine wpList_store_blk rfl 51 (.tmp 2) (.tmp 8) rfl (w.heap.size + 1) 0 8 Z51 rfl rfl b1 row51 ?_ ?_ z51_one ?_); (rfl); (exact Nat.le_refl 8); intro w5 hb5 ho5; rw [show splice Z51 0 Z51.toList = Z51 from rfl] at hb5; replace hB := below_only hB ho5 (Nat.le_succ _)))
  refine bodyPost_ret (results_blk_tmp rfl _ _ _ Z51 51 8 _ rfl rfl hb5 row51 rfl) rfl ?_
  exact ⟨rfl, hB⟩

theorem sel_pair (s : Nat) (hs : s < 8) : ∃ i j, sel s 16 = [i, j] := by
  have h := sel_two ⟨s, hs⟩
  match hl : sel s 16, h with
  | [i, j], _ => exact ⟨i, j, rfl⟩
theorem brn_ints (i : Nat) : ∃ a b p n : Int, brn i = [.int .i64 a, .int .i64 b, .int .i64 p, .int .i64 n] := ⟨_, _, _, _, rfl⟩

set_option maxHeartbeats 1000000 in
theorem prev_ok (s : Nat) (hs : s < 8) (w : World) :
    Calls Try.prog 24 #[.int .i64 s] w fun e w' => e = .returned (.tuple #[.agg (prevV s), .int .i64 0]) ∧ Below w.heap.size w w' := by
  have z1 : ∀ w, (zeroValue 51).run Try.prog w = .ok (.agg Z51) w := (zero_of_info zero51).1
  have hf : decide (0 ≤ (s : Int) ∧ (s : Int) < 8 ∧ (0 : Int) ≤ 0 ∧ (0 : Int) < 2) = true := decide_eq_true (by omega)
  obtain ⟨W, hW⟩ : ∃ W, W = (w.alloc (.cells #[.int .i64 s] 3)).alloc (.cells Z51 51) := ⟨_, rfl⟩
  have b0 : Blk W w.heap.size #[.int .i64 s] 3 := by rw [hW]; exact (Blk.new' rfl).alloc _
  have b1 : Blk W (w.heap.size + 1) Z51 51 := by rw [hW]; exact Blk.new' (by simp)
  have hB : Below w.heap.size w W := by rw [hW]; exact ((Below.refl _ _).alloc (Nat.le_refl _) _).alloc (by simp) _
  have HW := Lib.hid hW
  clear hW
  go_enter Try.func24, Try.ntmps24
  go_wp2_with (first
    | (go_at_call 29; rw [← HW.out]; (with_reducible refine (fits_any _ _ _).mono ?_); rintro e w2 ⟨rfl, hw⟩; subst w2; rw [hf])
    | (go_at_call 22; (with_reducible refine (branches_any _).mono ?_); rintro e w3 ⟨g, rfl, hg, hb1⟩; replace b0 := b0.below hb1 b0.lt; replace b1 := b1.below hb1 b1.lt; replace hB := bnext hB hb1; clear hb1)
    | (go_at_call 39; (with_reducible refine (chosen_any s g w.heap.size _ hg ?_ b0.lt).mono ?_); (exact b0.cell 0); rintro e w4 ⟨v, rfl, hown, hb1⟩; replace b1 := b1.below hb1 b1.lt; replace hB := bnext hB hb1; have hbase := hb1.size; have hw3 := b0.lt; clear hb1))
  obtain ⟨i, j, hij⟩ := sel_pair s hs
  obtain ⟨a, b, p, n, hi⟩ := brn_ints i
  obtain ⟨a', b', p', n', hj⟩ := brn_ints j
  have hfl : (sel s 16).flatMap brn = [.int .i64 a, .int .i64 b, .int .i64 p, .int .i64 n, .int .i64 a', .int .i64 b', .int .i64 p', .int .i64 n'] := by rw [hij]; simp [hi, hj]
  have hln : (sel s 16).length = 2 := by rw [hij]; rfl
  have HP := Lib.hid (show prevV s = #[.int .i64 a, .int .i64 b, .int .i64 p, .int .i64 n, .int .i64 a', .int .i64 b', .int .i64 p', .int .i64 n'] by unfold prevV; rw [hfl])
  rw [hfl, hln] at hown
  obtain ⟨_, ⟨_, hbad⟩ | ⟨q, cap, cur, rfl, hqb, hh, hl, hm, hcs, ht⟩⟩ := hown
  · cases hbad
  have hcell : ∀ k u, [Value.int .i64 a, .int .i64 b, .int .i64 p, .int .i64 n, .int .i64 a', .int .i64 b', .int .i64 p', .int .i64 n'][k]? = some u → w4.cell? ⟨q, k, none⟩ = some u := by
    intro k u hk
    have hk8 : k < 2 * 4 := by
      have := (List.getElem?_eq_some_iff.1 hk).1
      simpa using this
    have e1 : w4.cell? ⟨q, k, none⟩ = cur[k]? := by simp [World.cell?, hh]
    rw [e1, ← Array.getElem?_toList, ← List.getElem?_take_of_lt hk8, ht]
    exact hk
  have c0 := hcell 0 _ rfl
  have c1 := hcell 1 _ rfl
  have c2 := hcell 2 _ rfl
  have c3 := hcell 3 _ rfl
  have c4 := hcell 4 _ rfl
  have c5 := hcell 5 _ rfl
  have c6 := hcell 6 _ rfl
  have c7 := hcell 7 _ rfl
  have hbd := fun w => build51 a b p n a' b' p' n' w
  clear hcell ht hcs hm hh hg b0 hij hi hj hfl hln
  have d0 : w4.cell? ⟨w.heap.size + 1, 0, none⟩ = some (.int .i64 0) := b1.cell 0
  have f0 := b1.frozen 0
  have d1 : w4.cell? ⟨w.heap.size + 1, 1, none⟩ = some (.int .i64 0) := b1.cell 1
  have f1 := b1.frozen 1
  have d2 : w4.cell? ⟨w.heap.size + 1, 2, none⟩ = some (.int .i64 0) := b1.cell 2
  have f2 := b1.frozen 2
  have d3 : w4.cell? ⟨w.heap.size + 1, 3, none⟩ = some (.int .i64 0) := b1.cell 3
  have f3 := b1.frozen 3
  have d4 : w4.cell? ⟨w.heap.size + 1, 4, none⟩ = some (.int .i64 0) := b1.cell 4
  have f4 := b1.frozen 4
  have d5 : w4.cell? ⟨w.heap.size + 1, 5, none⟩ = some (.int .i64 0) := b1.cell 5
  have f5 := b1.frozen 5
  have d6 : w4.cell? ⟨w.heap.size + 1, 6, none⟩ = some (.int .i64 0) := b1.cell 6
  have f6 := b1.frozen 6
  have d7 : w4.cell? ⟨w.heap.size + 1, 7, none⟩ = some (.int .i64 0) := b1.cell 7
  have f7 := b1.frozen 7
  go_region
  go_wp2
  have r := Blk.drew ((((((((b1.set 0 (.int .i64 a)).set 1 (.int .i64 b)).set 2 (.int .i64 p)).set 3 (.int .i64 n)).set 4 (.int .i64 a')).set 5 (.int .i64 b')).set 6 (.int .i64 p')).set 7 (.int .i64 n'))
  refine bodyPost_ret (results_blk_tmp rfl _ _ _ _ 51 8 _ rfl rfl r row51 rfl) rfl ?_
  rw [HP.out]
  exact ⟨rfl, ((((((((hB.setCell (p := ⟨w.heap.size + 1, 0, none⟩) (Nat.le_succ _) _).setCell (p := ⟨w.heap.size + 1, 1, none⟩) (Nat.le_succ _) _).setCell (p := ⟨w.heap.size + 1, 2, none⟩) (Nat.le_succ _) _).setCell (p := ⟨w.heap.size + 1, 3, none⟩) (Nat.le_succ _) _).setCell (p := ⟨w.heap.size + 1, 4, none⟩) (Nat.le_succ _) _).setCell (p := ⟨w.heap.size + 1, 5, none⟩) (Nat.le_succ _) _).setCell (p := ⟨w.heap.size + 1, 6, none⟩) (Nat.le_succ _) _).setCell (p := ⟨w.heap.size + 1, 7, none⟩) (Nat.le_succ _) _).drew⟩
end Go.Proofs.Ytkcccoialmineaa
