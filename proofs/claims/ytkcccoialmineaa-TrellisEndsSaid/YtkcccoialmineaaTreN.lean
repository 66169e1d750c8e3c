/-
  The trellis, walks: the statement TrellisEnds.
-/
import Derived.Test.YtkcccoialmineaaTreY
namespace Go.Proofs.Ytkcccoialmineaa
open Go.RowKit
attribute [-go_sem] Instr.build

theorem sel_facts : ∀ s : Fin 8, ((sel s.val 16).getD 0 0) / 2 < ((sel s.val 16).getD 1 0) / 2 ∧ nx ((sel s.val 16).getD 0 0 / 2) ((sel s.val 16).getD 0 0 % 2) = s.val ∧ nx ((sel s.val 16).getD 1 0 / 2) ((sel s.val 16).getD 1 0 % 2) = s.val := by decide +kernel
theorem prev_ints (s : Nat) (hs : s < 8) : ∃ a b p a' b' p' : Int, prevV s = #[.int .i64 a, .int .i64 b, .int .i64 p, .int .i64 s, .int .i64 a', .int .i64 b', .int .i64 p', .int .i64 s] ∧ a < a' := by
  obtain ⟨i, j, hij⟩ := sel_pair s hs
  have h := sel_facts ⟨s, hs⟩
  simp only [hij] at h
  obtain ⟨h1, h2, h3⟩ := h
  simp only [List.getD_cons_zero, List.getD_cons_succ] at h1 h2 h3
  refine ⟨((i / 2 : Nat) : Int), ((i % 2 : Nat) : Int), (pr (i / 2) (i % 2) : Nat), ((j / 2 : Nat) : Int), ((j % 2 : Nat) : Int), (pr (j / 2) (j % 2) : Nat), ?_, by omega⟩
  unfold prevV
  rw [hij]
  have e : [i, j].flatMap brn = brn i ++ brn j := by simp
  rw [e]
  unfold brn
  rw [h2, h3]
  rfl
theorem splice_list : ∀ (vs : List Value) (o : Nat) (l : List Value), o + vs.length ≤ l.length → splice l.toArray o vs = (l.take o ++ vs ++ l.drop (o + vs.length)).toArray
  | [], o, l, _ => by simp [splice]
  | x :: m, o, l, h => by
    have h' : o + (m.length + 1) ≤ l.length := by simpa using h
    rw [splice, List.setIfInBounds_toArray, splice_list m (o + 1) (l.set o x) (by simp; omega)]
    congr 1
    rw [List.take_set, List.take_succ_eq_append_getElem (by omega), List.set_append_right _ _ (by simp; omega), List.drop_set_of_lt (by omega)]
    have e : min o l.length = o := by omega
    simp [e, Nat.add_assoc, Nat.add_comm 1]
theorem splice_v8 (C V : Array Value) (hC : C.size = 8) (hV : V.size = 8) : splice C 0 V.toList = V := by
  obtain ⟨c⟩ := C
  obtain ⟨v⟩ := V
  have hc : c.length = 8 := hC
  have hv : v.length = 8 := hV
  rw [splice_list v 0 c (by omega)]
  simp [hc, hv]
theorem ends_zero : ∀ s : Fin 8, stt s.val (tU s.val) = 0 := by decide +kernel
theorem step_apart : ∀ s : Fin 8, nx s.val 0 ≠ nx s.val 1 := by decide +kernel
theorem tZ_gd (s k : Nat) (hk : k < 3) : (gd (tZ s) k).toNat = pr (stt s ((tU s).take k)) (gd (tU s) k).toNat := by
  have e := par_take s (tU s) k (by rw [tU_length]; exact hk)
  have e2 : tZ s = par s ((tU s).take (k + 1)) ++ par (stt s ((tU s).take (k + 1))) ((tU s).drop (k + 1)) := by
    unfold tZ
    rw [← par_append, List.take_append_drop]
  have hl : (par s ((tU s).take k)).length = k := by rw [par_length]; simp [tU_length]; omega
  have hp := pr_lt (stt s ((tU s).take k)) (gd (tU s) k).toNat
  rw [e2, e, gd_append_left _ _ _ (by simp [hl]), gd_append_right _ _ _ (by omega), hl, Nat.sub_self]
  show (UInt8.ofNat _).toNat = _
  rw [UInt8.toNat_ofNat']
  exact Nat.mod_eq_of_lt (by omega)
theorem step_z (s : Nat) (hs : s < 8) (w : World) : Calls Try.prog 10 #[.int .i64 s, .int .i64 0] w fun e w' => e = .returned (.tuple #[.int .i64 (nx s 0 : Nat), .int .i64 (pr s 0 : Nat), .int .i64 0]) ∧ Below w.heap.size w w' := step_ok s 0 hs (by decide) w
theorem step_o (s : Nat) (hs : s < 8) (w : World) : Calls Try.prog 10 #[.int .i64 s, .int .i64 1] w fun e w' => e = .returned (.tuple #[.int .i64 (nx s 1 : Nat), .int .i64 (pr s 1 : Nat), .int .i64 0]) ∧ Below w.heap.size w w' := step_ok s 1 hs (by decide) w

set_option maxRecDepth 100000 in
set_option maxHeartbeats 4000000 in
theorem walk_TrellisEnds (v0 : Value) (l0 : List UInt8) (w : World) (h0 : Bsl w v0 l0) :
    Calls Try.prog 7 #[v0] w fun e w' => e = .returned (.bool true) ∧ Below w.heap.size w w' := by
  have z1 : ∀ w, (zeroValue 25).run Try.prog w = .ok (.agg (bytesV Z3)) w := (zero_of_info zero25).1
  have z2 : ∀ w, (zeroValue 51).run Try.prog w = .ok (.agg Z51) w := (zero_of_info zero51).1
  obtain ⟨a0, cap0, rfl, p1, p2, p3, p4⟩ := h0
  have P2 := Lib.hid p2
  clear p2
  by_cases h300 : 300 < l0.length
  · have hh : (300 : Int) < (l0.length : Int) := by omega
    go_enter Try.func7, Try.ntmps7
    go_wp2_with (go_at_call 13; (with_reducible refine (works_any _).mono ?_); rintro e w9 ⟨rfl, hB⟩)
    go_ret
    exact ⟨rfl, hB⟩
  · have hh : ¬ (300 : Int) < (l0.length : Int) := by omega
    obtain ⟨x, hx⟩ : ∃ x, x = lowL l0 l0.length := ⟨_, rfl⟩
    have hxl : x.length = l0.length := by rw [hx]; exact lowL_length l0 _ (Nat.le_refl _)
    have hxo : okb x = true := by rw [hx]; exact lowL_okb _ _
    have H0 : Bsl w (.slice a0 l0.length cap0) l0 := ⟨a0, cap0, rfl, p1, P2.out, p3, p4⟩
    obtain ⟨s, hs⟩ : ∃ s, s = stt 0 x := ⟨_, rfl⟩
    have hs8 : s < 8 := by rw [hs]; exact stt_lt 0 (by decide) x
    have HX := Lib.hid hx
    have HXL := Lib.hid hxl
    have HS := Lib.hid hs
    have hap := step_apart ⟨s, hs8⟩
    have hez := ends_zero ⟨s, hs8⟩
    obtain ⟨pa, pb, pp, pa', pb', pp', hprev, hlt⟩ := prev_ints s hs8
    have HPV := Lib.hid hprev
    have HPS := Lib.hid (prevV_size s hs8)
    obtain ⟨n0, hn0⟩ : ∃ n, n = nx s 0 := ⟨_, rfl⟩
    obtain ⟨n1, hn1⟩ : ∃ n, n = nx s 1 := ⟨_, rfl⟩
    have HN0 := Lib.hid hn0
    have HN1 := Lib.hid hn1
    have hne : ((n0 : Int) == (n1 : Int)) = false := by
      have : n0 ≠ n1 := by rw [hn0, hn1]; exact hap
      simp; omega
    have hge : ¬ (pa' ≤ pa) := by omega
    have HEZ := Lib.hid hez
    clear hx hxl hs hprev hn0 hn1 hap hez p1 p3 p4
    go_enter Try.func7, Try.ntmps7
    go_wp2_with (first
      | (go_at_call 26; (with_reducible refine (low_any l0 _ _ _ H0 (Nat.le_refl _) ?_).mono ?_); (omega); rintro e w1 ⟨v6, rfl, hx, hB⟩; rw [← HX.out] at hx)
      | (go_at_call 17; (with_reducible refine (encodeB x hxo _ _ hx ?_).mono ?_); (rw [HXL.out]; omega); rintro e w2 ⟨v3, rfl, hp, hb1⟩; rw [← HS.out]; replace hB := bnext hB hb1; clear hb1 hx)
      | (go_at_call 11; (with_reducible refine (tail_ok s hs8 _).mono ?_); rintro e w3 ⟨rfl, hb1⟩; replace hB := bnext hB hb1; have hB0 := hB.size; clear hb1)
      | ((with_reducible refine wpList_store_blk rfl 25 (.tmp 6) (.tmp 37) rfl w3.heap.size 0 3 (bytesV (tU s)) rfl rfl ((Blk.new' rfl).alloc _) row25 ?_ ?_ (bytesV_one _) ?_); (rfl); (exact Nat.le_refl 3); intro w4 t6 o4; rw [splice_all Z3 (tU s) rfl] at t6; have t7 := (Blk.new (w3.alloc (.cells (bytesV Z3) 25)) (bytesV Z3) 25).only o4 (by simp); replace hB := below_only ((hB.alloc hB.size _).alloc (by have := hB.size; simp; omega) _) o4 hB.size)
      | ((with_reducible refine wpList_store_blk rfl 25 (.tmp 7) (.tmp 38) rfl (w3.heap.size + 1) 0 3 (bytesV (tZ s)) rfl rfl (by simpa using t7) row25 ?_ ?_ (bytesV_one _) ?_); (rfl); (exact Nat.le_refl 3); intro w5 t7' o5; rw [splice_all Z3 (tZ s) rfl] at t7'; clear t7; replace t6 := t6.only o5 (by omega); replace hB := below_only hB o5 (Nat.le_trans hB0 (Nat.le_succ _)))
      | (go_at_call 10; (with_reducible refine (step_z s hs8 _).mono ?_); rintro e w6 ⟨rfl, hb1⟩; rw [← HN0.out]; replace t6 := t6.below hb1 t6.lt; replace t7' := t7'.below hb1 t7'.lt; replace hB := bnext hB hb1; clear hb1)
      | (go_at_call 10; (with_reducible refine (step_o s hs8 _).mono ?_); rintro e w7 ⟨rfl, hb1⟩; rw [← HN1.out]; replace t6 := t6.below hb1 t6.lt; replace t7' := t7'.below hb1 t7'.lt; replace hB := bnext hB hb1; clear hb1)
      | (go_at_call 24; (with_reducible refine (prev_ok s hs8 _).mono ?_); rintro e w8 ⟨rfl, hb1⟩; replace t6 := t6.below hb1 t6.lt; replace t7' := t7'.below hb1 t7'.lt; replace hB := bnext hB hb1; clear hb1)
      | ((with_reducible refine wpList_store_blk rfl 51 (.tmp 15) (.tmp 61) rfl w8.heap.size 0 8 (prevV s) rfl rfl (Blk.new' rfl) row51 ?_ ?_ (prev_ones _) ?_); (exact HPS.out); (exact Nat.le_refl 8); intro w9 t15 o9; have q6 := t6.lt; have q7 := t7'.lt; replace t6 := (t6.alloc (.cells Z51 51)).only o9 (by omega); replace t7' := (t7'.alloc (.cells Z51 51)).only o9 (by omega); replace hB := below_only (hB.alloc hB.size _) o9 hB.size; rw [splice_v8 _ _ rfl HPS.out, HPV.out] at t15; have c0 := t15.cell 0; have c3 := t15.cell 3; have c4 := t15.cell 4; have c7 := t15.cell 7; simp only [List.getElem?_toArray, List.getElem?_cons_zero, List.getElem?_cons_succ] at c0 c3 c4 c7)
      | (go_at_call 15; (with_reducible refine (num_any _ _).mono ?_); rintro e w' ⟨rfl, hw⟩; subst w')
      | fail)
    clear c0 c3 c4 c7
    go_loopw [4, 17] (fun q t wr => ∃ k : Nat, k ≤ 3 ∧ t = .int .i64 k ∧ q = .int .i64 (stt s ((tU s).take k)) ∧ Below w9.heap.size w9 wr) (fun _ t _ => 3 - (intOf t).toNat)
    case atStart => exact ⟨0, by omega, rfl, rfl, Below.refl _ _⟩
    case round =>
      obtain ⟨k, hk, rfl, rfl, hC⟩ := hrel
      by_cases hlt3 : k < 3
      · have c0 := (t6.below hC t6.lt).gd k (by rw [tU_length]; exact hlt3)
        have c1 := (t7'.below hC t7'.lt).gd k (by rw [tZ_length]; exact hlt3)
        have hst := stt_lt s hs8 ((tU s).take k)
        have hub := ub_lt (stt s ((tU s).take k))
        have hgu := (tU_gd s k hlt3).2
        have hgz := tZ_gd s k hlt3
        have hN := st_next s k hlt3
        rw [← hgu] at hub hN
        obtain ⟨q, hq⟩ : ∃ q, q = stt s ((tU s).take k) := ⟨_, rfl⟩
        rw [← hq] at hst hgz hN ⊢
        obtain ⟨u, hu⟩ : ∃ u, u = (gd (tU s) k).toNat := ⟨_, rfl⟩
        rw [← hu] at c0 hub hgz hN
        obtain ⟨p, hp⟩ : ∃ p, p = (gd (tZ s) k).toNat := ⟨_, rfl⟩
        rw [← hp] at c1 hgz
        have HGZ := Lib.hid hgz
        have HN := Lib.hid hN
        have Hp := Lib.hid hp
        have hp9 : p < 256 := by rw [hp]; exact lt256 _
        clear hgu hgz hN hq hu hp
        go_wp2_with (first
          | (go_at_call 10; (with_reducible refine (step_ok q u hst hub _).mono ?_); rintro e w10 ⟨rfl, hb1⟩; rw [← HGZ.out]; have hC' := bnext hC hb1; replace c1 := ((t7'.below hC' t7'.lt).gd k (by rw [tZ_length]; exact hlt3)); rw [← Hp.out] at c1; clear hb1)
          | (go_at_call 15; (with_reducible refine (num_any _ _).mono ?_); rintro e w' ⟨rfl, hw⟩; subst w')
          | fail)
        exact ⟨⟨k + 1, by omega, by go_num, by rw [HN.out], hC'⟩, by simp [intOf]; omega⟩
      · obtain rfl : k = 3 := by omega
        have e : stt s ((tU s).take 3) = 0 := by rw [List.take_of_length_le (by rw [tU_length]; exact Nat.le_refl _)]; exact HEZ.out
        rw [e]
        replace hB := bnext hB hC
        go_wp2_with (first
          | (go_at_call 13; (with_reducible refine (works_any _).mono ?_); rintro e w12 ⟨rfl, hb1⟩; replace hB := bnext hB hb1; clear hb1))
        go_ret
        exact ⟨rfl, hB⟩
end Go.Proofs.Ytkcccoialmineaa
