/-
  The reference's scheduler, walks: Start, Serve, Order, Turn.
-/
import Derived.Test.YtdnpbemkobhlcaaFaiF
set_option linter.unusedSimpArgs false
set_option linter.unusedVariables false
namespace Go.Proofs.Ytdnpbemkobhlcaa
open Go.RowKit
attribute [-go_sem] Instr.build

/-- The reference's services: a row of n whole numbers, from 1 to 2^61. -/
structure Mro (w : World) (mb n : Nat) (S : Nat → Nat) : Prop where
  r : ∃ C, Blk w mb C 3 ∧ n ≤ C.size ∧ ∀ i, i < n → C[i]? = some (.int .i64 (S i : Nat))
  bd : ∀ i, i < n → 1 ≤ S i ∧ S i ≤ 2305843009213693952
  n1 : n ≤ 32
theorem Mro.lt {w : World} {mb n : Nat} {S : Nat → Nat} (h : Mro w mb n S) : mb < w.heap.size := by
  obtain ⟨C, hC, _⟩ := h.r; exact hC.lt
theorem Mro.cell {w : World} {mb n : Nat} {S : Nat → Nat} (h : Mro w mb n S) (i : Nat) (hi : i < n) : w.cell? ⟨mb, i, none⟩ = some (.int .i64 (S i : Nat)) := by
  obtain ⟨C, hC, _, hc⟩ := h.r; rw [hC.cell]; exact hc i hi
theorem Mro.frozen {w : World} {mb n : Nat} {S : Nat → Nat} (h : Mro w mb n S) (i : Nat) : w.frozen? ⟨mb, i, none⟩ = false := by
  obtain ⟨C, hC, _⟩ := h.r; exact hC.frozen i
theorem Mro.below {w w' : World} {mb n : Nat} {S : Nat → Nat} (h : Mro w mb n S) (hb : Below w.heap.size w w') : Mro w' mb n S := ⟨by obtain ⟨C, hC, k⟩ := h.r; exact ⟨C, hC.below hb hC.lt, k⟩, h.bd, h.n1⟩
theorem Mro.drew {w : World} {mb n : Nat} {S : Nat → Nat} (h : Mro w mb n S) : Mro w.drew mb n S := ⟨h.r, h.bd, h.n1⟩
theorem Mro.but {w w' : World} {mb n b base : Nat} {S : Nat → Nat} (h : Mro w mb n S) (hb : But b base w w') (h2 : mb < base ∧ mb ≠ b) : Mro w' mb n S := ⟨by obtain ⟨C, hC, k⟩ := h.r; exact ⟨C, hC.but hb h2.1 h2.2, k⟩, h.bd, h.n1⟩
theorem Mro.congr {w : World} {mb n : Nat} {S T : Nat → Nat} (h : Mro w mb n S) (e : ∀ i, i < n → T i = S i) : Mro w mb n T := ⟨by obtain ⟨C, hC, k, hc⟩ := h.r; exact ⟨C, hC, k, fun i hi => by rw [e i hi]; exact hc i hi⟩, fun i hi => by rw [e i hi]; exact h.bd i hi, h.n1⟩
theorem Mro.set {w : World} {mb n : Nat} {S : Nat → Nat} (h : Mro w mb n S) (u x : Nat) (hu : u < n) (h1 : 1 ≤ x) (h2 : x ≤ 2305843009213693952) : Mro (w.setCell ⟨mb, u, none⟩ (.int .i64 x)) mb n (upd S u x) :=
  ⟨by
    obtain ⟨C, hC, hs, hc⟩ := h.r
    refine ⟨_, hC.set u (.int .i64 x), by rw [Array.size_setIfInBounds]; exact hs, fun i hi => ?_⟩
    rw [Array.getElem?_setIfInBounds]
    unfold upd
    by_cases e : u = i
    · subst e; rw [if_pos rfl, if_pos (by omega), if_pos rfl]
    · rw [if_neg e, if_neg (Ne.symm e)]; exact hc i hi, fun i hi => by
    unfold upd; split
    · exact ⟨h1, h2⟩
    · exact h.bd i hi, h.n1⟩
theorem reforder_len (a b : Option Addr) (n m c d : Nat) (h : n ≠ m) (w : World) : Calls Try.prog 43 #[.slice a m c, .slice b n d] w fun e w' => e = .returned (.tuple #[.slice none 0 0, .int .i64 2]) ∧ w' = w := by
  have e0 : ((n : Int) != (m : Int)) = true := by simp; omega
  go_enter Try.func43, Try.ntmps43
  go_wp2
  go_ret2
  exact ⟨rfl, rfl⟩
theorem reforder_range (a b : Option Addr) (n c d : Nat) (xs : List Int) (w : World) (hx : Ints w b xs) (hn : n = xs.length) (h1 : n ≤ 1000) (hbad : ∃ i, i < n ∧ (xs.getD i 0 < 0 ∨ 4294967296 < xs.getD i 0)) :
    Calls Try.prog 43 #[.slice a n c, .slice b n d] w fun e w' => e = .returned (.tuple #[.slice none 0 0, .int .i64 2]) ∧ w' = w := by
  have e0 : ((n : Int) != (n : Int)) = false := by simp
  obtain ⟨kr, o, rfl, hl, hc⟩ := hx (by obtain ⟨i, hi, _⟩ := hbad; omega)
  rw [← hn] at hc
  replace hbad := Lib.hid hbad
  replace hc := Lib.hid hc
  clear hx hn
  go_enter Try.func43, Try.ntmps43
  go_wp2
  go_loopw [7] (fun t wr => ∃ k : Nat, k ≤ n ∧ t = .int .i64 k ∧ (∀ i, i < k → ¬ (xs.getD i 0 < 0 ∨ 4294967296 < xs.getD i 0)) ∧ wr = w) (fun t _ => n - (intOf t).toNat)
  case atStart => exact ⟨0, by omega, rfl, fun i hi => absurd hi (by omega), rfl⟩
  case round =>
    obtain ⟨k, hk, rfl, hp, rfl⟩ := hrel
    by_cases hlt : k < n
    · have c1 := hc.out k hlt
      have hnx : ¬ (xs.getD k 0 < 0 ∨ 4294967296 < xs.getD k 0) → ∀ i, i < k + 1 → ¬ (xs.getD i 0 < 0 ∨ 4294967296 < xs.getD i 0) := fun h i hi => by
        rcases Nat.lt_succ_iff_lt_or_eq.1 hi with h' | rfl
        · exact hp i h'
        · exact h
      replace hnx := Lib.hid hnx
      clear hp
      generalize xs.getD k 0 = x at *
      by_cases g1 : x < 0
      · clear hnx
        go_wp2
        go_ret2
        exact ⟨rfl, rfl⟩
      · by_cases g2 : 4294967296 < x
        · clear hnx
          go_wp2
          go_ret2
          exact ⟨rfl, rfl⟩
        · replace hnx := Lib.hid (hnx.out (by omega))
          go_wp2
          exact ⟨⟨k + 1, by omega, by go_num, hnx.out, trivial⟩, by simp [intOf]; omega⟩
    · obtain rfl : k = n := by omega
      obtain ⟨i, hi, h⟩ := hbad.out
      exact absurd h (hp i hi)
/-- What the comparison of a round reads. -/
structure Rd8 (w : World) (kr o mb g i k x ri si rx sx : Nat) : Prop where
  c1 : w.cell? ⟨kr, o + i, none⟩ = some (.int .i64 (ri : Nat))
  c2 : w.cell? ⟨mb, i, none⟩ = some (.int .i64 (si : Nat))
  c3 : w.cell? ⟨g, k, none⟩ = some (.int .i64 (x : Nat))
  c4 : w.cell? ⟨kr, o + x, none⟩ = some (.int .i64 (rx : Nat))
  c5 : w.cell? ⟨mb, x, none⟩ = some (.int .i64 (sx : Nat))
  l1 : kr < w.heap.size
  l2 : mb < w.heap.size
  l3 : g < w.heap.size
theorem Rd8.below {w w' : World} {kr o mb g i k x ri si rx sx : Nat} (h : Rd8 w kr o mb g i k x ri si rx sx) (hb : Below w.heap.size w w') : Rd8 w' kr o mb g i k x ri si rx sx :=
  ⟨(hb.cell h.l1).trans h.c1, (hb.cell h.l2).trans h.c2, (hb.cell h.l3).trans h.c3, (hb.cell h.l1).trans h.c4, (hb.cell h.l2).trans h.c5, Nat.lt_of_lt_of_le h.l1 hb.size, Nat.lt_of_lt_of_le h.l2 hb.size, Nat.lt_of_lt_of_le h.l3 hb.size⟩
/-- One user more in the order. -/
theorem ordU_next (r S : Nat → Nat) (i k : Nat) (h : 0 < r i) (e : insU r S (ordU r S i) i (ordU r S i).length = k) : ordU r S (i + 1) = (ordU r S i).take k ++ [i] ++ (ordU r S i).drop k := by
  rw [ordU, if_pos h, e, List.append_assoc]; rfl
theorem ordU_skip (r S : Nat → Nat) (i : Nat) (h : r i = 0) : ordU r S (i + 1) = ordU r S i := by
  rw [ordU, if_neg (by omega)]
theorem take_getD (l : List Nat) (k j : Nat) (h : j < (l.take k).length) : (l.take k).getD j 0 = l.getD j 0 := by
  rw [List.length_take] at h
  rw [List.getD_eq_getElem?_getD, List.getD_eq_getElem?_getD, List.getElem?_take_of_lt (by omega)]
theorem drop_getD (l : List Nat) (k j : Nat) : (l.drop k).getD j 0 = l.getD (k + j) 0 := by
  rw [List.getD_eq_getElem?_getD, List.getD_eq_getElem?_getD, List.getElem?_drop]
theorem OwnI.weaken {w : World} {base base' : Nat} {v : Value} {l : List Nat} (h : OwnI w base v l) (hb : base' ≤ base) : OwnI w base' v l := by
  obtain ⟨h1, h2 | ⟨g, cap, cur, e, h3, h4⟩⟩ := h
  · exact ⟨h1, .inl h2⟩
  · exact ⟨h1, .inr ⟨g, cap, cur, e, Nat.le_trans hb h3, h4⟩⟩
set_option maxRecDepth 100000 in
set_option maxHeartbeats 8000000 in
theorem reforder_ok {r S : Nat → Nat} (w : World) (mb n mc : Nat) (hM : Mro w mb n S) (kr o c : Nat) (hkr : kr < w.heap.size) (hx : ∀ i, i < n → w.cell? ⟨kr, o + i, none⟩ = some (.int .i64 (r i : Nat)) ∧ r i ≤ 4294967296) :
    Calls Try.prog 43 #[.slice (some ⟨mb, 0, none⟩) n mc, .slice (some ⟨kr, o, none⟩) n c] w fun e w' => (∃ v, e = .returned (.tuple #[v, .int .i64 0]) ∧ OwnI w' w.heap.size v (ordU r S n)) ∧ Below w.heap.size w w' := by
  have e0 : ((n : Int) != (n : Int)) = false := by simp
  have hm := hM.lt
  have n1 := hM.n1
  replace hx := Lib.hid hx
  have HM := Lib.hid hM
  clear hM
  go_enter Try.func43, Try.ntmps43
  go_wp2
  go_loopw [7] (fun t wr => ∃ k : Nat, k ≤ n ∧ t = .int .i64 k ∧ wr = w) (fun t _ => n - (intOf t).toNat)
  case atStart => exact ⟨0, by omega, rfl, rfl⟩
  case round =>
    obtain ⟨k, hk, rfl, hwr⟩ := hrel
    replace hwr := hwr.symm
    subst hwr
    by_cases hlt : k < n
    · obtain ⟨c1, c2⟩ := hx.out k hlt
      generalize r k = x at *
      have g1 : ¬ ((x : Int) < 0) := by omega
      have g2 : ¬ ((4294967296 : Int) < (x : Int)) := by omega
      clear c2
      go_wp2
      exact ⟨⟨k + 1, by omega, by go_num, trivial⟩, by simp [intOf]; omega⟩
    · obtain rfl : n = k := by omega
      clear hlt hk
      go_wp2
      go_loopw [6, 8] (fun v t wr => ∃ i : Nat, i ≤ n ∧ t = .int .i64 i ∧ OwnI wr w.heap.size v (ordU r S i) ∧ Below w.heap.size w wr) (fun _ t _ => n - (intOf t).toNat)
      case atStart => exact ⟨0, by omega, rfl, OwnI.nil _ _, Below.refl _ _⟩
      case round =>
        obtain ⟨i, hi, rfl, hO, hB⟩ := hrel
        by_cases hlt : i < n
        · obtain ⟨c1, c2⟩ := hx.out i hlt
          have d1 := (hB.cell (p := ⟨kr, o + i, none⟩) hkr).trans c1
          by_cases hr0 : r i = 0
          · have hz : ((r i : Int) == 0) = true := by simp [hr0]
            have hsk := Lib.hid (ordU_skip r S i hr0)
            generalize r i = x at *
            clear c1 c2 hr0
            go_wp2
            exact ⟨⟨i + 1, by omega, by go_num, by rw [hsk.out]; exact hO, hB⟩, by simp [intOf]; omega⟩
          · have hz : ((r i : Int) == 0) = false := by simp [hr0]
            have hrp : 0 < r i := by omega
            have hmm := ordU_mem r S i
            have hnext := fun k => ordU_next r S i k hrp
            have hl32 := ordU_length r S i
            have F1 : F64 (mt r S i) := ⟨by unfold mt; simp only; omega, by have := (HM.out.bd i hlt).2; unfold mt; simp only; omega⟩
            have hF2 : ∀ x, x < i → F64 (mt r S x) := fun x hx' => ⟨by have := (hx.out x (by omega)).2; unfold mt; simp only; omega, by have := (HM.out.bd x (by omega)).2; unfold mt; simp only; omega⟩
            have m1 := (hB.cell (p := ⟨mb, i, none⟩) hm).trans (HM.out.cell i hlt)
            have hs1 := (HM.out.bd i hlt).2
            have hins : ∀ k, insU r S (ordU r S i) i (k + 1) = if 0 < cmpF (mt r S i) (mt r S ((ordU r S i).getD k 0)) then insU r S (ordU r S i) i k else k + 1 := fun k => rfl
            replace hmm := Lib.hid hmm
            replace hnext := Lib.hid hnext
            replace hl32 := Lib.hid hl32
            replace hins := Lib.hid hins
            clear d1 m1
            generalize ordU r S i = l at *
            rcases hO.form with ⟨rfl, hl0⟩ | ⟨g, cap, rfl, hg1, hgl0, hg3, hg4, hcl0, _⟩
            · subst hl0
              have hnx := hnext.out 0 rfl
              simp only [List.take_nil, List.drop_nil, List.append_nil, List.nil_append] at hnx
              replace hnx := Lib.hid hnx
              clear hO hmm hnext hins F1 hF2 c1 c2 hr0
              have hz2 := hz
              have hcell := (hB.cell (p := ⟨kr, o + i, none⟩) hkr).trans (hx.out i hlt).1
              generalize r i = ri at *
              go_wp2
              go_loopw [9] (fun u wr => ∃ k : Nat, k = 0 ∧ u = .int .i64 k ∧ Below w.heap.size w wr) (fun u _ => (intOf u).toNat)
              case atStart => exact ⟨0, rfl, rfl, hB⟩
              case round =>
                clear hB hcell
                obtain ⟨k, hk0, rfl, hB⟩ := hrel
                subst hk0
                go_wp2
                have tt : True := trivial
                refine wp_region_held_drew (S := fun _ => True) (by kernel_rfl) tt (fun hHeld => ?_)
                refine wpAnyH_takeD 0 (some 46) (v := (.int .i64 ((0 : Nat) : Int))) rfl rfl (by kernel_rfl) (by kernel_rfl) (by kernel_rfl) (fun _ _ _ h => h) (yieldsIf_calc rfl (fun w => by unfold execOp; go_simp)) (by assumption) ?_; try simp only [Act.put, List.setIfInBounds_toArray, List.set_cons_zero, List.set_cons_succ, Array.toArray_toList]
                refine wpAnyH_takeD 1 (some 47) (v := (.bool false)) rfl rfl (by kernel_rfl) (by kernel_rfl) (by kernel_rfl) (fun _ _ _ h => h) (yieldsIf_calc rfl (fun w => by unfold execOp; go_simp)) (by assumption) ?_; try simp only [Act.put, List.setIfInBounds_toArray, List.set_cons_zero, List.set_cons_succ, Array.toArray_toList]
                refine wpAnyH_takeD 2 (some 48) (v := (.bool false)) rfl rfl (by kernel_rfl) (by kernel_rfl) (by kernel_rfl) (fun _ _ _ h => h) (yieldsIf_calc rfl (fun w => by unfold execOp; go_simp)) (by assumption) ?_; try simp only [Act.put, List.setIfInBounds_toArray, List.set_cons_zero, List.set_cons_succ, Array.toArray_toList]
                refine wpAnyH_takeD 3 (some 49) (v := undef) rfl rfl (by kernel_rfl) (by kernel_rfl) (by kernel_rfl) (fun _ _ _ h => h) (.inr ⟨rfl, rfl⟩) (by assumption) ?_; try simp only [Act.put, List.setIfInBounds_toArray, List.set_cons_zero, List.set_cons_succ, Array.toArray_toList]
                refine wpAnyH_takeD 4 (some 50) (v := undef) rfl rfl (by kernel_rfl) (by kernel_rfl) (by kernel_rfl) (fun _ _ _ h => h) (.inr ⟨rfl, rfl⟩) (by assumption) ?_; try simp only [Act.put, List.setIfInBounds_toArray, List.set_cons_zero, List.set_cons_succ, Array.toArray_toList]
                refine wpAnyH_takeD 5 (some 51) (v := undef) rfl rfl (by kernel_rfl) (by kernel_rfl) (by kernel_rfl) (fun _ _ _ h => h) (.inr ⟨rfl, rfl⟩) (by assumption) ?_; try simp only [Act.put, List.setIfInBounds_toArray, List.set_cons_zero, List.set_cons_succ, Array.toArray_toList]
                refine wpAnyH_takeD 6 (some 52) (v := undef) rfl rfl (by kernel_rfl) (by kernel_rfl) (by kernel_rfl) (fun _ _ _ h => h) (.inr ⟨rfl, rfl⟩) (by assumption) ?_; try simp only [Act.put, List.setIfInBounds_toArray, List.set_cons_zero, List.set_cons_succ, Array.toArray_toList]
                refine wpAnyH_takeD 7 (some 53) (v := undef) rfl rfl (by kernel_rfl) (by kernel_rfl) (by kernel_rfl) (fun _ _ _ h => h) (.inr ⟨rfl, rfl⟩) (by assumption) ?_; try simp only [Act.put, List.setIfInBounds_toArray, List.set_cons_zero, List.set_cons_succ, Array.toArray_toList]
                refine wpAnyH_takeD 8 (some 54) (v := undef) rfl rfl (by kernel_rfl) (by kernel_rfl) (by kernel_rfl) (fun _ _ _ h => h) (.inr ⟨rfl, rfl⟩) (by assumption) ?_; try simp only [Act.put, List.setIfInBounds_toArray, List.set_cons_zero, List.set_cons_succ, Array.toArray_toList]
                refine wpAnyH_takeD 9 (some 55) (v := undef) rfl rfl (by kernel_rfl) (by kernel_rfl) (by kernel_rfl) (fun _ _ _ h => h) (.inr ⟨rfl, rfl⟩) (by assumption) ?_; try simp only [Act.put, List.setIfInBounds_toArray, List.set_cons_zero, List.set_cons_succ, Array.toArray_toList]
                refine wpAnyH_takeD 10 (some 56) (v := undef) rfl rfl (by kernel_rfl) (by kernel_rfl) (by kernel_rfl) (fun _ _ _ h => h) (.inr ⟨rfl, rfl⟩) (by assumption) ?_; try simp only [Act.put, List.setIfInBounds_toArray, List.set_cons_zero, List.set_cons_succ, Array.toArray_toList]
                refine wpAnyH_takeD 11 (some 57) (v := undef) rfl rfl (by kernel_rfl) (by kernel_rfl) (by kernel_rfl) (fun _ _ _ h => h) (.inr ⟨rfl, rfl⟩) (by assumption) ?_; try simp only [Act.put, List.setIfInBounds_toArray, List.set_cons_zero, List.set_cons_succ, Array.toArray_toList]
                refine wpAnyH_takeD 12 (some 58) (v := undef) rfl rfl (by kernel_rfl) (by kernel_rfl) (by kernel_rfl) (fun _ _ _ h => h) (.inr ⟨rfl, rfl⟩) (by assumption) ?_; try simp only [Act.put, List.setIfInBounds_toArray, List.set_cons_zero, List.set_cons_succ, Array.toArray_toList]
                refine wpAnyH_takeD 13 (some 59) (v := undef) rfl rfl (by kernel_rfl) (by kernel_rfl) (by kernel_rfl) (fun _ _ _ h => h) (.inr ⟨rfl, rfl⟩) (by assumption) ?_; try simp only [Act.put, List.setIfInBounds_toArray, List.set_cons_zero, List.set_cons_succ, Array.toArray_toList]
                refine wpAnyH_takeD 14 (some 60) (v := undef) rfl rfl (by kernel_rfl) (by kernel_rfl) (by kernel_rfl) (fun _ _ _ h => h) (.inr ⟨rfl, rfl⟩) (by assumption) ?_; try simp only [Act.put, List.setIfInBounds_toArray, List.set_cons_zero, List.set_cons_succ, Array.toArray_toList]
                refine wpAnyH_takeD 15 (some 61) (v := undef) rfl rfl (by kernel_rfl) (by kernel_rfl) (by kernel_rfl) (fun _ _ _ h => h) (.inr ⟨rfl, rfl⟩) (by assumption) ?_; try simp only [Act.put, List.setIfInBounds_toArray, List.set_cons_zero, List.set_cons_succ, Array.toArray_toList]
                refine wpAnyH_takeD 16 (some 62) (v := undef) rfl rfl (by kernel_rfl) (by kernel_rfl) (by kernel_rfl) (fun _ _ _ h => h) (.inr ⟨rfl, rfl⟩) (by assumption) ?_; try simp only [Act.put, List.setIfInBounds_toArray, List.set_cons_zero, List.set_cons_succ, Array.toArray_toList]
                refine wpAnyH_takeD 17 (some 63) (v := undef) rfl rfl (by kernel_rfl) (by kernel_rfl) (by kernel_rfl) (fun _ _ _ h => h) (.inr ⟨rfl, rfl⟩) (by assumption) ?_; try simp only [Act.put, List.setIfInBounds_toArray, List.set_cons_zero, List.set_cons_succ, Array.toArray_toList]
                refine wpAnyH_takeD 18 (some 64) (v := undef) rfl rfl (by kernel_rfl) (by kernel_rfl) (by kernel_rfl) (fun _ _ _ h => h) (.inr ⟨rfl, rfl⟩) (by assumption) ?_; try simp only [Act.put, List.setIfInBounds_toArray, List.set_cons_zero, List.set_cons_succ, Array.toArray_toList]
                refine wpAnyH_takeD 19 (some 65) (v := undef) rfl rfl (by kernel_rfl) (by kernel_rfl) (by kernel_rfl) (fun _ _ _ h => h) (.inr ⟨rfl, rfl⟩) (by assumption) ?_; try simp only [Act.put, List.setIfInBounds_toArray, List.set_cons_zero, List.set_cons_succ, Array.toArray_toList]
                refine wpAnyH_takeD 20 (some 66) (v := undef) rfl rfl (by kernel_rfl) (by kernel_rfl) (by kernel_rfl) (fun _ _ _ h => h) (.inr ⟨rfl, rfl⟩) (by assumption) ?_; try simp only [Act.put, List.setIfInBounds_toArray, List.set_cons_zero, List.set_cons_succ, Array.toArray_toList]
                refine wpAnyH_takeD 21 (some 67) (v := undef) rfl rfl (by kernel_rfl) (by kernel_rfl) (by kernel_rfl) (fun _ _ _ h => h) (.inr ⟨rfl, rfl⟩) (by assumption) ?_; try simp only [Act.put, List.setIfInBounds_toArray, List.set_cons_zero, List.set_cons_succ, Array.toArray_toList]
                refine wpAnyH_takeD 22 (some 68) (v := undef) rfl rfl (by kernel_rfl) (by kernel_rfl) (by kernel_rfl) (fun _ _ _ h => h) (.inr ⟨rfl, rfl⟩) (by assumption) ?_; try simp only [Act.put, List.setIfInBounds_toArray, List.set_cons_zero, List.set_cons_succ, Array.toArray_toList]
                refine wpAnyH_takeD 23 (some 69) (v := undef) rfl rfl (by kernel_rfl) (by kernel_rfl) (by kernel_rfl) (fun _ _ _ h => h) (.inr ⟨rfl, rfl⟩) (by assumption) ?_; try simp only [Act.put, List.setIfInBounds_toArray, List.set_cons_zero, List.set_cons_succ, Array.toArray_toList]
                refine wpAnyH_takeD 24 (some 70) (v := undef) rfl rfl (by kernel_rfl) (by kernel_rfl) (by kernel_rfl) (fun _ _ _ h => h) (.inr ⟨rfl, rfl⟩) (by assumption) ?_; try simp only [Act.put, List.setIfInBounds_toArray, List.set_cons_zero, List.set_cons_succ, Array.toArray_toList]
                refine wpAnyH_takeD 25 (some 71) (v := undef) rfl rfl (by kernel_rfl) (by kernel_rfl) (by kernel_rfl) (fun _ _ _ h => h) (.inr ⟨rfl, rfl⟩) (by assumption) ?_; try simp only [Act.put, List.setIfInBounds_toArray, List.set_cons_zero, List.set_cons_succ, Array.toArray_toList]
                refine wpAnyH_takeD 26 (some 72) (v := undef) rfl rfl (by kernel_rfl) (by kernel_rfl) (by kernel_rfl) (fun _ _ _ h => h) (.inr ⟨rfl, rfl⟩) (by assumption) ?_; try simp only [Act.put, List.setIfInBounds_toArray, List.set_cons_zero, List.set_cons_succ, Array.toArray_toList]
                refine wpAnyH_takeD 27 (some 73) (v := undef) rfl rfl (by kernel_rfl) (by kernel_rfl) (by kernel_rfl) (fun _ _ _ h => h) (.inr ⟨rfl, rfl⟩) (by assumption) ?_; try simp only [Act.put, List.setIfInBounds_toArray, List.set_cons_zero, List.set_cons_succ, Array.toArray_toList]
                refine wpAnyH_takeD 28 (some 74) (v := undef) rfl rfl (by kernel_rfl) (by kernel_rfl) (by kernel_rfl) (fun _ _ _ h => h) (.inr ⟨rfl, rfl⟩) (by assumption) ?_; try simp only [Act.put, List.setIfInBounds_toArray, List.set_cons_zero, List.set_cons_succ, Array.toArray_toList]
                refine wpAnyH_takeD 29 (some 75) (v := undef) rfl rfl (by kernel_rfl) (by kernel_rfl) (by kernel_rfl) (fun _ _ _ h => h) (.inr ⟨rfl, rfl⟩) (by assumption) ?_; try simp only [Act.put, List.setIfInBounds_toArray, List.set_cons_zero, List.set_cons_succ, Array.toArray_toList]
                refine wpAnyH_takeD 30 (some 76) (v := undef) rfl rfl (by kernel_rfl) (by kernel_rfl) (by kernel_rfl) (fun _ _ _ h => h) (.inr ⟨rfl, rfl⟩) (by assumption) ?_; try simp only [Act.put, List.setIfInBounds_toArray, List.set_cons_zero, List.set_cons_succ, Array.toArray_toList]
                refine wpAnyH_takeD 31 (some 77) (v := undef) rfl rfl (by kernel_rfl) (by kernel_rfl) (by kernel_rfl) (fun _ _ _ h => h) (.inr ⟨rfl, rfl⟩) (by assumption) ?_; try simp only [Act.put, List.setIfInBounds_toArray, List.set_cons_zero, List.set_cons_succ, Array.toArray_toList]
                refine wpAnyH_takeD 32 (some 78) (v := undef) rfl rfl (by kernel_rfl) (by kernel_rfl) (by kernel_rfl) (fun _ _ _ h => h) (.inr ⟨rfl, rfl⟩) (by assumption) ?_; try simp only [Act.put, List.setIfInBounds_toArray, List.set_cons_zero, List.set_cons_succ, Array.toArray_toList]
                refine wpAnyH_takeD 33 (some 79) (v := (.bool false)) rfl rfl (by kernel_rfl) (by kernel_rfl) (by kernel_rfl) (fun _ _ _ h => h) (yieldsIf_calc rfl (fun w => by unfold execOp; go_simp)) (by assumption) ?_; try simp only [Act.put, List.setIfInBounds_toArray, List.set_cons_zero, List.set_cons_succ, Array.toArray_toList]
                refine wpAnyH_done (by kernel_rfl) ?_ _
                clear tt hHeld
                replace hB := hB.drew
                generalize wr.drew = wr at *
                go_wp2
                have tt : True := trivial
                have hBD0 := hB.drew
                refine wp_region_held_drew (S := fun _ => True) (by kernel_rfl) tt (fun hHeld => ?_)
                refine wpAnyH_takeD 0 (some 82) (v := (.slice none 0 0)) rfl rfl (by kernel_rfl) (by kernel_rfl) (by kernel_rfl) (fun _ _ _ h => h) (yieldsIf_calc rfl (fun w => by unfold execOp; go_simp)) (by assumption) ?_; try simp only [Act.put, List.setIfInBounds_toArray, List.set_cons_zero, List.set_cons_succ, Array.toArray_toList]
                refine wpAnyH_takeD 1 (some 83) (v := (.int .i64 ((0 : Nat) : Int))) rfl rfl (by kernel_rfl) (by kernel_rfl) (by kernel_rfl) (fun _ _ _ h => h) (yieldsIf_calc rfl (fun w => by unfold execOp; go_simp)) (by assumption) ?_; try simp only [Act.put, List.setIfInBounds_toArray, List.set_cons_zero, List.set_cons_succ, Array.toArray_toList]
                refine wpAnyH_takeD 2 (some 84) (v := (.slice none 0 0)) rfl rfl (by kernel_rfl) (by kernel_rfl) (by kernel_rfl) (fun _ _ _ h => h) (yieldsIf_calc rfl (fun w => by unfold execOp; go_simp)) (by assumption) ?_; try simp only [Act.put, List.setIfInBounds_toArray, List.set_cons_zero, List.set_cons_succ, Array.toArray_toList]
                refine wpAnyH_takeD 4 (some 86) (v := (.int .i64 (i : Nat))) rfl rfl (by kernel_rfl) (by kernel_rfl) (by kernel_rfl) (fun _ _ _ h => h) (yieldsIf_calc rfl (fun w => by unfold execOp; go_simp)) (by assumption) ?_; try simp only [Act.put, List.setIfInBounds_toArray, List.set_cons_zero, List.set_cons_succ, Array.toArray_toList]
                refine wpAnyH_takeD 7 (some 89) (v := (.slice none 0 0)) rfl rfl (by kernel_rfl) (by kernel_rfl) (by kernel_rfl) (fun _ _ _ h => h) (yieldsIf_calc rfl (fun w => by unfold execOp; go_simp)) (by assumption) ?_; try simp only [Act.put, List.setIfInBounds_toArray, List.set_cons_zero, List.set_cons_succ, Array.toArray_toList]
                refine wpAnyH_takeD 8 (some 90) (v := (.int .i64 ((0 : Nat) : Int))) rfl rfl (by kernel_rfl) (by kernel_rfl) (by kernel_rfl) (fun _ _ _ h => h) (yieldsIf_calc rfl (fun w => by unfold execOp; go_simp)) (by assumption) ?_; try simp only [Act.put, List.setIfInBounds_toArray, List.set_cons_zero, List.set_cons_succ, Array.toArray_toList]
                refine wpAnyH_takeD 9 (some 91) (v := (.slice none 0 0)) rfl rfl (by kernel_rfl) (by kernel_rfl) (by kernel_rfl) (fun _ _ _ h => h) (yieldsIf_calc rfl (fun w => by unfold execOp; go_simp)) (by assumption) ?_; try simp only [Act.put, List.setIfInBounds_toArray, List.set_cons_zero, List.set_cons_succ, Array.toArray_toList]
                generalize wr.drew = D0 at *
                refine wpAnyH_two 3 5 rfl rfl (by kernel_rfl) (fun K' hK' => ?_) (fun K' hK' => ?_)
                · skip
                  refine ite_go rfl ?_
                  refine wp_append_ints (some 85) rfl D0 _ _ rfl D0.heap.size (.slice none 0 0) [] rfl (OwnI.nil _ _) none [] 0 0 rfl rfl (fun _ => ⟨rfl, rfl⟩) (fun _ e => nomatch e) ?_ (Nat.le_refl _) ?_
                  · have := hl32.out; simp only [List.length_nil, List.length_take, Nat.zero_add]; omega
                  intro va D1 hva hgD1
                  rw [List.nil_append] at hva
                  have hbD1 := below_grown hgD1
                  have hBD1 := bnext hBD0 hbD1
                  have hleD1 : D0.heap.size ≤ D1.heap.size := hbD1.size
                  refine hK'.out _ _ tt ?_; clear hK' K'; try simp only [Act.put, List.setIfInBounds_toArray, List.set_cons_zero, List.set_cons_succ, Array.toArray_toList]
                  refine wpAnyH_one 5 rfl (by kernel_rfl) (fun K' hK' => ?_)
                  go_simp
                  have hnD2 : Blk (D1.alloc (.cells #[.int .i64 (i : Nat)] 3)) D1.heap.size #[.int .i64 (i : Nat)] 3 := Blk.new _ _ _
                  have hbD2 := below_new (Below.refl D1.heap.size D1) (.cells #[.int .i64 (i : Nat)] 3)
                  have hBD2 := bnext hBD1 hbD2
                  replace hva := hva.below hbD2
                  have hleD2 := Nat.le_trans hleD1 hbD2.size
                  refine hK'.out _ _ tt ?_; clear hK' K'; try simp only [Act.put, List.setIfInBounds_toArray, List.set_cons_zero, List.set_cons_succ, Array.toArray_toList]
                  generalize D1.alloc (.cells #[.int .i64 (i : Nat)] 3) = D2 at *
                  generalize D1.heap.size = cn at *
                  refine wpAnyH_one 6 rfl (by kernel_rfl) (fun K' hK' => ?_)
                  refine ite_go rfl ?_
                  refine wp_append_ints (some 88) rfl D2 _ _ rfl D0.heap.size va [] rfl hva (some ⟨cn, 0, none⟩) [i] 1 1 rfl rfl (fun e => nomatch e) (fun p e j hj => by cases e; obtain rfl : j = 0 := (by simpa using hj); rw [Go.WideShapes.add_plain, Nat.zero_add, hnD2.cell]; rfl) ?_ hleD2 ?_
                  · have := hl32.out; simp only [List.length_nil, List.length_take, List.length_cons]; omega
                  intro vb D3 hvb hgD3
                  have hkD3 : KeepsP (fun b => va.ownBlock ≠ some b) D2 D3 := ⟨hgD3.os, hgD3.tape, hgD3.output, hgD3.size, fun b hb hk => hgD3.block b hb (fun e => hk e.symm)⟩
                  have hBD3 : Below w.heap.size w D3 := hBD2.trans ⟨hgD3.os, hgD3.tape, hgD3.output, hgD3.size, fun b hb => hgD3.block b (by have := hBD2.size; omega) (fun e => by have := (hva.lt b e.symm).1; have := hBD0.size; omega)⟩
                  have hleD3 := Nat.le_trans hleD2 hgD3.size
                  refine hK'.out _ _ tt ?_; clear hK' K'; try simp only [Act.put, List.setIfInBounds_toArray, List.set_cons_zero, List.set_cons_succ, Array.toArray_toList]
                  refine wpAnyH_one 10 rfl (by kernel_rfl) (fun K' hK' => ?_)
                  refine ite_go rfl ?_
                  refine wp_append_ints (some 92) rfl D3 _ _ rfl D0.heap.size vb ([] ++ [i]) rfl hvb none [] 0 0 rfl rfl (fun _ => ⟨rfl, rfl⟩) (fun _ e => nomatch e) ?_ hleD3 ?_
                  · have := hl32.out; simp only [List.length_append, List.length_take, List.length_drop, List.length_cons, List.length_nil]; omega
                  intro vc D4 hvc hgD4
                  have hBD4 : Below w.heap.size w D4 := hBD3.trans ⟨hgD4.os, hgD4.tape, hgD4.output, hgD4.size, fun b hb => hgD4.block b (by have := hBD3.size; omega) (fun e => by have := (hvb.lt b e.symm).1; have := hBD0.size; omega)⟩
                  refine hK'.out _ _ tt ?_; clear hK' K'; try simp only [Act.put, List.setIfInBounds_toArray, List.set_cons_zero, List.set_cons_succ, Array.toArray_toList]
                  refine wpAnyH_takeD 11 (some 6) (v := vc) rfl rfl (by kernel_rfl) (by kernel_rfl) (by kernel_rfl) (fun _ _ _ h => h) (yieldsIf_calc rfl (fun w => by unfold execOp; go_simp)) tt ?_; try simp only [Act.put, List.setIfInBounds_toArray, List.set_cons_zero, List.set_cons_succ, Array.toArray_toList]
                  refine wpAnyH_done (by kernel_rfl) ?_ _
                  clear hHeld tt
                  have hvd : OwnI D4 w.heap.size vc (ordU r S (i + 1)) := by rw [hnx.out]; exact OwnI.weaken (by simpa using hvc) hBD0.size
                  have HBL := hBD4
                  clear hvc hva hvb hBD0 hBD1 hBD2 hBD3 hBD4 hnD2 hleD1 hleD2 hleD3
                  go_wp2
                  exact ⟨⟨i + 1, by omega, by go_num, hvd, HBL⟩, by simp [intOf]; omega⟩
                · skip
                  go_simp
                  have hnD1 : Blk (D0.alloc (.cells #[.int .i64 (i : Nat)] 3)) D0.heap.size #[.int .i64 (i : Nat)] 3 := Blk.new _ _ _
                  have hbD1 := below_new (Below.refl D0.heap.size D0) (.cells #[.int .i64 (i : Nat)] 3)
                  have hBD1 := bnext hBD0 hbD1
                  refine hK'.out _ _ tt ?_; clear hK' K'; try simp only [Act.put, List.setIfInBounds_toArray, List.set_cons_zero, List.set_cons_succ, Array.toArray_toList]
                  generalize D0.alloc (.cells #[.int .i64 (i : Nat)] 3) = D1 at *
                  generalize D0.heap.size = cn at *
                  refine wpAnyH_one 3 rfl (by kernel_rfl) (fun K' hK' => ?_)
                  refine ite_go rfl ?_
                  refine wp_append_ints (some 85) rfl D1 _ _ rfl D1.heap.size (.slice none 0 0) [] rfl (OwnI.nil _ _) none [] 0 0 rfl rfl (fun _ => ⟨rfl, rfl⟩) (fun _ e => nomatch e) ?_ (Nat.le_refl _) ?_
                  · have := hl32.out; simp only [List.length_nil, List.length_take, Nat.zero_add]; omega
                  intro va D2 hva hgD2
                  rw [List.nil_append] at hva
                  have hbD2 := below_grown hgD2
                  have hBD2 := bnext hBD1 hbD2
                  have hleD2 : D1.heap.size ≤ D2.heap.size := hbD2.size
                  replace hnD1 := hnD1.below hbD2 hnD1.lt
                  refine hK'.out _ _ tt ?_; clear hK' K'; try simp only [Act.put, List.setIfInBounds_toArray, List.set_cons_zero, List.set_cons_succ, Array.toArray_toList]
                  refine wpAnyH_one 6 rfl (by kernel_rfl) (fun K' hK' => ?_)
                  refine ite_go rfl ?_
                  refine wp_append_ints (some 88) rfl D2 _ _ rfl D1.heap.size va [] rfl hva (some ⟨cn, 0, none⟩) [i] 1 1 rfl rfl (fun e => nomatch e) (fun p e j hj => by cases e; obtain rfl : j = 0 := (by simpa using hj); rw [Go.WideShapes.add_plain, Nat.zero_add, hnD1.cell]; rfl) ?_ hleD2 ?_
                  · have := hl32.out; simp only [List.length_nil, List.length_take, List.length_cons]; omega
                  intro vb D3 hvb hgD3
                  have hkD3 : KeepsP (fun b => va.ownBlock ≠ some b) D2 D3 := ⟨hgD3.os, hgD3.tape, hgD3.output, hgD3.size, fun b hb hk => hgD3.block b hb (fun e => hk e.symm)⟩
                  have hBD3 : Below w.heap.size w D3 := hBD2.trans ⟨hgD3.os, hgD3.tape, hgD3.output, hgD3.size, fun b hb => hgD3.block b (by have := hBD2.size; omega) (fun e => by have := (hva.lt b e.symm).1; have := hBD1.size; omega)⟩
                  have hleD3 := Nat.le_trans hleD2 hgD3.size
                  refine hK'.out _ _ tt ?_; clear hK' K'; try simp only [Act.put, List.setIfInBounds_toArray, List.set_cons_zero, List.set_cons_succ, Array.toArray_toList]
                  refine wpAnyH_one 10 rfl (by kernel_rfl) (fun K' hK' => ?_)
                  refine ite_go rfl ?_
                  refine wp_append_ints (some 92) rfl D3 _ _ rfl D1.heap.size vb ([] ++ [i]) rfl hvb none [] 0 0 rfl rfl (fun _ => ⟨rfl, rfl⟩) (fun _ e => nomatch e) ?_ hleD3 ?_
                  · have := hl32.out; simp only [List.length_append, List.length_take, List.length_drop, List.length_cons, List.length_nil]; omega
                  intro vc D4 hvc hgD4
                  have hBD4 : Below w.heap.size w D4 := hBD3.trans ⟨hgD4.os, hgD4.tape, hgD4.output, hgD4.size, fun b hb => hgD4.block b (by have := hBD3.size; omega) (fun e => by have := (hvb.lt b e.symm).1; have := hBD1.size; omega)⟩
                  refine hK'.out _ _ tt ?_; clear hK' K'; try simp only [Act.put, List.setIfInBounds_toArray, List.set_cons_zero, List.set_cons_succ, Array.toArray_toList]
                  refine wpAnyH_takeD 11 (some 6) (v := vc) rfl rfl (by kernel_rfl) (by kernel_rfl) (by kernel_rfl) (fun _ _ _ h => h) (yieldsIf_calc rfl (fun w => by unfold execOp; go_simp)) tt ?_; try simp only [Act.put, List.setIfInBounds_toArray, List.set_cons_zero, List.set_cons_succ, Array.toArray_toList]
                  refine wpAnyH_done (by kernel_rfl) ?_ _
                  clear hHeld tt
                  have hvd : OwnI D4 w.heap.size vc (ordU r S (i + 1)) := by rw [hnx.out]; exact OwnI.weaken (by simpa using hvc) hBD1.size
                  have HBL := hBD4
                  clear hvc hva hvb hBD0 hBD1 hBD2 hBD3 hBD4 hnD1 hleD2 hleD3
                  go_wp2
                  exact ⟨⟨i + 1, by omega, by go_num, hvd, HBL⟩, by simp [intOf]; omega⟩
            · obtain ⟨n1, hn1⟩ : ∃ n1, n1 = l.length := ⟨_, rfl⟩
              rw [← hn1] at hg3 hl32
              have hmem : ∀ j, j < l.length → l.getD j 0 ∈ l := fun j hj => by rw [List.getD_eq_getElem?_getD, List.getElem?_eq_getElem hj]; exact List.getElem_mem hj
              have hcellr := hx.out
              have hSb := fun j hj => (HM.out.bd j hj).2
              have hSc := HM.out.cell
              replace hcellr := Lib.hid hcellr
              replace hSb := Lib.hid hSb
              replace hSc := Lib.hid hSc
              replace hmem := Lib.hid hmem
              replace hcl0 : RowKit.Hid (∀ j, j < l.length → wr.cell? ⟨g, j, none⟩ = some (.int .i64 (l.getD j 0 : Nat))) := Lib.hid hcl0
              replace hF2 := Lib.hid hF2
              have HN := Lib.hid hn1
              clear hO c1 c2 hg1 hr0
              rw [← hn1]
              clear hn1
              have hcell := (hB.cell (p := ⟨kr, o + i, none⟩) hkr).trans (hx.out i hlt).1
              have hri := (hx.out i hlt).2
              have hsi := (HM.out.bd i hlt).2
              have hF1 : mt r S i = (r i, S i) := rfl
              rw [hF1] at F1
              replace hnext : RowKit.Hid (∀ k, insU r S l i n1 = k → ordU r S (i + 1) = l.take k ++ [i] ++ l.drop k) := Lib.hid (fun k hk => hnext.out k (by rw [← HN.out]; exact hk))
              replace hins : RowKit.Hid (∀ k, insU r S l i (k + 1) = if 0 < cmpF (r i, S i) (r (l.getD k 0), S (l.getD k 0)) then insU r S l i k else k + 1) := Lib.hid (fun k => hins.out k)
              replace hF2 : RowKit.Hid (∀ x, x < i → F64 (r x, S x)) := Lib.hid (fun x hx' => hF2.out x hx')
              have d2 := (hB.cell (p := ⟨mb, i, none⟩) hm).trans (hSc.out i hlt)
              have hcelli := hcellr.out i hlt
              clear hF1
              obtain ⟨ri, hri0⟩ : ∃ ri, ri = r i := ⟨_, rfl⟩
              obtain ⟨si, hsi0⟩ : ∃ si, si = S i := ⟨_, rfl⟩
              rw [← hri0] at hcell hri hz hrp hcelli F1 hins
              rw [← hsi0] at hsi d2 F1 hins
              replace hri0 := Lib.hid hri0
              replace hsi0 := Lib.hid hsi0
              go_wp2
              go_loopw [9] (fun u wr => ∃ k : Nat, k ≤ n1 ∧ u = .int .i64 k ∧ RowKit.Hid (insU r S l i n1 = insU r S l i k) ∧ RowKit.Hid (∀ j, j < l.length → wr.cell? ⟨g, j, none⟩ = some (.int .i64 (l.getD j 0 : Nat))) ∧ g < wr.heap.size ∧ Below w.heap.size w wr) (fun u _ => (intOf u).toNat)
              case atStart => exact ⟨n1, Nat.le_refl _, rfl, Lib.hid rfl, hcl0, hgl0, hB⟩
              case round =>
                clear hB hcell hcl0 hgl0 d2
                obtain ⟨k, hkn, rfl, hin, hcl0, hgl0, hB⟩ := hrel
                have hkt : RowKit.Hid ((l.take k).length = k) := Lib.hid (by rw [List.length_take]; have := HN.out; omega)
                have hkd : RowKit.Hid ((l.drop k).length = n1 - k) := Lib.hid (by rw [List.length_drop]; have := HN.out; omega)
                by_cases hk0 : k = 0
                · have hkz : ¬ (0 < (k : Int)) := by omega
                  have hnx := Lib.hid (hnext.out k (by rw [hin.out, hk0]; rfl))
                  clear hin hmm hins F1 hF2 hcelli hnext
                  subst hk0
                  simp only [List.take_zero, List.drop_zero, List.nil_append] at hnx
                  clear hkt hkd hkz
                  go_wp2
                  have tt : True := trivial
                  refine wp_region_held_drew (S := fun _ => True) (by kernel_rfl) tt (fun hHeld => ?_)
                  refine wpAnyH_takeD 0 (some 46) (v := (.int .i64 ((0 : Nat) : Int))) rfl rfl (by kernel_rfl) (by kernel_rfl) (by kernel_rfl) (fun _ _ _ h => h) (yieldsIf_calc rfl (fun w => by unfold execOp; go_simp)) (by assumption) ?_; try simp only [Act.put, List.setIfInBounds_toArray, List.set_cons_zero, List.set_cons_succ, Array.toArray_toList]
                  refine wpAnyH_takeD 1 (some 47) (v := (.bool false)) rfl rfl (by kernel_rfl) (by kernel_rfl) (by kernel_rfl) (fun _ _ _ h => h) (yieldsIf_calc rfl (fun w => by unfold execOp; go_simp)) (by assumption) ?_; try simp only [Act.put, List.setIfInBounds_toArray, List.set_cons_zero, List.set_cons_succ, Array.toArray_toList]
                  refine wpAnyH_takeD 2 (some 48) (v := (.bool false)) rfl rfl (by kernel_rfl) (by kernel_rfl) (by kernel_rfl) (fun _ _ _ h => h) (yieldsIf_calc rfl (fun w => by unfold execOp; go_simp)) (by assumption) ?_; try simp only [Act.put, List.setIfInBounds_toArray, List.set_cons_zero, List.set_cons_succ, Array.toArray_toList]
                  refine wpAnyH_takeD 3 (some 49) (v := undef) rfl rfl (by kernel_rfl) (by kernel_rfl) (by kernel_rfl) (fun _ _ _ h => h) (.inr ⟨rfl, rfl⟩) (by assumption) ?_; try simp only [Act.put, List.setIfInBounds_toArray, List.set_cons_zero, List.set_cons_succ, Array.toArray_toList]
                  refine wpAnyH_takeD 4 (some 50) (v := undef) rfl rfl (by kernel_rfl) (by kernel_rfl) (by kernel_rfl) (fun _ _ _ h => h) (.inr ⟨rfl, rfl⟩) (by assumption) ?_; try simp only [Act.put, List.setIfInBounds_toArray, List.set_cons_zero, List.set_cons_succ, Array.toArray_toList]
                  refine wpAnyH_takeD 5 (some 51) (v := undef) rfl rfl (by kernel_rfl) (by kernel_rfl) (by kernel_rfl) (fun _ _ _ h => h) (.inr ⟨rfl, rfl⟩) (by assumption) ?_; try simp only [Act.put, List.setIfInBounds_toArray, List.set_cons_zero, List.set_cons_succ, Array.toArray_toList]
                  refine wpAnyH_takeD 6 (some 52) (v := undef) rfl rfl (by kernel_rfl) (by kernel_rfl) (by kernel_rfl) (fun _ _ _ h => h) (.inr ⟨rfl, rfl⟩) (by assumption) ?_; try simp only [Act.put, List.setIfInBounds_toArray, List.set_cons_zero, List.set_cons_succ, Array.toArray_toList]
                  refine wpAnyH_takeD 7 (some 53) (v := undef) rfl rfl (by kernel_rfl) (by kernel_rfl) (by kernel_rfl) (fun _ _ _ h => h) (.inr ⟨rfl, rfl⟩) (by assumption) ?_; try simp only [Act.put, List.setIfInBounds_toArray, List.set_cons_zero, List.set_cons_succ, Array.toArray_toList]
                  refine wpAnyH_takeD 8 (some 54) (v := undef) rfl rfl (by kernel_rfl) (by kernel_rfl) (by kernel_rfl) (fun _ _ _ h => h) (.inr ⟨rfl, rfl⟩) (by assumption) ?_; try simp only [Act.put, List.setIfInBounds_toArray, List.set_cons_zero, List.set_cons_succ, Array.toArray_toList]
                  refine wpAnyH_takeD 9 (some 55) (v := undef) rfl rfl (by kernel_rfl) (by kernel_rfl) (by kernel_rfl) (fun _ _ _ h => h) (.inr ⟨rfl, rfl⟩) (by assumption) ?_; try simp only [Act.put, List.setIfInBounds_toArray, List.set_cons_zero, List.set_cons_succ, Array.toArray_toList]
                  refine wpAnyH_takeD 10 (some 56) (v := undef) rfl rfl (by kernel_rfl) (by kernel_rfl) (by kernel_rfl) (fun _ _ _ h => h) (.inr ⟨rfl, rfl⟩) (by assumption) ?_; try simp only [Act.put, List.setIfInBounds_toArray, List.set_cons_zero, List.set_cons_succ, Array.toArray_toList]
                  refine wpAnyH_takeD 11 (some 57) (v := undef) rfl rfl (by kernel_rfl) (by kernel_rfl) (by kernel_rfl) (fun _ _ _ h => h) (.inr ⟨rfl, rfl⟩) (by assumption) ?_; try simp only [Act.put, List.setIfInBounds_toArray, List.set_cons_zero, List.set_cons_succ, Array.toArray_toList]
                  refine wpAnyH_takeD 12 (some 58) (v := undef) rfl rfl (by kernel_rfl) (by kernel_rfl) (by kernel_rfl) (fun _ _ _ h => h) (.inr ⟨rfl, rfl⟩) (by assumption) ?_; try simp only [Act.put, List.setIfInBounds_toArray, List.set_cons_zero, List.set_cons_succ, Array.toArray_toList]
                  refine wpAnyH_takeD 13 (some 59) (v := undef) rfl rfl (by kernel_rfl) (by kernel_rfl) (by kernel_rfl) (fun _ _ _ h => h) (.inr ⟨rfl, rfl⟩) (by assumption) ?_; try simp only [Act.put, List.setIfInBounds_toArray, List.set_cons_zero, List.set_cons_succ, Array.toArray_toList]
                  refine wpAnyH_takeD 14 (some 60) (v := undef) rfl rfl (by kernel_rfl) (by kernel_rfl) (by kernel_rfl) (fun _ _ _ h => h) (.inr ⟨rfl, rfl⟩) (by assumption) ?_; try simp only [Act.put, List.setIfInBounds_toArray, List.set_cons_zero, List.set_cons_succ, Array.toArray_toList]
                  refine wpAnyH_takeD 15 (some 61) (v := undef) rfl rfl (by kernel_rfl) (by kernel_rfl) (by kernel_rfl) (fun _ _ _ h => h) (.inr ⟨rfl, rfl⟩) (by assumption) ?_; try simp only [Act.put, List.setIfInBounds_toArray, List.set_cons_zero, List.set_cons_succ, Array.toArray_toList]
                  refine wpAnyH_takeD 16 (some 62) (v := undef) rfl rfl (by kernel_rfl) (by kernel_rfl) (by kernel_rfl) (fun _ _ _ h => h) (.inr ⟨rfl, rfl⟩) (by assumption) ?_; try simp only [Act.put, List.setIfInBounds_toArray, List.set_cons_zero, List.set_cons_succ, Array.toArray_toList]
                  refine wpAnyH_takeD 17 (some 63) (v := undef) rfl rfl (by kernel_rfl) (by kernel_rfl) (by kernel_rfl) (fun _ _ _ h => h) (.inr ⟨rfl, rfl⟩) (by assumption) ?_; try simp only [Act.put, List.setIfInBounds_toArray, List.set_cons_zero, List.set_cons_succ, Array.toArray_toList]
                  refine wpAnyH_takeD 18 (some 64) (v := undef) rfl rfl (by kernel_rfl) (by kernel_rfl) (by kernel_rfl) (fun _ _ _ h => h) (.inr ⟨rfl, rfl⟩) (by assumption) ?_; try simp only [Act.put, List.setIfInBounds_toArray, List.set_cons_zero, List.set_cons_succ, Array.toArray_toList]
                  refine wpAnyH_takeD 19 (some 65) (v := undef) rfl rfl (by kernel_rfl) (by kernel_rfl) (by kernel_rfl) (fun _ _ _ h => h) (.inr ⟨rfl, rfl⟩) (by assumption) ?_; try simp only [Act.put, List.setIfInBounds_toArray, List.set_cons_zero, List.set_cons_succ, Array.toArray_toList]
                  refine wpAnyH_takeD 20 (some 66) (v := undef) rfl rfl (by kernel_rfl) (by kernel_rfl) (by kernel_rfl) (fun _ _ _ h => h) (.inr ⟨rfl, rfl⟩) (by assumption) ?_; try simp only [Act.put, List.setIfInBounds_toArray, List.set_cons_zero, List.set_cons_succ, Array.toArray_toList]
                  refine wpAnyH_takeD 21 (some 67) (v := undef) rfl rfl (by kernel_rfl) (by kernel_rfl) (by kernel_rfl) (fun _ _ _ h => h) (.inr ⟨rfl, rfl⟩) (by assumption) ?_; try simp only [Act.put, List.setIfInBounds_toArray, List.set_cons_zero, List.set_cons_succ, Array.toArray_toList]
                  refine wpAnyH_takeD 22 (some 68) (v := undef) rfl rfl (by kernel_rfl) (by kernel_rfl) (by kernel_rfl) (fun _ _ _ h => h) (.inr ⟨rfl, rfl⟩) (by assumption) ?_; try simp only [Act.put, List.setIfInBounds_toArray, List.set_cons_zero, List.set_cons_succ, Array.toArray_toList]
                  refine wpAnyH_takeD 23 (some 69) (v := undef) rfl rfl (by kernel_rfl) (by kernel_rfl) (by kernel_rfl) (fun _ _ _ h => h) (.inr ⟨rfl, rfl⟩) (by assumption) ?_; try simp only [Act.put, List.setIfInBounds_toArray, List.set_cons_zero, List.set_cons_succ, Array.toArray_toList]
                  refine wpAnyH_takeD 24 (some 70) (v := undef) rfl rfl (by kernel_rfl) (by kernel_rfl) (by kernel_rfl) (fun _ _ _ h => h) (.inr ⟨rfl, rfl⟩) (by assumption) ?_; try simp only [Act.put, List.setIfInBounds_toArray, List.set_cons_zero, List.set_cons_succ, Array.toArray_toList]
                  refine wpAnyH_takeD 25 (some 71) (v := undef) rfl rfl (by kernel_rfl) (by kernel_rfl) (by kernel_rfl) (fun _ _ _ h => h) (.inr ⟨rfl, rfl⟩) (by assumption) ?_; try simp only [Act.put, List.setIfInBounds_toArray, List.set_cons_zero, List.set_cons_succ, Array.toArray_toList]
                  refine wpAnyH_takeD 26 (some 72) (v := undef) rfl rfl (by kernel_rfl) (by kernel_rfl) (by kernel_rfl) (fun _ _ _ h => h) (.inr ⟨rfl, rfl⟩) (by assumption) ?_; try simp only [Act.put, List.setIfInBounds_toArray, List.set_cons_zero, List.set_cons_succ, Array.toArray_toList]
                  refine wpAnyH_takeD 27 (some 73) (v := undef) rfl rfl (by kernel_rfl) (by kernel_rfl) (by kernel_rfl) (fun _ _ _ h => h) (.inr ⟨rfl, rfl⟩) (by assumption) ?_; try simp only [Act.put, List.setIfInBounds_toArray, List.set_cons_zero, List.set_cons_succ, Array.toArray_toList]
                  refine wpAnyH_takeD 28 (some 74) (v := undef) rfl rfl (by kernel_rfl) (by kernel_rfl) (by kernel_rfl) (fun _ _ _ h => h) (.inr ⟨rfl, rfl⟩) (by assumption) ?_; try simp only [Act.put, List.setIfInBounds_toArray, List.set_cons_zero, List.set_cons_succ, Array.toArray_toList]
                  refine wpAnyH_takeD 29 (some 75) (v := undef) rfl rfl (by kernel_rfl) (by kernel_rfl) (by kernel_rfl) (fun _ _ _ h => h) (.inr ⟨rfl, rfl⟩) (by assumption) ?_; try simp only [Act.put, List.setIfInBounds_toArray, List.set_cons_zero, List.set_cons_succ, Array.toArray_toList]
                  refine wpAnyH_takeD 30 (some 76) (v := undef) rfl rfl (by kernel_rfl) (by kernel_rfl) (by kernel_rfl) (fun _ _ _ h => h) (.inr ⟨rfl, rfl⟩) (by assumption) ?_; try simp only [Act.put, List.setIfInBounds_toArray, List.set_cons_zero, List.set_cons_succ, Array.toArray_toList]
                  refine wpAnyH_takeD 31 (some 77) (v := undef) rfl rfl (by kernel_rfl) (by kernel_rfl) (by kernel_rfl) (fun _ _ _ h => h) (.inr ⟨rfl, rfl⟩) (by assumption) ?_; try simp only [Act.put, List.setIfInBounds_toArray, List.set_cons_zero, List.set_cons_succ, Array.toArray_toList]
                  refine wpAnyH_takeD 32 (some 78) (v := undef) rfl rfl (by kernel_rfl) (by kernel_rfl) (by kernel_rfl) (fun _ _ _ h => h) (.inr ⟨rfl, rfl⟩) (by assumption) ?_; try simp only [Act.put, List.setIfInBounds_toArray, List.set_cons_zero, List.set_cons_succ, Array.toArray_toList]
                  refine wpAnyH_takeD 33 (some 79) (v := (.bool false)) rfl rfl (by kernel_rfl) (by kernel_rfl) (by kernel_rfl) (fun _ _ _ h => h) (yieldsIf_calc rfl (fun w => by unfold execOp; go_simp)) (by assumption) ?_; try simp only [Act.put, List.setIfInBounds_toArray, List.set_cons_zero, List.set_cons_succ, Array.toArray_toList]
                  refine wpAnyH_done (by kernel_rfl) ?_ _
                  clear tt hHeld
                  replace hB := hB.drew
                  replace hcl0 : RowKit.Hid (∀ j, j < l.length → wr.drew.cell? ⟨g, j, none⟩ = some (.int .i64 (l.getD j 0 : Nat))) := hcl0
                  replace hgl0 : g < wr.drew.heap.size := hgl0
                  generalize wr.drew = wr at *
                  go_wp2
                  have tt : True := trivial
                  have hBD0 := hB.drew
                  have hclD0 : RowKit.Hid (∀ j, j < l.length → wr.drew.cell? ⟨g, j, none⟩ = some (.int .i64 (l.getD j 0 : Nat))) := hcl0
                  have hglD0 : g < wr.drew.heap.size := hgl0
                  refine wp_region_held_drew (S := fun _ => True) (by kernel_rfl) tt (fun hHeld => ?_)
                  refine wpAnyH_takeD 0 (some 82) (v := (.slice (some ⟨g, 0, none⟩) n1 cap)) rfl rfl (by kernel_rfl) (by kernel_rfl) (by kernel_rfl) (fun _ _ _ h => h) (yieldsIf_calc rfl (fun w => by unfold execOp; go_simp)) (by assumption) ?_; try simp only [Act.put, List.setIfInBounds_toArray, List.set_cons_zero, List.set_cons_succ, Array.toArray_toList]
                  refine wpAnyH_takeD 1 (some 83) (v := (.int .i64 ((0 : Nat) : Int))) rfl rfl (by kernel_rfl) (by kernel_rfl) (by kernel_rfl) (fun _ _ _ h => h) (yieldsIf_calc rfl (fun w => by unfold execOp; go_simp)) (by assumption) ?_; try simp only [Act.put, List.setIfInBounds_toArray, List.set_cons_zero, List.set_cons_succ, Array.toArray_toList]
                  refine wpAnyH_takeD 2 (some 84) (v := (.slice (some ⟨g, 0, none⟩) 0 cap)) rfl rfl (by kernel_rfl) (by kernel_rfl) (by kernel_rfl) (fun _ _ _ h => h) (yieldsIf_calc rfl (fun w => by unfold execOp; go_simp)) (by assumption) ?_; try simp only [Act.put, List.setIfInBounds_toArray, List.set_cons_zero, List.set_cons_succ, Array.toArray_toList]
                  refine wpAnyH_takeD 4 (some 86) (v := (.int .i64 (i : Nat))) rfl rfl (by kernel_rfl) (by kernel_rfl) (by kernel_rfl) (fun _ _ _ h => h) (yieldsIf_calc rfl (fun w => by unfold execOp; go_simp)) (by assumption) ?_; try simp only [Act.put, List.setIfInBounds_toArray, List.set_cons_zero, List.set_cons_succ, Array.toArray_toList]
                  refine wpAnyH_takeD 7 (some 89) (v := (.slice (some ⟨g, 0, none⟩) n1 cap)) rfl rfl (by kernel_rfl) (by kernel_rfl) (by kernel_rfl) (fun _ _ _ h => h) (yieldsIf_calc rfl (fun w => by unfold execOp; go_simp)) (by assumption) ?_; try simp only [Act.put, List.setIfInBounds_toArray, List.set_cons_zero, List.set_cons_succ, Array.toArray_toList]
                  refine wpAnyH_takeD 8 (some 90) (v := (.int .i64 ((0 : Nat) : Int))) rfl rfl (by kernel_rfl) (by kernel_rfl) (by kernel_rfl) (fun _ _ _ h => h) (yieldsIf_calc rfl (fun w => by unfold execOp; go_simp)) (by assumption) ?_; try simp only [Act.put, List.setIfInBounds_toArray, List.set_cons_zero, List.set_cons_succ, Array.toArray_toList]
                  refine wpAnyH_takeD 9 (some 91) (v := (.slice (some ⟨g, 0, none⟩) n1 cap)) rfl rfl (by kernel_rfl) (by kernel_rfl) (by kernel_rfl) (fun _ _ _ h => h) (yieldsIf_calc rfl (fun w => by unfold execOp; go_simp)) (by assumption) ?_; try simp only [Act.put, List.setIfInBounds_toArray, List.set_cons_zero, List.set_cons_succ, Array.toArray_toList]
                  generalize wr.drew = D0 at *
                  refine wpAnyH_two 3 5 rfl rfl (by kernel_rfl) (fun K' hK' => ?_) (fun K' hK' => ?_)
                  · skip
                    refine ite_go rfl ?_
                    refine wp_append_ints (some 85) rfl D0 _ _ rfl D0.heap.size (.slice none 0 0) [] rfl (OwnI.nil _ _) (some ⟨g, 0, none⟩) [] 0 cap rfl rfl (fun e => nomatch e) (fun p e j hj => by cases hj) ?_ (Nat.le_refl _) ?_
                    · have := hl32.out; have := HN.out; simp only [List.length_nil, List.length_take, Nat.zero_add]; omega
                    intro va D1 hva hgD1
                    rw [List.nil_append] at hva
                    have hbD1 := below_grown hgD1
                    have hBD1 := bnext hBD0 hbD1
                    have hleD1 : D0.heap.size ≤ D1.heap.size := hbD1.size
                    have hclD1 : RowKit.Hid (∀ j, j < l.length → D1.cell? ⟨g, j, none⟩ = some (.int .i64 (l.getD j 0 : Nat))) := Lib.hid (fun j hj => (hbD1.cell (p := ⟨g, j, none⟩) hglD0).trans (hclD0.out j hj)); have hglD1 := Nat.lt_of_lt_of_le hglD0 hbD1.size
                    refine hK'.out _ _ tt ?_; clear hK' K'; try simp only [Act.put, List.setIfInBounds_toArray, List.set_cons_zero, List.set_cons_succ, Array.toArray_toList]
                    refine wpAnyH_one 5 rfl (by kernel_rfl) (fun K' hK' => ?_)
                    go_simp
                    have hnD2 : Blk (D1.alloc (.cells #[.int .i64 (i : Nat)] 3)) D1.heap.size #[.int .i64 (i : Nat)] 3 := Blk.new _ _ _
                    have hbD2 := below_new (Below.refl D1.heap.size D1) (.cells #[.int .i64 (i : Nat)] 3)
                    have hBD2 := bnext hBD1 hbD2
                    replace hva := hva.below hbD2
                    have hleD2 := Nat.le_trans hleD1 hbD2.size
                    have hclD2 : RowKit.Hid (∀ j, j < l.length → (D1.alloc (.cells #[.int .i64 (i : Nat)] 3)).cell? ⟨g, j, none⟩ = some (.int .i64 (l.getD j 0 : Nat))) := Lib.hid (fun j hj => (hbD2.cell (p := ⟨g, j, none⟩) hglD1).trans (hclD1.out j hj)); have hglD2 := Nat.lt_of_lt_of_le hglD1 hbD2.size
                    refine hK'.out _ _ tt ?_; clear hK' K'; try simp only [Act.put, List.setIfInBounds_toArray, List.set_cons_zero, List.set_cons_succ, Array.toArray_toList]
                    generalize D1.alloc (.cells #[.int .i64 (i : Nat)] 3) = D2 at *
                    generalize D1.heap.size = cn at *
                    refine wpAnyH_one 6 rfl (by kernel_rfl) (fun K' hK' => ?_)
                    refine ite_go rfl ?_
                    refine wp_append_ints (some 88) rfl D2 _ _ rfl D0.heap.size va [] rfl hva (some ⟨cn, 0, none⟩) [i] 1 1 rfl rfl (fun e => nomatch e) (fun p e j hj => by cases e; obtain rfl : j = 0 := (by simpa using hj); rw [Go.WideShapes.add_plain, Nat.zero_add, hnD2.cell]; rfl) ?_ hleD2 ?_
                    · have := hl32.out; have := HN.out; simp only [List.length_nil, List.length_take, List.length_cons]; omega
                    intro vb D3 hvb hgD3
                    have hkD3 : KeepsP (fun b => va.ownBlock ≠ some b) D2 D3 := ⟨hgD3.os, hgD3.tape, hgD3.output, hgD3.size, fun b hb hk => hgD3.block b hb (fun e => hk e.symm)⟩
                    have hBD3 : Below w.heap.size w D3 := hBD2.trans ⟨hgD3.os, hgD3.tape, hgD3.output, hgD3.size, fun b hb => hgD3.block b (by have := hBD2.size; omega) (fun e => by have := (hva.lt b e.symm).1; have := hBD0.size; omega)⟩
                    have hleD3 := Nat.le_trans hleD2 hgD3.size
                    have hclD3 : RowKit.Hid (∀ j, j < l.length → D3.cell? ⟨g, j, none⟩ = some (.int .i64 (l.getD j 0 : Nat))) := Lib.hid (fun j hj => cell_keepsP (p := ⟨g, j, none⟩) (hclD2.out j hj) hkD3 hglD2 (fun e => by have := (hva.lt g e).1; omega)); have hglD3 := Nat.lt_of_lt_of_le hglD2 hkD3.size
                    refine hK'.out _ _ tt ?_; clear hK' K'; try simp only [Act.put, List.setIfInBounds_toArray, List.set_cons_zero, List.set_cons_succ, Array.toArray_toList]
                    refine wpAnyH_one 10 rfl (by kernel_rfl) (fun K' hK' => ?_)
                    refine ite_go rfl ?_
                    refine wp_append_ints (some 92) rfl D3 _ _ rfl D0.heap.size vb ([] ++ [i]) rfl hvb (some ⟨g, 0, none⟩) l n1 cap HN.out rfl (fun e => nomatch e) (fun p e j hj => by cases e; rw [Go.WideShapes.add_plain, Nat.zero_add]; exact (hclD3.out) j hj) ?_ hleD3 ?_
                    · have := hl32.out; have := HN.out; simp only [List.length_append, List.length_take, List.length_drop, List.length_cons, List.length_nil]; omega
                    intro vc D4 hvc hgD4
                    have hBD4 : Below w.heap.size w D4 := hBD3.trans ⟨hgD4.os, hgD4.tape, hgD4.output, hgD4.size, fun b hb => hgD4.block b (by have := hBD3.size; omega) (fun e => by have := (hvb.lt b e.symm).1; have := hBD0.size; omega)⟩
                    refine hK'.out _ _ tt ?_; clear hK' K'; try simp only [Act.put, List.setIfInBounds_toArray, List.set_cons_zero, List.set_cons_succ, Array.toArray_toList]
                    refine wpAnyH_takeD 11 (some 6) (v := vc) rfl rfl (by kernel_rfl) (by kernel_rfl) (by kernel_rfl) (fun _ _ _ h => h) (yieldsIf_calc rfl (fun w => by unfold execOp; go_simp)) tt ?_; try simp only [Act.put, List.setIfInBounds_toArray, List.set_cons_zero, List.set_cons_succ, Array.toArray_toList]
                    refine wpAnyH_done (by kernel_rfl) ?_ _
                    clear hHeld tt
                    have hvd : OwnI D4 w.heap.size vc (ordU r S (i + 1)) := by rw [hnx.out]; exact OwnI.weaken (by simpa using hvc) hBD0.size
                    have HBL := hBD4
                    clear hvc hva hvb hBD0 hBD1 hBD2 hBD3 hBD4 hnD2 hleD1 hleD2 hleD3
                    go_wp2
                    exact ⟨⟨i + 1, by omega, by go_num, hvd, HBL⟩, by simp [intOf]; omega⟩
                  · skip
                    go_simp
                    have hnD1 : Blk (D0.alloc (.cells #[.int .i64 (i : Nat)] 3)) D0.heap.size #[.int .i64 (i : Nat)] 3 := Blk.new _ _ _
                    have hbD1 := below_new (Below.refl D0.heap.size D0) (.cells #[.int .i64 (i : Nat)] 3)
                    have hBD1 := bnext hBD0 hbD1
                    have hclD1 : RowKit.Hid (∀ j, j < l.length → (D0.alloc (.cells #[.int .i64 (i : Nat)] 3)).cell? ⟨g, j, none⟩ = some (.int .i64 (l.getD j 0 : Nat))) := Lib.hid (fun j hj => (hbD1.cell (p := ⟨g, j, none⟩) hglD0).trans (hclD0.out j hj)); have hglD1 := Nat.lt_of_lt_of_le hglD0 hbD1.size
                    refine hK'.out _ _ tt ?_; clear hK' K'; try simp only [Act.put, List.setIfInBounds_toArray, List.set_cons_zero, List.set_cons_succ, Array.toArray_toList]
                    generalize D0.alloc (.cells #[.int .i64 (i : Nat)] 3) = D1 at *
                    generalize D0.heap.size = cn at *
                    refine wpAnyH_one 3 rfl (by kernel_rfl) (fun K' hK' => ?_)
                    refine ite_go rfl ?_
                    refine wp_append_ints (some 85) rfl D1 _ _ rfl D1.heap.size (.slice none 0 0) [] rfl (OwnI.nil _ _) (some ⟨g, 0, none⟩) [] 0 cap rfl rfl (fun e => nomatch e) (fun p e j hj => by cases hj) ?_ (Nat.le_refl _) ?_
                    · have := hl32.out; have := HN.out; simp only [List.length_nil, List.length_take, Nat.zero_add]; omega
                    intro va D2 hva hgD2
                    rw [List.nil_append] at hva
                    have hbD2 := below_grown hgD2
                    have hBD2 := bnext hBD1 hbD2
                    have hleD2 : D1.heap.size ≤ D2.heap.size := hbD2.size
                    have hclD2 : RowKit.Hid (∀ j, j < l.length → D2.cell? ⟨g, j, none⟩ = some (.int .i64 (l.getD j 0 : Nat))) := Lib.hid (fun j hj => (hbD2.cell (p := ⟨g, j, none⟩) hglD1).trans (hclD1.out j hj)); have hglD2 := Nat.lt_of_lt_of_le hglD1 hbD2.size
                    replace hnD1 := hnD1.below hbD2 hnD1.lt
                    refine hK'.out _ _ tt ?_; clear hK' K'; try simp only [Act.put, List.setIfInBounds_toArray, List.set_cons_zero, List.set_cons_succ, Array.toArray_toList]
                    refine wpAnyH_one 6 rfl (by kernel_rfl) (fun K' hK' => ?_)
                    refine ite_go rfl ?_
                    refine wp_append_ints (some 88) rfl D2 _ _ rfl D1.heap.size va [] rfl hva (some ⟨cn, 0, none⟩) [i] 1 1 rfl rfl (fun e => nomatch e) (fun p e j hj => by cases e; obtain rfl : j = 0 := (by simpa using hj); rw [Go.WideShapes.add_plain, Nat.zero_add, hnD1.cell]; rfl) ?_ hleD2 ?_
                    · have := hl32.out; have := HN.out; simp only [List.length_nil, List.length_take, List.length_cons]; omega
                    intro vb D3 hvb hgD3
                    have hkD3 : KeepsP (fun b => va.ownBlock ≠ some b) D2 D3 := ⟨hgD3.os, hgD3.tape, hgD3.output, hgD3.size, fun b hb hk => hgD3.block b hb (fun e => hk e.symm)⟩
                    have hBD3 : Below w.heap.size w D3 := hBD2.trans ⟨hgD3.os, hgD3.tape, hgD3.output, hgD3.size, fun b hb => hgD3.block b (by have := hBD2.size; omega) (fun e => by have := (hva.lt b e.symm).1; have := hBD1.size; omega)⟩
                    have hleD3 := Nat.le_trans hleD2 hgD3.size
                    have hclD3 : RowKit.Hid (∀ j, j < l.length → D3.cell? ⟨g, j, none⟩ = some (.int .i64 (l.getD j 0 : Nat))) := Lib.hid (fun j hj => cell_keepsP (p := ⟨g, j, none⟩) (hclD2.out j hj) hkD3 hglD2 (fun e => by have := (hva.lt g e).1; omega)); have hglD3 := Nat.lt_of_lt_of_le hglD2 hkD3.size
                    refine hK'.out _ _ tt ?_; clear hK' K'; try simp only [Act.put, List.setIfInBounds_toArray, List.set_cons_zero, List.set_cons_succ, Array.toArray_toList]
                    refine wpAnyH_one 10 rfl (by kernel_rfl) (fun K' hK' => ?_)
                    refine ite_go rfl ?_
                    refine wp_append_ints (some 92) rfl D3 _ _ rfl D1.heap.size vb ([] ++ [i]) rfl hvb (some ⟨g, 0, none⟩) l n1 cap HN.out rfl (fun e => nomatch e) (fun p e j hj => by cases e; rw [Go.WideShapes.add_plain, Nat.zero_add]; exact (hclD3.out) j hj) ?_ hleD3 ?_
                    · have := hl32.out; have := HN.out; simp only [List.length_append, List.length_take, List.length_drop, List.length_cons, List.length_nil]; omega
                    intro vc D4 hvc hgD4
                    have hBD4 : Below w.heap.size w D4 := hBD3.trans ⟨hgD4.os, hgD4.tape, hgD4.output, hgD4.size, fun b hb => hgD4.block b (by have := hBD3.size; omega) (fun e => by have := (hvb.lt b e.symm).1; have := hBD1.size; omega)⟩
                    refine hK'.out _ _ tt ?_; clear hK' K'; try simp only [Act.put, List.setIfInBounds_toArray, List.set_cons_zero, List.set_cons_succ, Array.toArray_toList]
                    refine wpAnyH_takeD 11 (some 6) (v := vc) rfl rfl (by kernel_rfl) (by kernel_rfl) (by kernel_rfl) (fun _ _ _ h => h) (yieldsIf_calc rfl (fun w => by unfold execOp; go_simp)) tt ?_; try simp only [Act.put, List.setIfInBounds_toArray, List.set_cons_zero, List.set_cons_succ, Array.toArray_toList]
                    refine wpAnyH_done (by kernel_rfl) ?_ _
                    clear hHeld tt
                    have hvd : OwnI D4 w.heap.size vc (ordU r S (i + 1)) := by rw [hnx.out]; exact OwnI.weaken (by simpa using hvc) hBD1.size
                    have HBL := hBD4
                    clear hvc hva hvb hBD0 hBD1 hBD2 hBD3 hBD4 hnD1 hleD2 hleD3
                    go_wp2
                    exact ⟨⟨i + 1, by omega, by go_num, hvd, HBL⟩, by simp [intOf]; omega⟩
                · obtain ⟨k1, hk1⟩ : ∃ k1, k = k1 + 1 := ⟨k - 1, by omega⟩
                  have j1 : (0 : Int) < (k : Int) := by omega
                  have hk1n : k1 < n1 := by omega
                  have hkl : k1 < l.length := by have := HN.out; omega
                  have i6 : IntKind.i64.wrap ((k : Int) - 1) = (k1 : Int) := by rw [show (k : Int) - 1 = (k1 : Int) by omega]; exact IntWalk.i64_in _ (by have := hl32.out; omega)
                  have hk1' := Lib.hid hk1
                  have hstep := hins.out k1
                  rw [← hk1] at hstep
                  have hxi := ((hmm.out _).1 (hmem.out k1 hkl)).1
                  have y3 := hcl0.out k1 hkl
                  generalize l.getD k1 0 = x at *
                  have hxn : x < n := by omega
                  obtain ⟨x1, x2⟩ := hcellr.out x hxn
                  have x3 := hSc.out x hxn
                  have x4 := hSb.out x hxn
                  have s0 : Rd8 wr.drew kr o mb g i k1 x ri si (r x) (S x) := ⟨(hB.drew.cell hkr).trans hcelli.1, (hB.drew.cell hm).trans (by rw [hsi0.out]; exact hSc.out i hlt), y3, (hB.drew.cell hkr).trans x1, (hB.drew.cell hm).trans x3, Nat.lt_of_lt_of_le hkr hB.size, Nat.lt_of_lt_of_le hm hB.size, hgl0⟩
                  have hcmp := refcmp_any (ri, si) (r x, S x) F1 (hF2.out x hxi)
                  generalize hrx : r x = rx at *
                  generalize hsx : S x = sx at *
                  generalize cmpF (ri, si) (rx, sx) = z at *
                  have i1 : IntKind.u64.wrap (ri : Int) = ri := IntWalk.u64_in _ (by omega)
                  have i2 : IntKind.u64.wrap (si : Int) = si := IntWalk.u64_in _ (by omega)
                  have i3 : IntKind.u64.wrap (rx : Int) = rx := IntWalk.u64_in _ (by omega)
                  have i4 : IntKind.u64.wrap (sx : Int) = sx := IntWalk.u64_in _ (by omega)
                  have hB0 := hB.drew
                  replace hcl0 : RowKit.Hid (∀ j, j < l.length → wr.drew.cell? ⟨g, j, none⟩ = some (.int .i64 (l.getD j 0 : Nat))) := hcl0
                  clear hk0 hk1 hF2 x1 x2 x3 x4 y3 hrx hsx hcelli F1 hB hgl0
                  have j0 : 0 < k := by have := hk1'.out; omega
                  have hkle : 1 ≤ k := by have := hk1'.out; omega
                  by_cases hzz : 0 < z
                  · rw [if_pos hzz] at hstep
                    replace hin : RowKit.Hid (insU r S l i n1 = insU r S l i k1) := Lib.hid (by rw [hin.out, hstep])
                    clear hstep hkt hkd hnext
                    go_wp2
                    refine wp_region_held_drew (S := fun w' => Rd8 w' kr o mb g i k1 x ri si rx sx) (by kernel_rfl) s0 (fun hHeld => ?_)
                    refine wpAnyH_takeD 0 (some 46) (v := (.int .i64 (k : Nat))) rfl rfl (by kernel_rfl) (by kernel_rfl) (by kernel_rfl) (fun _ _ _ h => h) (yieldsIf_calc rfl (fun w => by unfold execOp; go_simp)) (by assumption) ?_; try simp only [Act.put, List.setIfInBounds_toArray, List.set_cons_zero, List.set_cons_succ, Array.toArray_toList]
                    refine wpAnyH_takeD 1 (some 47) (v := (.bool true)) rfl rfl (by kernel_rfl) (by kernel_rfl) (by kernel_rfl) (fun _ _ _ h => h) (yieldsIf_calc rfl (fun w => by unfold execOp; go_simp)) (by assumption) ?_; try simp only [Act.put, List.setIfInBounds_toArray, List.set_cons_zero, List.set_cons_succ, Array.toArray_toList]
                    refine wpAnyH_takeD 2 (some 48) (v := (.bool true)) rfl rfl (by kernel_rfl) (by kernel_rfl) (by kernel_rfl) (fun _ _ _ h => h) (yieldsIf_calc rfl (fun w => by unfold execOp; go_simp)) (by assumption) ?_; try simp only [Act.put, List.setIfInBounds_toArray, List.set_cons_zero, List.set_cons_succ, Array.toArray_toList]
                    refine wpAnyH_takeD 3 (some 49) (v := (.slice (some ⟨kr, o, none⟩) n c)) rfl rfl (by kernel_rfl) (by kernel_rfl) (by kernel_rfl) (fun _ _ _ h => h) (yieldsIf_calc rfl (fun w => by unfold execOp; go_simp)) (by assumption) ?_; try simp only [Act.put, List.setIfInBounds_toArray, List.set_cons_zero, List.set_cons_succ, Array.toArray_toList]
                    refine wpAnyH_takeD 4 (some 50) (v := (.int .i64 (i : Nat))) rfl rfl (by kernel_rfl) (by kernel_rfl) (by kernel_rfl) (fun _ _ _ h => h) (yieldsIf_calc rfl (fun w => by unfold execOp; go_simp)) (by assumption) ?_; try simp only [Act.put, List.setIfInBounds_toArray, List.set_cons_zero, List.set_cons_succ, Array.toArray_toList]
                    refine wpAnyH_takeD 5 (some 51) (v := (.pointer (some ⟨kr, o + i, none⟩))) rfl rfl (by kernel_rfl) (by kernel_rfl) (by kernel_rfl) (fun _ _ _ h => h) (yieldsIf_calc rfl (fun w => by unfold execOp; go_simp)) (by assumption) ?_; try simp only [Act.put, List.setIfInBounds_toArray, List.set_cons_zero, List.set_cons_succ, Array.toArray_toList]
                    refine wpAnyH_takeD 6 (some 52) (v := (.int .i64 (ri : Nat))) rfl rfl (by kernel_rfl) (by kernel_rfl) (by kernel_rfl) (fun _ _ _ h => h) (.inl ⟨rfl, fun w hSw => by obtain ⟨y1, y2, y3, y4, y5, _, _, _⟩ := hSw; unfold execOp; go_simp⟩) (by assumption) ?_; try simp only [Act.put, List.setIfInBounds_toArray, List.set_cons_zero, List.set_cons_succ, Array.toArray_toList]
                    refine wpAnyH_takeD 7 (some 53) (v := (.int .u64 (ri : Nat))) rfl rfl (by kernel_rfl) (by kernel_rfl) (by kernel_rfl) (fun _ _ _ h => h) (yieldsIf_calc rfl (fun w => by unfold execOp; go_simp)) (by assumption) ?_; try simp only [Act.put, List.setIfInBounds_toArray, List.set_cons_zero, List.set_cons_succ, Array.toArray_toList]
                    refine wpAnyH_takeD 8 (some 54) (v := (.slice (some ⟨mb, 0, none⟩) n mc)) rfl rfl (by kernel_rfl) (by kernel_rfl) (by kernel_rfl) (fun _ _ _ h => h) (yieldsIf_calc rfl (fun w => by unfold execOp; go_simp)) (by assumption) ?_; try simp only [Act.put, List.setIfInBounds_toArray, List.set_cons_zero, List.set_cons_succ, Array.toArray_toList]
                    refine wpAnyH_takeD 9 (some 55) (v := (.int .i64 (i : Nat))) rfl rfl (by kernel_rfl) (by kernel_rfl) (by kernel_rfl) (fun _ _ _ h => h) (yieldsIf_calc rfl (fun w => by unfold execOp; go_simp)) (by assumption) ?_; try simp only [Act.put, List.setIfInBounds_toArray, List.set_cons_zero, List.set_cons_succ, Array.toArray_toList]
                    refine wpAnyH_takeD 10 (some 56) (v := (.pointer (some ⟨mb, i, none⟩))) rfl rfl (by kernel_rfl) (by kernel_rfl) (by kernel_rfl) (fun _ _ _ h => h) (yieldsIf_calc rfl (fun w => by unfold execOp; go_simp)) (by assumption) ?_; try simp only [Act.put, List.setIfInBounds_toArray, List.set_cons_zero, List.set_cons_succ, Array.toArray_toList]
                    refine wpAnyH_takeD 11 (some 57) (v := (.int .i64 (si : Nat))) rfl rfl (by kernel_rfl) (by kernel_rfl) (by kernel_rfl) (fun _ _ _ h => h) (.inl ⟨rfl, fun w hSw => by obtain ⟨y1, y2, y3, y4, y5, _, _, _⟩ := hSw; unfold execOp; go_simp⟩) (by assumption) ?_; try simp only [Act.put, List.setIfInBounds_toArray, List.set_cons_zero, List.set_cons_succ, Array.toArray_toList]
                    refine wpAnyH_takeD 12 (some 58) (v := (.int .u64 (si : Nat))) rfl rfl (by kernel_rfl) (by kernel_rfl) (by kernel_rfl) (fun _ _ _ h => h) (yieldsIf_calc rfl (fun w => by unfold execOp; go_simp)) (by assumption) ?_; try simp only [Act.put, List.setIfInBounds_toArray, List.set_cons_zero, List.set_cons_succ, Array.toArray_toList]
                    refine wpAnyH_takeD 13 (some 59) (v := (.slice (some ⟨kr, o, none⟩) n c)) rfl rfl (by kernel_rfl) (by kernel_rfl) (by kernel_rfl) (fun _ _ _ h => h) (yieldsIf_calc rfl (fun w => by unfold execOp; go_simp)) (by assumption) ?_; try simp only [Act.put, List.setIfInBounds_toArray, List.set_cons_zero, List.set_cons_succ, Array.toArray_toList]
                    refine wpAnyH_takeD 14 (some 60) (v := (.slice (some ⟨g, 0, none⟩) n1 cap)) rfl rfl (by kernel_rfl) (by kernel_rfl) (by kernel_rfl) (fun _ _ _ h => h) (yieldsIf_calc rfl (fun w => by unfold execOp; go_simp)) (by assumption) ?_; try simp only [Act.put, List.setIfInBounds_toArray, List.set_cons_zero, List.set_cons_succ, Array.toArray_toList]
                    refine wpAnyH_takeD 15 (some 61) (v := (.int .i64 (k : Nat))) rfl rfl (by kernel_rfl) (by kernel_rfl) (by kernel_rfl) (fun _ _ _ h => h) (yieldsIf_calc rfl (fun w => by unfold execOp; go_simp)) (by assumption) ?_; try simp only [Act.put, List.setIfInBounds_toArray, List.set_cons_zero, List.set_cons_succ, Array.toArray_toList]
                    refine wpAnyH_takeD 16 (some 62) (v := (.int .i64 (k1 : Nat))) rfl rfl (by kernel_rfl) (by kernel_rfl) (by kernel_rfl) (fun _ _ _ h => h) (yieldsIf_calc rfl (fun w => by unfold execOp; go_simp)) (by assumption) ?_; try simp only [Act.put, List.setIfInBounds_toArray, List.set_cons_zero, List.set_cons_succ, Array.toArray_toList]
                    refine wpAnyH_takeD 17 (some 63) (v := (.pointer (some ⟨g, k1, none⟩))) rfl rfl (by kernel_rfl) (by kernel_rfl) (by kernel_rfl) (fun _ _ _ h => h) (yieldsIf_calc rfl (fun w => by unfold execOp; go_simp)) (by assumption) ?_; try simp only [Act.put, List.setIfInBounds_toArray, List.set_cons_zero, List.set_cons_succ, Array.toArray_toList]
                    refine wpAnyH_takeD 18 (some 64) (v := (.int .i64 (x : Nat))) rfl rfl (by kernel_rfl) (by kernel_rfl) (by kernel_rfl) (fun _ _ _ h => h) (.inl ⟨rfl, fun w hSw => by obtain ⟨y1, y2, y3, y4, y5, _, _, _⟩ := hSw; unfold execOp; go_simp⟩) (by assumption) ?_; try simp only [Act.put, List.setIfInBounds_toArray, List.set_cons_zero, List.set_cons_succ, Array.toArray_toList]
                    refine wpAnyH_takeD 19 (some 65) (v := (.pointer (some ⟨kr, o + x, none⟩))) rfl rfl (by kernel_rfl) (by kernel_rfl) (by kernel_rfl) (fun _ _ _ h => h) (yieldsIf_calc rfl (fun w => by unfold execOp; go_simp)) (by assumption) ?_; try simp only [Act.put, List.setIfInBounds_toArray, List.set_cons_zero, List.set_cons_succ, Array.toArray_toList]
                    refine wpAnyH_takeD 20 (some 66) (v := (.int .i64 (rx : Nat))) rfl rfl (by kernel_rfl) (by kernel_rfl) (by kernel_rfl) (fun _ _ _ h => h) (.inl ⟨rfl, fun w hSw => by obtain ⟨y1, y2, y3, y4, y5, _, _, _⟩ := hSw; unfold execOp; go_simp⟩) (by assumption) ?_; try simp only [Act.put, List.setIfInBounds_toArray, List.set_cons_zero, List.set_cons_succ, Array.toArray_toList]
                    refine wpAnyH_takeD 21 (some 67) (v := (.int .u64 (rx : Nat))) rfl rfl (by kernel_rfl) (by kernel_rfl) (by kernel_rfl) (fun _ _ _ h => h) (yieldsIf_calc rfl (fun w => by unfold execOp; go_simp)) (by assumption) ?_; try simp only [Act.put, List.setIfInBounds_toArray, List.set_cons_zero, List.set_cons_succ, Array.toArray_toList]
                    refine wpAnyH_takeD 22 (some 68) (v := (.slice (some ⟨mb, 0, none⟩) n mc)) rfl rfl (by kernel_rfl) (by kernel_rfl) (by kernel_rfl) (fun _ _ _ h => h) (yieldsIf_calc rfl (fun w => by unfold execOp; go_simp)) (by assumption) ?_; try simp only [Act.put, List.setIfInBounds_toArray, List.set_cons_zero, List.set_cons_succ, Array.toArray_toList]
                    refine wpAnyH_takeD 23 (some 69) (v := (.slice (some ⟨g, 0, none⟩) n1 cap)) rfl rfl (by kernel_rfl) (by kernel_rfl) (by kernel_rfl) (fun _ _ _ h => h) (yieldsIf_calc rfl (fun w => by unfold execOp; go_simp)) (by assumption) ?_; try simp only [Act.put, List.setIfInBounds_toArray, List.set_cons_zero, List.set_cons_succ, Array.toArray_toList]
                    refine wpAnyH_takeD 24 (some 70) (v := (.int .i64 (k : Nat))) rfl rfl (by kernel_rfl) (by kernel_rfl) (by kernel_rfl) (fun _ _ _ h => h) (yieldsIf_calc rfl (fun w => by unfold execOp; go_simp)) (by assumption) ?_; try simp only [Act.put, List.setIfInBounds_toArray, List.set_cons_zero, List.set_cons_succ, Array.toArray_toList]
                    refine wpAnyH_takeD 25 (some 71) (v := (.int .i64 (k1 : Nat))) rfl rfl (by kernel_rfl) (by kernel_rfl) (by kernel_rfl) (fun _ _ _ h => h) (yieldsIf_calc rfl (fun w => by unfold execOp; go_simp)) (by assumption) ?_; try simp only [Act.put, List.setIfInBounds_toArray, List.set_cons_zero, List.set_cons_succ, Array.toArray_toList]
                    refine wpAnyH_takeD 26 (some 72) (v := (.pointer (some ⟨g, k1, none⟩))) rfl rfl (by kernel_rfl) (by kernel_rfl) (by kernel_rfl) (fun _ _ _ h => h) (yieldsIf_calc rfl (fun w => by unfold execOp; go_simp)) (by assumption) ?_; try simp only [Act.put, List.setIfInBounds_toArray, List.set_cons_zero, List.set_cons_succ, Array.toArray_toList]
                    refine wpAnyH_takeD 27 (some 73) (v := (.int .i64 (x : Nat))) rfl rfl (by kernel_rfl) (by kernel_rfl) (by kernel_rfl) (fun _ _ _ h => h) (.inl ⟨rfl, fun w hSw => by obtain ⟨y1, y2, y3, y4, y5, _, _, _⟩ := hSw; unfold execOp; go_simp⟩) (by assumption) ?_; try simp only [Act.put, List.setIfInBounds_toArray, List.set_cons_zero, List.set_cons_succ, Array.toArray_toList]
                    refine wpAnyH_takeD 28 (some 74) (v := (.pointer (some ⟨mb, x, none⟩))) rfl rfl (by kernel_rfl) (by kernel_rfl) (by kernel_rfl) (fun _ _ _ h => h) (yieldsIf_calc rfl (fun w => by unfold execOp; go_simp)) (by assumption) ?_; try simp only [Act.put, List.setIfInBounds_toArray, List.set_cons_zero, List.set_cons_succ, Array.toArray_toList]
                    refine wpAnyH_takeD 29 (some 75) (v := (.int .i64 (sx : Nat))) rfl rfl (by kernel_rfl) (by kernel_rfl) (by kernel_rfl) (fun _ _ _ h => h) (.inl ⟨rfl, fun w hSw => by obtain ⟨y1, y2, y3, y4, y5, _, _, _⟩ := hSw; unfold execOp; go_simp⟩) (by assumption) ?_; try simp only [Act.put, List.setIfInBounds_toArray, List.set_cons_zero, List.set_cons_succ, Array.toArray_toList]
                    refine wpAnyH_takeD 30 (some 76) (v := (.int .u64 (sx : Nat))) rfl rfl (by kernel_rfl) (by kernel_rfl) (by kernel_rfl) (fun _ _ _ h => h) (yieldsIf_calc rfl (fun w => by unfold execOp; go_simp)) (by assumption) ?_; try simp only [Act.put, List.setIfInBounds_toArray, List.set_cons_zero, List.set_cons_succ, Array.toArray_toList]
                    refine wpAnyH_one 31 rfl (by kernel_rfl) (fun K' hK' => ?_)
                    go_simp
                    (go_at_call 55; (with_reducible refine (hcmp _).mono ?_); rintro e w1 ⟨rfl, hw1⟩; have s1 := s0.below hw1; replace hB0 := bnext hB0 hw1; have hcl1 : RowKit.Hid (∀ j, j < l.length → w1.cell? ⟨g, j, none⟩ = some (.int .i64 (l.getD j 0 : Nat))) := Lib.hid (fun j hj => (hw1.cell (p := ⟨g, j, none⟩) s0.l3).trans (hcl0.out j hj)))
                    go_wp2
                    refine hK'.out _ _ (s1) ?_; clear hK' K'; try simp only [Act.put, List.setIfInBounds_toArray, List.set_cons_zero, List.set_cons_succ, Array.toArray_toList]
                    refine wpAnyH_takeD 32 (some 78) (v := (.bool true)) rfl rfl (by kernel_rfl) (by kernel_rfl) (by kernel_rfl) (fun _ _ _ h => h) (yieldsIf_calc rfl (fun w => by unfold execOp; go_simp)) (by assumption) ?_; try simp only [Act.put, List.setIfInBounds_toArray, List.set_cons_zero, List.set_cons_succ, Array.toArray_toList]
                    refine wpAnyH_takeD 33 (some 79) (v := (.bool true)) rfl rfl (by kernel_rfl) (by kernel_rfl) (by kernel_rfl) (fun _ _ _ h => h) (yieldsIf_calc rfl (fun w => by unfold execOp; go_simp)) (by assumption) ?_; try simp only [Act.put, List.setIfInBounds_toArray, List.set_cons_zero, List.set_cons_succ, Array.toArray_toList]
                    refine wpAnyH_done (by kernel_rfl) ?_ _
                    clear hHeld s0 hcl0
                    have hgl1 := s1.l3
                    clear s1
                    go_wp2
                    exact ⟨⟨k1, by omega, rfl, hin, hcl1, hgl1, hB0⟩, by simp [intOf]; have := hk1'.out; omega⟩
                  · rw [if_neg hzz] at hstep
                    have hnx := Lib.hid (hnext.out k (by rw [hin.out, hstep, hk1'.out]))
                    clear hin hmm hins hnext hstep
                    go_wp2
                    refine wp_region_held_drew (S := fun w' => Rd8 w' kr o mb g i k1 x ri si rx sx) (by kernel_rfl) s0 (fun hHeld => ?_)
                    refine wpAnyH_takeD 0 (some 46) (v := (.int .i64 (k : Nat))) rfl rfl (by kernel_rfl) (by kernel_rfl) (by kernel_rfl) (fun _ _ _ h => h) (yieldsIf_calc rfl (fun w => by unfold execOp; go_simp)) (by assumption) ?_; try simp only [Act.put, List.setIfInBounds_toArray, List.set_cons_zero, List.set_cons_succ, Array.toArray_toList]
                    refine wpAnyH_takeD 1 (some 47) (v := (.bool true)) rfl rfl (by kernel_rfl) (by kernel_rfl) (by kernel_rfl) (fun _ _ _ h => h) (yieldsIf_calc rfl (fun w => by unfold execOp; go_simp)) (by assumption) ?_; try simp only [Act.put, List.setIfInBounds_toArray, List.set_cons_zero, List.set_cons_succ, Array.toArray_toList]
                    refine wpAnyH_takeD 2 (some 48) (v := (.bool true)) rfl rfl (by kernel_rfl) (by kernel_rfl) (by kernel_rfl) (fun _ _ _ h => h) (yieldsIf_calc rfl (fun w => by unfold execOp; go_simp)) (by assumption) ?_; try simp only [Act.put, List.setIfInBounds_toArray, List.set_cons_zero, List.set_cons_succ, Array.toArray_toList]
                    refine wpAnyH_takeD 3 (some 49) (v := (.slice (some ⟨kr, o, none⟩) n c)) rfl rfl (by kernel_rfl) (by kernel_rfl) (by kernel_rfl) (fun _ _ _ h => h) (yieldsIf_calc rfl (fun w => by unfold execOp; go_simp)) (by assumption) ?_; try simp only [Act.put, List.setIfInBounds_toArray, List.set_cons_zero, List.set_cons_succ, Array.toArray_toList]
                    refine wpAnyH_takeD 4 (some 50) (v := (.int .i64 (i : Nat))) rfl rfl (by kernel_rfl) (by kernel_rfl) (by kernel_rfl) (fun _ _ _ h => h) (yieldsIf_calc rfl (fun w => by unfold execOp; go_simp)) (by assumption) ?_; try simp only [Act.put, List.setIfInBounds_toArray, List.set_cons_zero, List.set_cons_succ, Array.toArray_toList]
                    refine wpAnyH_takeD 5 (some 51) (v := (.pointer (some ⟨kr, o + i, none⟩))) rfl rfl (by kernel_rfl) (by kernel_rfl) (by kernel_rfl) (fun _ _ _ h => h) (yieldsIf_calc rfl (fun w => by unfold execOp; go_simp)) (by assumption) ?_; try simp only [Act.put, List.setIfInBounds_toArray, List.set_cons_zero, List.set_cons_succ, Array.toArray_toList]
                    refine wpAnyH_takeD 6 (some 52) (v := (.int .i64 (ri : Nat))) rfl rfl (by kernel_rfl) (by kernel_rfl) (by kernel_rfl) (fun _ _ _ h => h) (.inl ⟨rfl, fun w hSw => by obtain ⟨y1, y2, y3, y4, y5, _, _, _⟩ := hSw; unfold execOp; go_simp⟩) (by assumption) ?_; try simp only [Act.put, List.setIfInBounds_toArray, List.set_cons_zero, List.set_cons_succ, Array.toArray_toList]
                    refine wpAnyH_takeD 7 (some 53) (v := (.int .u64 (ri : Nat))) rfl rfl (by kernel_rfl) (by kernel_rfl) (by kernel_rfl) (fun _ _ _ h => h) (yieldsIf_calc rfl (fun w => by unfold execOp; go_simp)) (by assumption) ?_; try simp only [Act.put, List.setIfInBounds_toArray, List.set_cons_zero, List.set_cons_succ, Array.toArray_toList]
                    refine wpAnyH_takeD 8 (some 54) (v := (.slice (some ⟨mb, 0, none⟩) n mc)) rfl rfl (by kernel_rfl) (by kernel_rfl) (by kernel_rfl) (fun _ _ _ h => h) (yieldsIf_calc rfl (fun w => by unfold execOp; go_simp)) (by assumption) ?_; try simp only [Act.put, List.setIfInBounds_toArray, List.set_cons_zero, List.set_cons_succ, Array.toArray_toList]
                    refine wpAnyH_takeD 9 (some 55) (v := (.int .i64 (i : Nat))) rfl rfl (by kernel_rfl) (by kernel_rfl) (by kernel_rfl) (fun _ _ _ h => h) (yieldsIf_calc rfl (fun w => by unfold execOp; go_simp)) (by assumption) ?_; try simp only [Act.put, List.setIfInBounds_toArray, List.set_cons_zero, List.set_cons_succ, Array.toArray_toList]
                    refine wpAnyH_takeD 10 (some 56) (v := (.pointer (some ⟨mb, i, none⟩))) rfl rfl (by kernel_rfl) (by kernel_rfl) (by kernel_rfl) (fun _ _ _ h => h) (yieldsIf_calc rfl (fun w => by unfold execOp; go_simp)) (by assumption) ?_; try simp only [Act.put, List.setIfInBounds_toArray, List.set_cons_zero, List.set_cons_succ, Array.toArray_toList]
                    refine wpAnyH_takeD 11 (some 57) (v := (.int .i64 (si : Nat))) rfl rfl (by kernel_rfl) (by kernel_rfl) (by kernel_rfl) (fun _ _ _ h => h) (.inl ⟨rfl, fun w hSw => by obtain ⟨y1, y2, y3, y4, y5, _, _, _⟩ := hSw; unfold execOp; go_simp⟩) (by assumption) ?_; try simp only [Act.put, List.setIfInBounds_toArray, List.set_cons_zero, List.set_cons_succ, Array.toArray_toList]
                    refine wpAnyH_takeD 12 (some 58) (v := (.int .u64 (si : Nat))) rfl rfl (by kernel_rfl) (by kernel_rfl) (by kernel_rfl) (fun _ _ _ h => h) (yieldsIf_calc rfl (fun w => by unfold execOp; go_simp)) (by assumption) ?_; try simp only [Act.put, List.setIfInBounds_toArray, List.set_cons_zero, List.set_cons_succ, Array.toArray_toList]
                    refine wpAnyH_takeD 13 (some 59) (v := (.slice (some ⟨kr, o, none⟩) n c)) rfl rfl (by kernel_rfl) (by kernel_rfl) (by kernel_rfl) (fun _ _ _ h => h) (yieldsIf_calc rfl (fun w => by unfold execOp; go_simp)) (by assumption) ?_; try simp only [Act.put, List.setIfInBounds_toArray, List.set_cons_zero, List.set_cons_succ, Array.toArray_toList]
                    refine wpAnyH_takeD 14 (some 60) (v := (.slice (some ⟨g, 0, none⟩) n1 cap)) rfl rfl (by kernel_rfl) (by kernel_rfl) (by kernel_rfl) (fun _ _ _ h => h) (yieldsIf_calc rfl (fun w => by unfold execOp; go_simp)) (by assumption) ?_; try simp only [Act.put, List.setIfInBounds_toArray, List.set_cons_zero, List.set_cons_succ, Array.toArray_toList]
                    refine wpAnyH_takeD 15 (some 61) (v := (.int .i64 (k : Nat))) rfl rfl (by kernel_rfl) (by kernel_rfl) (by kernel_rfl) (fun _ _ _ h => h) (yieldsIf_calc rfl (fun w => by unfold execOp; go_simp)) (by assumption) ?_; try simp only [Act.put, List.setIfInBounds_toArray, List.set_cons_zero, List.set_cons_succ, Array.toArray_toList]
                    refine wpAnyH_takeD 16 (some 62) (v := (.int .i64 (k1 : Nat))) rfl rfl (by kernel_rfl) (by kernel_rfl) (by kernel_rfl) (fun _ _ _ h => h) (yieldsIf_calc rfl (fun w => by unfold execOp; go_simp)) (by assumption) ?_; try simp only [Act.put, List.setIfInBounds_toArray, List.set_cons_zero, List.set_cons_succ, Array.toArray_toList]
                    refine wpAnyH_takeD 17 (some 63) (v := (.pointer (some ⟨g, k1, none⟩))) rfl rfl (by kernel_rfl) (by kernel_rfl) (by kernel_rfl) (fun _ _ _ h => h) (yieldsIf_calc rfl (fun w => by unfold execOp; go_simp)) (by assumption) ?_; try simp only [Act.put, List.setIfInBounds_toArray, List.set_cons_zero, List.set_cons_succ, Array.toArray_toList]
                    refine wpAnyH_takeD 18 (some 64) (v := (.int .i64 (x : Nat))) rfl rfl (by kernel_rfl) (by kernel_rfl) (by kernel_rfl) (fun _ _ _ h => h) (.inl ⟨rfl, fun w hSw => by obtain ⟨y1, y2, y3, y4, y5, _, _, _⟩ := hSw; unfold execOp; go_simp⟩) (by assumption) ?_; try simp only [Act.put, List.setIfInBounds_toArray, List.set_cons_zero, List.set_cons_succ, Array.toArray_toList]
                    refine wpAnyH_takeD 19 (some 65) (v := (.pointer (some ⟨kr, o + x, none⟩))) rfl rfl (by kernel_rfl) (by kernel_rfl) (by kernel_rfl) (fun _ _ _ h => h) (yieldsIf_calc rfl (fun w => by unfold execOp; go_simp)) (by assumption) ?_; try simp only [Act.put, List.setIfInBounds_toArray, List.set_cons_zero, List.set_cons_succ, Array.toArray_toList]
                    refine wpAnyH_takeD 20 (some 66) (v := (.int .i64 (rx : Nat))) rfl rfl (by kernel_rfl) (by kernel_rfl) (by kernel_rfl) (fun _ _ _ h => h) (.inl ⟨rfl, fun w hSw => by obtain ⟨y1, y2, y3, y4, y5, _, _, _⟩ := hSw; unfold execOp; go_simp⟩) (by assumption) ?_; try simp only [Act.put, List.setIfInBounds_toArray, List.set_cons_zero, List.set_cons_succ, Array.toArray_toList]
                    refine wpAnyH_takeD 21 (some 67) (v := (.int .u64 (rx : Nat))) rfl rfl (by kernel_rfl) (by kernel_rfl) (by kernel_rfl) (fun _ _ _ h => h) (yieldsIf_calc rfl (fun w => by unfold execOp; go_simp)) (by assumption) ?_; try simp only [Act.put, List.setIfInBounds_toArray, List.set_cons_zero, List.set_cons_succ, Array.toArray_toList]
                    refine wpAnyH_takeD 22 (some 68) (v := (.slice (some ⟨mb, 0, none⟩) n mc)) rfl rfl (by kernel_rfl) (by kernel_rfl) (by kernel_rfl) (fun _ _ _ h => h) (yieldsIf_calc rfl (fun w => by unfold execOp; go_simp)) (by assumption) ?_; try simp only [Act.put, List.setIfInBounds_toArray, List.set_cons_zero, List.set_cons_succ, Array.toArray_toList]
                    refine wpAnyH_takeD 23 (some 69) (v := (.slice (some ⟨g, 0, none⟩) n1 cap)) rfl rfl (by kernel_rfl) (by kernel_rfl) (by kernel_rfl) (fun _ _ _ h => h) (yieldsIf_calc rfl (fun w => by unfold execOp; go_simp)) (by assumption) ?_; try simp only [Act.put, List.setIfInBounds_toArray, List.set_cons_zero, List.set_cons_succ, Array.toArray_toList]
                    refine wpAnyH_takeD 24 (some 70) (v := (.int .i64 (k : Nat))) rfl rfl (by kernel_rfl) (by kernel_rfl) (by kernel_rfl) (fun _ _ _ h => h) (yieldsIf_calc rfl (fun w => by unfold execOp; go_simp)) (by assumption) ?_; try simp only [Act.put, List.setIfInBounds_toArray, List.set_cons_zero, List.set_cons_succ, Array.toArray_toList]
                    refine wpAnyH_takeD 25 (some 71) (v := (.int .i64 (k1 : Nat))) rfl rfl (by kernel_rfl) (by kernel_rfl) (by kernel_rfl) (fun _ _ _ h => h) (yieldsIf_calc rfl (fun w => by unfold execOp; go_simp)) (by assumption) ?_; try simp only [Act.put, List.setIfInBounds_toArray, List.set_cons_zero, List.set_cons_succ, Array.toArray_toList]
                    refine wpAnyH_takeD 26 (some 72) (v := (.pointer (some ⟨g, k1, none⟩))) rfl rfl (by kernel_rfl) (by kernel_rfl) (by kernel_rfl) (fun _ _ _ h => h) (yieldsIf_calc rfl (fun w => by unfold execOp; go_simp)) (by assumption) ?_; try simp only [Act.put, List.setIfInBounds_toArray, List.set_cons_zero, List.set_cons_succ, Array.toArray_toList]
                    refine wpAnyH_takeD 27 (some 73) (v := (.int .i64 (x : Nat))) rfl rfl (by kernel_rfl) (by kernel_rfl) (by kernel_rfl) (fun _ _ _ h => h) (.inl ⟨rfl, fun w hSw => by obtain ⟨y1, y2, y3, y4, y5, _, _, _⟩ := hSw; unfold execOp; go_simp⟩) (by assumption) ?_; try simp only [Act.put, List.setIfInBounds_toArray, List.set_cons_zero, List.set_cons_succ, Array.toArray_toList]
                    refine wpAnyH_takeD 28 (some 74) (v := (.pointer (some ⟨mb, x, none⟩))) rfl rfl (by kernel_rfl) (by kernel_rfl) (by kernel_rfl) (fun _ _ _ h => h) (yieldsIf_calc rfl (fun w => by unfold execOp; go_simp)) (by assumption) ?_; try simp only [Act.put, List.setIfInBounds_toArray, List.set_cons_zero, List.set_cons_succ, Array.toArray_toList]
                    refine wpAnyH_takeD 29 (some 75) (v := (.int .i64 (sx : Nat))) rfl rfl (by kernel_rfl) (by kernel_rfl) (by kernel_rfl) (fun _ _ _ h => h) (.inl ⟨rfl, fun w hSw => by obtain ⟨y1, y2, y3, y4, y5, _, _, _⟩ := hSw; unfold execOp; go_simp⟩) (by assumption) ?_; try simp only [Act.put, List.setIfInBounds_toArray, List.set_cons_zero, List.set_cons_succ, Array.toArray_toList]
                    refine wpAnyH_takeD 30 (some 76) (v := (.int .u64 (sx : Nat))) rfl rfl (by kernel_rfl) (by kernel_rfl) (by kernel_rfl) (fun _ _ _ h => h) (yieldsIf_calc rfl (fun w => by unfold execOp; go_simp)) (by assumption) ?_; try simp only [Act.put, List.setIfInBounds_toArray, List.set_cons_zero, List.set_cons_succ, Array.toArray_toList]
                    refine wpAnyH_one 31 rfl (by kernel_rfl) (fun K' hK' => ?_)
                    go_simp
                    (go_at_call 55; (with_reducible refine (hcmp _).mono ?_); rintro e w1 ⟨rfl, hw1⟩; have s1 := s0.below hw1; replace hB0 := bnext hB0 hw1; have hcl1 : RowKit.Hid (∀ j, j < l.length → w1.cell? ⟨g, j, none⟩ = some (.int .i64 (l.getD j 0 : Nat))) := Lib.hid (fun j hj => (hw1.cell (p := ⟨g, j, none⟩) s0.l3).trans (hcl0.out j hj)))
                    go_wp2
                    refine hK'.out _ _ (s1) ?_; clear hK' K'; try simp only [Act.put, List.setIfInBounds_toArray, List.set_cons_zero, List.set_cons_succ, Array.toArray_toList]
                    refine wpAnyH_takeD 32 (some 78) (v := (.bool false)) rfl rfl (by kernel_rfl) (by kernel_rfl) (by kernel_rfl) (fun _ _ _ h => h) (yieldsIf_calc rfl (fun w => by unfold execOp; go_simp)) (by assumption) ?_; try simp only [Act.put, List.setIfInBounds_toArray, List.set_cons_zero, List.set_cons_succ, Array.toArray_toList]
                    refine wpAnyH_takeD 33 (some 79) (v := (.bool false)) rfl rfl (by kernel_rfl) (by kernel_rfl) (by kernel_rfl) (fun _ _ _ h => h) (yieldsIf_calc rfl (fun w => by unfold execOp; go_simp)) (by assumption) ?_; try simp only [Act.put, List.setIfInBounds_toArray, List.set_cons_zero, List.set_cons_succ, Array.toArray_toList]
                    refine wpAnyH_done (by kernel_rfl) ?_ _
                    clear hHeld s0 hcl0
                    have hcl0 := hcl1
                    have hgl0 := s1.l3
                    have hB := hB0
                    clear s1 hcl1 hB0 hcmp
                    generalize w1 = wr at *
                    go_wp2
                    obtain ⟨q, hq, hqd⟩ : ∃ q : Nat, (if cap = k then some (⟨g, 0, none⟩ : Addr) else some ⟨g, k, none⟩) = some ⟨g, q, none⟩ ∧ (cap = k ∨ q = k) := if hck : cap = k then ⟨0, if_pos hck, .inl hck⟩ else ⟨k, if_neg hck, .inr rfl⟩
                    replace hqd := Lib.hid hqd
                    have hkc : k ≤ cap := by omega
                    have hkc2 : ¬ (cap < k) := by omega
                    have tt : True := trivial
                    have hBD0 := hB.drew
                    have hclD0 : RowKit.Hid (∀ j, j < l.length → wr.drew.cell? ⟨g, j, none⟩ = some (.int .i64 (l.getD j 0 : Nat))) := hcl0
                    have hglD0 : g < wr.drew.heap.size := hgl0
                    refine wp_region_held_drew (S := fun _ => True) (by kernel_rfl) tt (fun hHeld => ?_)
                    refine wpAnyH_takeD 0 (some 82) (v := (.slice (some ⟨g, 0, none⟩) n1 cap)) rfl rfl (by kernel_rfl) (by kernel_rfl) (by kernel_rfl) (fun _ _ _ h => h) (yieldsIf_calc rfl (fun w => by unfold execOp; go_simp)) (by assumption) ?_; try simp only [Act.put, List.setIfInBounds_toArray, List.set_cons_zero, List.set_cons_succ, Array.toArray_toList]
                    refine wpAnyH_takeD 1 (some 83) (v := (.int .i64 (k : Nat))) rfl rfl (by kernel_rfl) (by kernel_rfl) (by kernel_rfl) (fun _ _ _ h => h) (yieldsIf_calc rfl (fun w => by unfold execOp; go_simp)) (by assumption) ?_; try simp only [Act.put, List.setIfInBounds_toArray, List.set_cons_zero, List.set_cons_succ, Array.toArray_toList]
                    refine wpAnyH_takeD 2 (some 84) (v := (.slice (some ⟨g, 0, none⟩) k cap)) rfl rfl (by kernel_rfl) (by kernel_rfl) (by kernel_rfl) (fun _ _ _ h => h) (yieldsIf_calc rfl (fun w => by unfold execOp; go_simp)) (by assumption) ?_; try simp only [Act.put, List.setIfInBounds_toArray, List.set_cons_zero, List.set_cons_succ, Array.toArray_toList]
                    refine wpAnyH_takeD 4 (some 86) (v := (.int .i64 (i : Nat))) rfl rfl (by kernel_rfl) (by kernel_rfl) (by kernel_rfl) (fun _ _ _ h => h) (yieldsIf_calc rfl (fun w => by unfold execOp; go_simp)) (by assumption) ?_; try simp only [Act.put, List.setIfInBounds_toArray, List.set_cons_zero, List.set_cons_succ, Array.toArray_toList]
                    refine wpAnyH_takeD 7 (some 89) (v := (.slice (some ⟨g, 0, none⟩) n1 cap)) rfl rfl (by kernel_rfl) (by kernel_rfl) (by kernel_rfl) (fun _ _ _ h => h) (yieldsIf_calc rfl (fun w => by unfold execOp; go_simp)) (by assumption) ?_; try simp only [Act.put, List.setIfInBounds_toArray, List.set_cons_zero, List.set_cons_succ, Array.toArray_toList]
                    refine wpAnyH_takeD 8 (some 90) (v := (.int .i64 (k : Nat))) rfl rfl (by kernel_rfl) (by kernel_rfl) (by kernel_rfl) (fun _ _ _ h => h) (yieldsIf_calc rfl (fun w => by unfold execOp; go_simp)) (by assumption) ?_; try simp only [Act.put, List.setIfInBounds_toArray, List.set_cons_zero, List.set_cons_succ, Array.toArray_toList]
                    refine wpAnyH_takeD 9 (some 91) (v := (.slice (some ⟨g, q, none⟩) (n1 - k) (cap - k))) rfl rfl (by kernel_rfl) (by kernel_rfl) (by kernel_rfl) (fun _ _ _ h => h) (yieldsIf_calc rfl (fun w => by unfold execOp; go_simp)) (by assumption) ?_; try simp only [Act.put, List.setIfInBounds_toArray, List.set_cons_zero, List.set_cons_succ, Array.toArray_toList]
                    generalize wr.drew = D0 at *
                    refine wpAnyH_two 3 5 rfl rfl (by kernel_rfl) (fun K' hK' => ?_) (fun K' hK' => ?_)
                    · skip
                      refine ite_go rfl ?_
                      refine wp_append_ints (some 85) rfl D0 _ _ rfl D0.heap.size (.slice none 0 0) [] rfl (OwnI.nil _ _) (some ⟨g, 0, none⟩) (l.take k) k cap hkt.out.symm rfl (fun e => nomatch e) (fun p e j hj => by cases e; rw [Go.WideShapes.add_plain, Nat.zero_add, take_getD _ _ _ hj]; exact (hclD0.out) j (by rw [List.length_take] at hj; omega)) ?_ (Nat.le_refl _) ?_
                      · have := hl32.out; have := HN.out; simp only [List.length_nil, List.length_take, Nat.zero_add]; omega
                      intro va D1 hva hgD1
                      rw [List.nil_append] at hva
                      have hbD1 := below_grown hgD1
                      have hBD1 := bnext hBD0 hbD1
                      have hleD1 : D0.heap.size ≤ D1.heap.size := hbD1.size
                      have hclD1 : RowKit.Hid (∀ j, j < l.length → D1.cell? ⟨g, j, none⟩ = some (.int .i64 (l.getD j 0 : Nat))) := Lib.hid (fun j hj => (hbD1.cell (p := ⟨g, j, none⟩) hglD0).trans (hclD0.out j hj)); have hglD1 := Nat.lt_of_lt_of_le hglD0 hbD1.size
                      refine hK'.out _ _ tt ?_; clear hK' K'; try simp only [Act.put, List.setIfInBounds_toArray, List.set_cons_zero, List.set_cons_succ, Array.toArray_toList]
                      refine wpAnyH_one 5 rfl (by kernel_rfl) (fun K' hK' => ?_)
                      go_simp
                      have hnD2 : Blk (D1.alloc (.cells #[.int .i64 (i : Nat)] 3)) D1.heap.size #[.int .i64 (i : Nat)] 3 := Blk.new _ _ _
                      have hbD2 := below_new (Below.refl D1.heap.size D1) (.cells #[.int .i64 (i : Nat)] 3)
                      have hBD2 := bnext hBD1 hbD2
                      replace hva := hva.below hbD2
                      have hleD2 := Nat.le_trans hleD1 hbD2.size
                      have hclD2 : RowKit.Hid (∀ j, j < l.length → (D1.alloc (.cells #[.int .i64 (i : Nat)] 3)).cell? ⟨g, j, none⟩ = some (.int .i64 (l.getD j 0 : Nat))) := Lib.hid (fun j hj => (hbD2.cell (p := ⟨g, j, none⟩) hglD1).trans (hclD1.out j hj)); have hglD2 := Nat.lt_of_lt_of_le hglD1 hbD2.size
                      refine hK'.out _ _ tt ?_; clear hK' K'; try simp only [Act.put, List.setIfInBounds_toArray, List.set_cons_zero, List.set_cons_succ, Array.toArray_toList]
                      generalize D1.alloc (.cells #[.int .i64 (i : Nat)] 3) = D2 at *
                      generalize D1.heap.size = cn at *
                      refine wpAnyH_one 6 rfl (by kernel_rfl) (fun K' hK' => ?_)
                      refine ite_go rfl ?_
                      refine wp_append_ints (some 88) rfl D2 _ _ rfl D0.heap.size va (l.take k) rfl hva (some ⟨cn, 0, none⟩) [i] 1 1 rfl rfl (fun e => nomatch e) (fun p e j hj => by cases e; obtain rfl : j = 0 := (by simpa using hj); rw [Go.WideShapes.add_plain, Nat.zero_add, hnD2.cell]; rfl) ?_ hleD2 ?_
                      · have := hl32.out; have := HN.out; simp only [List.length_nil, List.length_take, List.length_cons]; omega
                      intro vb D3 hvb hgD3
                      have hkD3 : KeepsP (fun b => va.ownBlock ≠ some b) D2 D3 := ⟨hgD3.os, hgD3.tape, hgD3.output, hgD3.size, fun b hb hk => hgD3.block b hb (fun e => hk e.symm)⟩
                      have hBD3 : Below w.heap.size w D3 := hBD2.trans ⟨hgD3.os, hgD3.tape, hgD3.output, hgD3.size, fun b hb => hgD3.block b (by have := hBD2.size; omega) (fun e => by have := (hva.lt b e.symm).1; have := hBD0.size; omega)⟩
                      have hleD3 := Nat.le_trans hleD2 hgD3.size
                      have hclD3 : RowKit.Hid (∀ j, j < l.length → D3.cell? ⟨g, j, none⟩ = some (.int .i64 (l.getD j 0 : Nat))) := Lib.hid (fun j hj => cell_keepsP (p := ⟨g, j, none⟩) (hclD2.out j hj) hkD3 hglD2 (fun e => by have := (hva.lt g e).1; omega)); have hglD3 := Nat.lt_of_lt_of_le hglD2 hkD3.size
                      refine hK'.out _ _ tt ?_; clear hK' K'; try simp only [Act.put, List.setIfInBounds_toArray, List.set_cons_zero, List.set_cons_succ, Array.toArray_toList]
                      refine wpAnyH_one 10 rfl (by kernel_rfl) (fun K' hK' => ?_)
                      refine ite_go rfl ?_
                      refine wp_append_ints (some 92) rfl D3 _ _ rfl D0.heap.size vb (l.take k ++ [i]) rfl hvb (some ⟨g, q, none⟩) (l.drop k) (n1 - k) (cap - k) hkd.out.symm rfl (fun e => nomatch e) (fun p e j hj => by cases e; rw [List.length_drop] at hj; have hqe : q = k := (by have := HN.out; rcases hqd.out with h | h <;> omega); rw [Go.WideShapes.add_plain, drop_getD, hqe]; exact (hclD3.out) (k + j) (by omega)) ?_ hleD3 ?_
                      · have := hl32.out; have := HN.out; simp only [List.length_append, List.length_take, List.length_drop, List.length_cons, List.length_nil]; omega
                      intro vc D4 hvc hgD4
                      have hBD4 : Below w.heap.size w D4 := hBD3.trans ⟨hgD4.os, hgD4.tape, hgD4.output, hgD4.size, fun b hb => hgD4.block b (by have := hBD3.size; omega) (fun e => by have := (hvb.lt b e.symm).1; have := hBD0.size; omega)⟩
                      refine hK'.out _ _ tt ?_; clear hK' K'; try simp only [Act.put, List.setIfInBounds_toArray, List.set_cons_zero, List.set_cons_succ, Array.toArray_toList]
                      refine wpAnyH_takeD 11 (some 6) (v := vc) rfl rfl (by kernel_rfl) (by kernel_rfl) (by kernel_rfl) (fun _ _ _ h => h) (yieldsIf_calc rfl (fun w => by unfold execOp; go_simp)) tt ?_; try simp only [Act.put, List.setIfInBounds_toArray, List.set_cons_zero, List.set_cons_succ, Array.toArray_toList]
                      refine wpAnyH_done (by kernel_rfl) ?_ _
                      clear hHeld tt
                      have hvd : OwnI D4 w.heap.size vc (ordU r S (i + 1)) := by rw [hnx.out]; exact hvc.weaken hBD0.size
                      have HBL := hBD4
                      clear hvc hva hvb hBD0 hBD1 hBD2 hBD3 hBD4 hnD2 hleD1 hleD2 hleD3
                      go_wp2
                      exact ⟨⟨i + 1, by omega, by go_num, hvd, HBL⟩, by simp [intOf]; omega⟩
                    · skip
                      go_simp
                      have hnD1 : Blk (D0.alloc (.cells #[.int .i64 (i : Nat)] 3)) D0.heap.size #[.int .i64 (i : Nat)] 3 := Blk.new _ _ _
                      have hbD1 := below_new (Below.refl D0.heap.size D0) (.cells #[.int .i64 (i : Nat)] 3)
                      have hBD1 := bnext hBD0 hbD1
                      have hclD1 : RowKit.Hid (∀ j, j < l.length → (D0.alloc (.cells #[.int .i64 (i : Nat)] 3)).cell? ⟨g, j, none⟩ = some (.int .i64 (l.getD j 0 : Nat))) := Lib.hid (fun j hj => (hbD1.cell (p := ⟨g, j, none⟩) hglD0).trans (hclD0.out j hj)); have hglD1 := Nat.lt_of_lt_of_le hglD0 hbD1.size
                      refine hK'.out _ _ tt ?_; clear hK' K'; try simp only [Act.put, List.setIfInBounds_toArray, List.set_cons_zero, List.set_cons_succ, Array.toArray_toList]
                      generalize D0.alloc (.cells #[.int .i64 (i : Nat)] 3) = D1 at *
                      generalize D0.heap.size = cn at *
                      refine wpAnyH_one 3 rfl (by kernel_rfl) (fun K' hK' => ?_)
                      refine ite_go rfl ?_
                      refine wp_append_ints (some 85) rfl D1 _ _ rfl D1.heap.size (.slice none 0 0) [] rfl (OwnI.nil _ _) (some ⟨g, 0, none⟩) (l.take k) k cap hkt.out.symm rfl (fun e => nomatch e) (fun p e j hj => by cases e; rw [Go.WideShapes.add_plain, Nat.zero_add, take_getD _ _ _ hj]; exact (hclD1.out) j (by rw [List.length_take] at hj; omega)) ?_ (Nat.le_refl _) ?_
                      · have := hl32.out; have := HN.out; simp only [List.length_nil, List.length_take, Nat.zero_add]; omega
                      intro va D2 hva hgD2
                      rw [List.nil_append] at hva
                      have hbD2 := below_grown hgD2
                      have hBD2 := bnext hBD1 hbD2
                      have hleD2 : D1.heap.size ≤ D2.heap.size := hbD2.size
                      have hclD2 : RowKit.Hid (∀ j, j < l.length → D2.cell? ⟨g, j, none⟩ = some (.int .i64 (l.getD j 0 : Nat))) := Lib.hid (fun j hj => (hbD2.cell (p := ⟨g, j, none⟩) hglD1).trans (hclD1.out j hj)); have hglD2 := Nat.lt_of_lt_of_le hglD1 hbD2.size
                      replace hnD1 := hnD1.below hbD2 hnD1.lt
                      refine hK'.out _ _ tt ?_; clear hK' K'; try simp only [Act.put, List.setIfInBounds_toArray, List.set_cons_zero, List.set_cons_succ, Array.toArray_toList]
                      refine wpAnyH_one 6 rfl (by kernel_rfl) (fun K' hK' => ?_)
                      refine ite_go rfl ?_
                      refine wp_append_ints (some 88) rfl D2 _ _ rfl D1.heap.size va (l.take k) rfl hva (some ⟨cn, 0, none⟩) [i] 1 1 rfl rfl (fun e => nomatch e) (fun p e j hj => by cases e; obtain rfl : j = 0 := (by simpa using hj); rw [Go.WideShapes.add_plain, Nat.zero_add, hnD1.cell]; rfl) ?_ hleD2 ?_
                      · have := hl32.out; have := HN.out; simp only [List.length_nil, List.length_take, List.length_cons]; omega
                      intro vb D3 hvb hgD3
                      have hkD3 : KeepsP (fun b => va.ownBlock ≠ some b) D2 D3 := ⟨hgD3.os, hgD3.tape, hgD3.output, hgD3.size, fun b hb hk => hgD3.block b hb (fun e => hk e.symm)⟩
                      have hBD3 : Below w.heap.size w D3 := hBD2.trans ⟨hgD3.os, hgD3.tape, hgD3.output, hgD3.size, fun b hb => hgD3.block b (by have := hBD2.size; omega) (fun e => by have := (hva.lt b e.symm).1; have := hBD1.size; omega)⟩
                      have hleD3 := Nat.le_trans hleD2 hgD3.size
                      have hclD3 : RowKit.Hid (∀ j, j < l.length → D3.cell? ⟨g, j, none⟩ = some (.int .i64 (l.getD j 0 : Nat))) := Lib.hid (fun j hj => cell_keepsP (p := ⟨g, j, none⟩) (hclD2.out j hj) hkD3 hglD2 (fun e => by have := (hva.lt g e).1; omega)); have hglD3 := Nat.lt_of_lt_of_le hglD2 hkD3.size
                      refine hK'.out _ _ tt ?_; clear hK' K'; try simp only [Act.put, List.setIfInBounds_toArray, List.set_cons_zero, List.set_cons_succ, Array.toArray_toList]
                      refine wpAnyH_one 10 rfl (by kernel_rfl) (fun K' hK' => ?_)
                      refine ite_go rfl ?_
                      refine wp_append_ints (some 92) rfl D3 _ _ rfl D1.heap.size vb (l.take k ++ [i]) rfl hvb (some ⟨g, q, none⟩) (l.drop k) (n1 - k) (cap - k) hkd.out.symm rfl (fun e => nomatch e) (fun p e j hj => by cases e; rw [List.length_drop] at hj; have hqe : q = k := (by have := HN.out; rcases hqd.out with h | h <;> omega); rw [Go.WideShapes.add_plain, drop_getD, hqe]; exact (hclD3.out) (k + j) (by omega)) ?_ hleD3 ?_
                      · have := hl32.out; have := HN.out; simp only [List.length_append, List.length_take, List.length_drop, List.length_cons, List.length_nil]; omega
                      intro vc D4 hvc hgD4
                      have hBD4 : Below w.heap.size w D4 := hBD3.trans ⟨hgD4.os, hgD4.tape, hgD4.output, hgD4.size, fun b hb => hgD4.block b (by have := hBD3.size; omega) (fun e => by have := (hvb.lt b e.symm).1; have := hBD1.size; omega)⟩
                      refine hK'.out _ _ tt ?_; clear hK' K'; try simp only [Act.put, List.setIfInBounds_toArray, List.set_cons_zero, List.set_cons_succ, Array.toArray_toList]
                      refine wpAnyH_takeD 11 (some 6) (v := vc) rfl rfl (by kernel_rfl) (by kernel_rfl) (by kernel_rfl) (fun _ _ _ h => h) (yieldsIf_calc rfl (fun w => by unfold execOp; go_simp)) tt ?_; try simp only [Act.put, List.setIfInBounds_toArray, List.set_cons_zero, List.set_cons_succ, Array.toArray_toList]
                      refine wpAnyH_done (by kernel_rfl) ?_ _
                      clear hHeld tt
                      have hvd : OwnI D4 w.heap.size vc (ordU r S (i + 1)) := by rw [hnx.out]; exact hvc.weaken hBD1.size
                      have HBL := hBD4
                      clear hvc hva hvb hBD0 hBD1 hBD2 hBD3 hBD4 hnD1 hleD2 hleD3
                      go_wp2
                      exact ⟨⟨i + 1, by omega, by go_num, hvd, HBL⟩, by simp [intOf]; omega⟩
        · obtain rfl : i = n := by omega
          go_wp2
          go_ret2
          exact ⟨⟨_, rfl, hO⟩, hB⟩
end Go.Proofs.Ytdnpbemkobhlcaa
