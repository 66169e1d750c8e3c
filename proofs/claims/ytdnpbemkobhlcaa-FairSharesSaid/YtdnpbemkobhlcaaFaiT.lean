/-
  The laws' walks: with constant rates the numbers of turns differ by at most one.
-/
import Derived.Test.YtdnpbemkobhlcaaFaiO
set_option linter.unusedSimpArgs false
set_option linter.unusedVariables false
namespace Go.Proofs.Ytdnpbemkobhlcaa
open Go.RowKit
attribute [-go_sem] Instr.build

/-- Whoever is chosen has no lesser metric than another user with a rate. -/
theorem pick_best {xs : List Int} {S : Nat → Nat} {n : Nat} (h : pickE xs S n = 0) (hS : ∀ i, i < n → 0 < S i) (v : Nat) (hv : v < n) (hr : 0 < rOf xs v) : rOf xs v * S (pickU xs S n) ≤ rOf xs (pickU xs S n) * S v := by
  obtain ⟨g1, g2, g3⟩ := pick_good h
  have hl : ordL xs S n = ordU (rOf xs) S n := by unfold ordL; rw [if_pos g2]
  have hmem := (ordU_mem (rOf xs) S n v).2 ⟨hv, hr⟩
  have hsr := ordU_sorted (rOf xs) S n
  have hu : pickU xs S n = (ordU (rOf xs) S n).getD 0 0 := by unfold pickU; rw [hl]
  generalize rOf xs = r at *
  generalize pickU xs S n = u at *
  cases hq : ordU r S n with
  | nil => rw [hq] at hmem; cases hmem
  | cons a l =>
    rw [hq] at hmem hsr hu
    simp at hu
    subst hu
    rcases List.mem_cons.1 hmem with rfl | hm
    · exact Nat.le_refl _
    · have hlt := (List.pairwise_cons.1 hsr).1 v hm
      have hle : cmpF (mt r S v) (mt r S u) ≤ 0 := by rcases hlt with h | h <;> omega
      unfold cmpF mt at hle
      simp only at hle
      have s1 := hS v hv
      rw [if_neg (by omega), sgn_le] at hle
      exact hle
/-- Services after so many turns of each. -/
def shS (r C : Nat → Nat) : Nat → Nat := fun i => 1 + C i * r i
/-- Whoever is chosen had no more turns than another. -/
theorem share_least {r C : Nat → Nat} {u v : Nat} (hu : 0 < r u) (hv : 0 < r v) (h : r v * shS r C u ≤ r u * shS r C v) : C u ≤ C v := by
  apply Decidable.byContradiction
  intro hn
  obtain ⟨d, hd⟩ : ∃ d, C u = C v + 1 + d := ⟨C u - C v - 1, by omega⟩
  unfold shS at h
  rw [hd] at h
  have e1 : r v * (1 + (C v + 1 + d) * r u) = r v + r u * (C v * r v) + r v * r u + r v * (d * r u) := by
    simp only [Nat.mul_add, Nat.add_mul, Nat.mul_one, Nat.one_mul]
    have : r v * (C v * r u) = r u * (C v * r v) := by rw [Nat.mul_left_comm, Nat.mul_comm (r v), ← Nat.mul_left_comm]
    omega
  have e2 : r u * (1 + C v * r v) = r u + r u * (C v * r v) := by rw [Nat.mul_add, Nat.mul_one]
  rw [e1, e2] at h
  have e3 : r u ≤ r v * r u := Nat.le_mul_of_pos_left _ hv
  omega
theorem share_step {r C : Nat → Nat} {u : Nat} (hu : shS r C u + r u ≤ 2305843009213693952) : addS (shS r C) u (r u) = shS r (upd C u (C u + 1)) := by
  funext i
  unfold addS
  rw [Nat.min_eq_left hu]
  unfold shS upd
  by_cases e : i = u
  · subst e; rw [if_pos rfl, if_pos rfl, Nat.add_mul, Nat.one_mul, Nat.add_assoc]
  · rw [if_neg e, if_neg e]
/-- One turn more: the numbers still differ by at most one. -/
theorem share_next {C : Nat → Nat} {n m u : Nat} (hu : u < n) (h : ∀ i, i < n → m ≤ C i ∧ C i ≤ m + 1) (hl : ∀ v, v < n → C u ≤ C v) : ∃ m', ∀ i, i < n → m' ≤ upd C u (C u + 1) i ∧ upd C u (C u + 1) i ≤ m' + 1 := by
  have hcu := h u hu
  refine ⟨C u, fun i hi => ?_⟩
  have h1 := hl i hi
  have h2 := h i hi
  unfold upd
  split
  · omega
  · have : C u = m ∨ C u = m + 1 := by omega
    rcases this with e | e
    · omega
    · omega
theorem pick_zero {xs : List Int} {S : Nat → Nat} {n : Nat} (h : okR xs n) (h0 : 0 < n) (h1 : 0 < rOf xs 0) : pickE xs S n = 0 := by
  have hm := (ordU_mem (rOf xs) S n 0).2 ⟨h0, h1⟩
  unfold pickE ordE ordL
  rw [if_pos h, if_pos rfl, if_pos h, if_neg]
  intro e
  rw [e] at hm
  cases hm
set_option maxHeartbeats 4000000 in
set_option maxRecDepth 100000 in
theorem walk_FairShares (v : Value) (xs : List Int) (tn : Int) (_ht : (Lit.int .i64 tn).wf = true) (w : World) (hA : Isl w v xs) :
    Calls Try.prog 12 #[v, .int .i64 tn] w fun e w' => e = .returned (.bool true) ∧ Below w.heap.size w w' := by
  have hk := known_all
  obtain ⟨a, cap, rfl, hcap, hcm, hnil, hX, _⟩ := hA
  obtain ⟨N, hN⟩ : ∃ N, N = xs.length := ⟨_, rfl⟩
  rw [← hN] at hcap ⊢
  have HX := Lib.hid hX
  replace hN := Lib.hid hN
  clear hX hnil _ht
  by_cases hn : (N < 1 ∨ 32 < N) ∨ (tn < 0 ∨ 300 < tn)
  · go_enter Try.func12, Try.ntmps12
    have hc : N < 1 ∨ (¬ N < 1 ∧ 32 < N) ∨ (¬ N < 1 ∧ ¬ 32 < N ∧ tn < 0) ∨ (¬ N < 1 ∧ ¬ 32 < N ∧ ¬ tn < 0 ∧ 300 < tn) := by omega
    clear hn
    rcases hc with hc | ⟨h1, h2⟩ | ⟨h1, h2, h3⟩ | ⟨h1, h2, h3, h4⟩
    all_goals
      go_wp2_with (go_at_call 16; (with_reducible refine (hk _).mono ?_); rintro e w9 ⟨rfl, hw9⟩)
      go_ret
      exact ⟨rfl, hw9⟩
  have hN1 : 1 ≤ N := by omega
  have hN2 : N ≤ 32 := by omega
  have g1 : ¬ (N < 1) := by omega
  have g2 : ¬ (32 < N) := by omega
  obtain ⟨T, rfl⟩ : ∃ T : Nat, tn = T := ⟨tn.toNat, (Int.toNat_of_nonneg (by omega)).symm⟩
  have g3 : ¬ ((T : Int) < 0) := by omega
  have g4 : ¬ ((300 : Int) < (T : Int)) := by omega
  have hT : T ≤ 300 := by omega
  have h0 := fun w => new_any N hN1 hN2 w
  have hmk := mk_row N (by omega)
  obtain ⟨kr, o, rfl, hkr, hcx⟩ := HX.out (by rw [← hN.out]; omega)
  replace hcx := Lib.hid hcx
  clear hn
  go_enter Try.func12, Try.ntmps12
  go_wp2
  go_loopw [5] (fun t wr => ∃ k : Nat, k ≤ N ∧ t = .int .i64 k ∧ (∀ i, i < k → 1 ≤ xs.getD i 0 ∧ xs.getD i 0 ≤ 4294967296) ∧ wr = w) (fun t _ => N - (intOf t).toNat)
  case atStart => exact ⟨0, by omega, rfl, fun i hi => absurd hi (by omega), rfl⟩
  case round =>
    obtain ⟨k, hkq, rfl, hp, hwr⟩ := hrel
    replace hwr := hwr.symm
    subst hwr
    by_cases hlt : k < N
    · have c0 := hcx.out k (by rw [← hN.out]; exact hlt)
      have hnx : 1 ≤ xs.getD k 0 ∧ xs.getD k 0 ≤ 4294967296 → ∀ i, i < k + 1 → 1 ≤ xs.getD i 0 ∧ xs.getD i 0 ≤ 4294967296 := fun h i hi => by
        rcases Nat.lt_succ_iff_lt_or_eq.1 hi with h' | rfl
        · exact hp i h'
        · exact h
      replace hnx := Lib.hid hnx
      clear hp
      generalize xs.getD k 0 = y at *
      have hc : y < 1 ∨ (¬ y < 1 ∧ 4294967296 < y) ∨ (¬ y < 1 ∧ ¬ 4294967296 < y) := by omega
      rcases hc with hc | ⟨c1, c2⟩ | ⟨c1, c2⟩
      · go_wp2_with (go_at_call 16; (with_reducible refine (hk _).mono ?_); rintro e w9 ⟨rfl, hw9⟩)
        go_ret
        exact ⟨rfl, hw9⟩
      · go_wp2_with (go_at_call 16; (with_reducible refine (hk _).mono ?_); rintro e w9 ⟨rfl, hw9⟩)
        go_ret
        exact ⟨rfl, hw9⟩
      · replace hnx := Lib.hid (hnx.out ⟨by omega, by omega⟩)
        go_wp2
        exact ⟨⟨k + 1, by omega, by go_num, hnx.out, trivial⟩, by simp [intOf]; omega⟩
    · obtain rfl : N = k := by omega
      clear hlt hkq
      have hok : okR xs N := ⟨hN.out.symm, fun x hx => by
        obtain ⟨i, hi, rfl⟩ := List.getElem_of_mem hx
        have := hp i (by rw [hN.out]; exact hi)
        rw [List.getD_eq_getElem?_getD, List.getElem?_eq_getElem hi, Option.getD_some] at this
        omega⟩
      have hrp : ∀ i, i < N → 0 < rOf xs i ∧ rOf xs i ≤ 4294967296 := fun i hi => by
        have := hp i hi
        have h2 := okR_at hok i hi
        omega
      have HP := Lib.hid hrp
      have HOK := Lib.hid hok
      clear hp hok hrp
      go_wp2_with (go_at_call 17; (with_reducible refine (h0 _).mono ?_); rintro e w1 ⟨sb, rb, rfl, hs1, hsb, hrb, hB1⟩; have HS1 := Lib.hid hs1; clear hs1)
      have hob : w.heap.size ≤ w1.heap.size := hB1.size
      have hsl := HS1.out.c.lt
      have hrl := HS1.out.ltr
      have k0 : Blk (w1.alloc (.cells (rowV (fun _ => 0) N) 3)) w1.heap.size (rowV (fun _ => 0) N) 3 := Blk.new' rfl
      have hB2 := below_new hB1 (.cells (rowV (fun _ => 0) N) 3)
      have hs2 : Sch (w1.alloc (.cells (rowV (fun _ => 0) N) 3)) sb rb N N (shS (rOf xs) (fun _ => 0)) := (HS1.out.below (below_new (Below.refl _ _) _)).congr (fun i _ => by unfold shS; rw [Nat.zero_mul])
      clear HS1 hmk h0
      generalize w1.heap.size = ob at *
      generalize w1.alloc (.cells (rowV (fun _ => 0) N) 3) = W2 at *
      go_loopw [9] (fun t wr => ∃ (k m : Nat) (C : Nat → Nat), k ≤ T ∧ t = .int .i64 k ∧ Sch wr sb rb N N (shS (rOf xs) C) ∧ Blk wr ob (rowV C N) 3 ∧ (∀ i, i < N → (m ≤ C i ∧ C i ≤ m + 1) ∧ C i ≤ k) ∧ Below w.heap.size w wr) (fun t _ => T - (intOf t).toNat)
      case atStart => exact ⟨0, 0, fun _ => 0, by omega, rfl, hs2, k0, fun i _ => ⟨⟨Nat.le_refl _, Nat.zero_le _⟩, Nat.le_refl _⟩, hB2⟩
      case round =>
        clear hs2 k0 hB2
        obtain ⟨k, m, C, hkT, rfl, hS, hK, hC, hB⟩ := hrel
        have HS := Lib.hid hS
        have HC := Lib.hid hC
        have HK := Lib.hid hK
        clear hS hC hK
        by_cases hlt : k < T
        · have hE := pick_zero (S := shS (rOf xs) C) HOK.out (by omega) (HP.out 0 (by omega)).1
          have htn := turn_any wr HS.out (some ⟨kr, o, none⟩) N cap xs (HX.out.below hB) hN.out
          obtain ⟨p1, p2, p3⟩ := pick_good hE
          have hleast : ∀ v, v < N → C (pickU xs (shS (rOf xs) C) N) ≤ C v := fun v hv => share_least p3 (HP.out v hv).1 (pick_best hE (fun i _ => by unfold shS; omega) v hv (HP.out v hv).1)
          have hru := (HP.out _ p1).2
          have hT2 : turnS xs (shS (rOf xs) C) N = addS (shS (rOf xs) C) (pickU xs (shS (rOf xs) C) N) (rOf xs (pickU xs (shS (rOf xs) C) N)) := by unfold turnS; rw [if_pos hE]
          rw [hT2, hE] at htn
          generalize pickU xs (shS (rOf xs) C) N = u at *
          have hcu := (HC.out u p1).2
          have hbig : shS (rOf xs) C u + rOf xs u ≤ 2305843009213693952 := by
            have := Nat.mul_le_mul (show C u ≤ 300 by omega) hru
            unfold shS
            omega
          rw [share_step hbig] at htn
          have hcell := HK.out.row u p1
          have hnxt : RowKit.Hid (∃ m', ∀ i, i < N → m' ≤ upd C u (C u + 1) i ∧ upd C u (C u + 1) i ≤ m' + 1) := Lib.hid (share_next p1 (fun i hi => (HC.out i hi).1) hleast)
          have hup : RowKit.Hid (∀ i, i < N → upd C u (C u + 1) i ≤ k + 1) := Lib.hid (fun i hi => by
            have := (HC.out i hi).2
            unfold upd; split <;> omega)
          have hset : RowKit.Hid (∀ W : World, Blk W ob (rowV C N) 3 → Blk (W.setCell ⟨ob, u, none⟩ (.int .i64 ((C u + 1 : Nat) : Int))) ob (rowV (upd C u (C u + 1)) N) 3) := Lib.hid (fun W h => by rw [← rowV_set]; exact h.set u _)
          have i1 : IntKind.i64.wrap ((C u : Int) + 1) = ((C u + 1 : Nat) : Int) := by rw [IntWalk.i64_in _ (by omega)]; omega
          clear hleast hT2 hE hbig p2 p3 hru
          generalize hc1 : C u + 1 = c1 at *
          generalize hc0 : C u = c0 at *
          generalize upd C u c1 = D at *
          replace hc0 := Lib.hid hc0
          replace hc1 := Lib.hid hc1
          replace htn := Lib.hid htn
          go_wp2_with (go_at_call 24; (with_reducible refine htn.out.mono ?_); rintro e w3 ⟨rfl, hs3, hb3⟩; have hk3 := hb3.keepsP; have hB3 := below_but hB hb3 hrb hB.size; have HS3 := Lib.hid hs3; clear hs3; have hK3 := HK.out.keepsP hk3 (show ob ≠ rb by omega); have e3 := hK3.row u p1; rw [hc0.out] at e3; have f3 := hK3.frozen u; have HK3 := Lib.hid hK3; clear hK3)
          have hK4 := hset.out w3 HK3.out
          have hB4 := below_only hB3 (Only.setCell (b := ob) w3 u (.int .i64 (c1 : Nat))) hob
          have HS4 : RowKit.Hid (Sch (w3.setCell ⟨ob, u, none⟩ (.int .i64 (c1 : Nat))) sb rb N N (shS (rOf xs) D)) := Lib.hid (HS3.out.keepsP (K := fun i => i ≠ ob) ((KeepsP.refl _ _).only (Only.setCell (b := ob) w3 u _) (fun h => h rfl)) (by show sb ≠ ob; omega) (by show rb ≠ ob; omega))
          clear hset HK3 HS3 hB3 e3 f3 hcell i1 htn hb3 hk3 hB HS HC HK hcu
          generalize w3.setCell ⟨ob, u, none⟩ (.int .i64 (c1 : Nat)) = w4 at *
          have e0 : w4.cell? ⟨ob, 0, none⟩ = some (.int .i64 (D 0 : Nat)) := hK4.row 0 (by omega)
          have HK4 := Lib.hid hK4
          clear hK4
          obtain ⟨m', hm'⟩ := hnxt.out
          have hD0 := hm' 0 (by omega)
          have HM := Lib.hid hm'
          clear hm' hnxt
          generalize D 0 = d0 at *
          go_region
          go_wp2
          go_loopw [12, 13, 14] (fun lo hi t wr => ∃ j lo' hi' : Nat, j ≤ N ∧ t = .int .i64 j ∧ lo = .int .i64 lo' ∧ hi = .int .i64 hi' ∧ (m' ≤ lo' ∧ lo' ≤ m' + 1) ∧ (m' ≤ hi' ∧ hi' ≤ m' + 1) ∧ Blk wr ob (rowV D N) 3 ∧ Sch wr sb rb N N (shS (rOf xs) D) ∧ Below w.heap.size w wr) (fun _ _ t _ => N - (intOf t).toNat)
          case atStart => exact ⟨0, d0, d0, by omega, rfl, rfl, rfl, hD0, hD0, HK4.out.drew, HS4.out.drew, hB4.drew⟩
          case round =>
            clear e0 HK4 HS4 hB4 hD0
            obtain ⟨j, lo, hi, hjN, rfl, rfl, rfl, hlo, hhi, hK, hS, hB⟩ := hrel
            have HS := Lib.hid hS
            clear hS
            by_cases hjl : j < N
            · have e1 := hK.row j hjl
              have hdj := HM.out j hjl
              have HK := Lib.hid hK
              clear hK
              generalize D j = d at *
              by_cases ca : d < lo
              · have hl2 := Lib.hid (show m' ≤ d ∧ d ≤ m' + 1 from hdj)
                by_cases cb : hi < d
                · have hh2 := Lib.hid (show m' ≤ d ∧ d ≤ m' + 1 from hdj)
                  go_wp2
                  go_region
                  go_wp2
                  exact ⟨⟨j + 1, d, d, by omega, by go_num, rfl, rfl, hl2.out, hh2.out, HK.out.drew, HS.out.drew, hB.drew⟩, by simp [intOf]; omega⟩
                · have hh2 := Lib.hid hhi
                  go_wp2
                  go_region
                  go_wp2
                  exact ⟨⟨j + 1, d, hi, by omega, by go_num, rfl, rfl, hl2.out, hh2.out, HK.out.drew, HS.out.drew, hB.drew⟩, by simp [intOf]; omega⟩
              · have hl2 := Lib.hid hlo
                by_cases cb : hi < d
                · have hh2 := Lib.hid (show m' ≤ d ∧ d ≤ m' + 1 from hdj)
                  go_wp2
                  go_region
                  go_wp2
                  exact ⟨⟨j + 1, lo, d, by omega, by go_num, rfl, rfl, hl2.out, hh2.out, HK.out.drew, HS.out.drew, hB.drew⟩, by simp [intOf]; omega⟩
                · have hh2 := Lib.hid hhi
                  go_wp2
                  go_region
                  go_wp2
                  exact ⟨⟨j + 1, lo, hi, by omega, by go_num, rfl, rfl, hl2.out, hh2.out, HK.out.drew, HS.out.drew, hB.drew⟩, by simp [intOf]; omega⟩
            · obtain rfl : N = j := by omega
              have hm300 : m' ≤ 301 := by
                have h1 := HM.out 0 (by omega)
                have h2 := hup.out 0 (by omega)
                omega
              have iw : IntKind.i64.wrap ((hi : Int) - (lo : Int)) = (hi : Int) - (lo : Int) := IntWalk.i64_in _ (by omega)
              have hgt : ¬ ((1 : Int) < (hi : Int) - (lo : Int)) := by omega
              have HK := Lib.hid hK
              have hmm : RowKit.Hid (∀ i, i < N → (m' ≤ D i ∧ D i ≤ m' + 1) ∧ D i ≤ k + 1) := Lib.hid (fun i hi => ⟨HM.out i hi, hup.out i hi⟩)
              clear hK hlo hhi hjN hjl
              go_wp2
              exact ⟨⟨k + 1, m', D, by omega, by go_num, HS.out, HK.out, hmm.out, hB⟩, by simp [intOf]; omega⟩
        · obtain rfl : T = k := by omega
          go_wp2_with (go_at_call 16; (with_reducible refine (hk _).mono ?_); rintro e w9 ⟨rfl, hw9⟩)
          go_ret
          exact ⟨rfl, bnext hB hw9⟩
end Go.Proofs.Ytdnpbemkobhlcaa
