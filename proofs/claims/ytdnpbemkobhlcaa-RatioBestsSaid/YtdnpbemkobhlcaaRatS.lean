/-
  Fractions, the laws' walks: the index of the greatest.
-/
import Derived.Test.YtdnpbemkobhlcaaRatP
namespace Go.Proofs.Ytdnpbemkobhlcaa
open Go.RowKit
attribute [-go_sem] Instr.build

set_option maxHeartbeats 4000000 in
theorem walk_RatioBests (v : Value) (l : List (Nat × Nat)) (w : World) (hv : Fsl w v l) :
    Calls Try.prog 8 #[v] w fun e w' => e = .returned (.bool true) ∧ Below w.heap.size w w' := by
  obtain ⟨a, cap, rfl, hcap, hmax, hnil, hF, h64⟩ := hv
  have hk := known_any
  have hbs := best_any l h64 a cap w hF
  obtain ⟨n, hn⟩ : ∃ n, n = l.length := ⟨_, rfl⟩
  rw [← hn] at hbs hcap ⊢
  by_cases h50 : 50 < n
  · clear hn hcap hmax hnil hbs
    go_enter Try.func8, Try.ntmps8
    go_wp2_with (go_at_call 31; (with_reducible refine (hk _).mono ?_); rintro e w8 ⟨rfl, hw8⟩)
    go_ret
    exact ⟨rfl, hw8⟩
  replace hbs := hbs (by omega)
  have hn50 : n ≤ 50 := by omega
  by_cases h0 : n = 0
  · rw [if_pos (.inl h0), if_pos h0] at hbs
    subst h0
    clear hn hcap hmax hnil
    go_enter Try.func8, Try.ntmps8
    go_wp2_with (first
      | (go_at_call 35; (with_reducible refine hbs.mono ?_); rintro e w1 ⟨rfl, hw1⟩)
      | (go_at_call 31; (with_reducible refine (hk _).mono ?_); rintro e w8 ⟨rfl, hw8⟩; have hB8 := bnext hw1 hw8))
    go_ret
    exact ⟨rfl, hB8⟩
  have hnn : ((n : Int) == 0) = false := by rw [beq_eq_false_iff_ne]; omega
  obtain ⟨b, o, rfl, hbl, hc⟩ := hF (by omega)
  rw [← hn] at hc
  have hbad := fun i => lawbad_any (gf l i)
  replace hn := Lib.hid hn
  cases hany : anyBad l with
  | true =>
    rw [hany, if_pos (.inr rfl), if_neg h0, if_pos rfl] at hbs
    have hex : ∀ k, k = n → (∀ i, i < k → ¬ Bad (gf l i)) → False := fun k hk' h => by
      subst hk'
      rw [hn.out] at h
      rw [anyBad_none l h] at hany; cases hany
    replace hex := Lib.hid hex
    clear hany hcap hmax hnil h0
    go_enter Try.func8, Try.ntmps8
    go_wp2_with (go_at_call 35; (with_reducible refine hbs.mono ?_); rintro e w1 ⟨rfl, hw1⟩)
    go_loopw [5] (fun t wr => ∃ k : Nat, k ≤ n ∧ t = .int .i64 k ∧ (∀ i, i < k → ¬ Bad (gf l i)) ∧ Below w.heap.size w wr) (fun t _ => n - (intOf t).toNat)
    case atStart => exact ⟨0, by omega, rfl, fun i hi => absurd hi (by omega), hw1⟩
    case round =>
      clear hw1
      obtain ⟨k, hk', rfl, hp, hB⟩ := hrel
      by_cases hlt : k < n
      · have c0 := (hB.cell (p := ⟨b, o + k * 2, none⟩) hbl).trans (hc k hlt).1
        have c1 := (hB.cell (p := ⟨b, o + k * 2 + 1, none⟩) hbl).trans (hc k hlt).2
        have hb1 := hbad k
        have hno : ¬ Bad (gf l k) → ∀ i, i < k + 1 → ¬ Bad (gf l i) := fun h i hi => by
          rcases Nat.lt_succ_iff_lt_or_eq.1 hi with h' | rfl
          · exact hp i h'
          · exact h
        replace hno := Lib.hid hno
        generalize gf l k = p at *
        unfold fV at hb1
        clear hp hc
        by_cases hbit : Bad p
        · rw [decide_eq_true hbit] at hb1
          clear hno hbit
          go_wp2_with (first
            | (go_at_call 33; (with_reducible refine (hb1 _).mono ?_); rintro e w2 ⟨rfl, hw2⟩; have hB2 := bnext hB hw2)
            | (go_at_call 31; (with_reducible refine (hk _).mono ?_); rintro e w8 ⟨rfl, hw8⟩; have hB8 := bnext hB2 hw8))
          go_ret
          exact ⟨rfl, hB8⟩
        · rw [decide_eq_false hbit] at hb1
          replace hno := Lib.hid (hno.out hbit)
          clear hbit
          go_wp2_with (go_at_call 33; (with_reducible refine (hb1 _).mono ?_); rintro e w2 ⟨rfl, hw2⟩)
          exact ⟨⟨k + 1, by omega, by go_num, hno.out, bnext hB hw2⟩, by simp [intOf]; omega⟩
      · exact (hex.out k (by omega) hp).elim
  | false =>
    rw [hany, if_neg (fun h => by rcases h with h | h; (exact h0 h); (cases h)), if_neg h0, if_neg (by simp)] at hbs
    have hgood := anyBad_false l hany
    have hbest := bst_best l hgood n
    have hm := bst_lt l n
    have hcmp := fun i j => lawcmp_any (gf l i) (gf l j) (h64.all _) (h64.all _)
    have hbad' : ∀ i w, Calls Try.prog 33 #[.agg (fV (gf l i))] w fun e w' => e = .returned (.bool false) ∧ Below w.heap.size w w' := fun i w => by
      have := hbad i w
      rwa [decide_eq_false (hgood i)] at this
    generalize bst l n = m at *
    have hmn : m < n := by omega
    clear hany hcap hmax hnil h0 hbad hgood hm
    replace hbest := Lib.hid hbest
    go_enter Try.func8, Try.ntmps8
    go_wp2_with (go_at_call 35; (with_reducible refine hbs.mono ?_); rintro e w1 ⟨rfl, hw1⟩)
    go_loopw [5] (fun t wr => ∃ k : Nat, k ≤ n ∧ t = .int .i64 k ∧ Below w.heap.size w wr) (fun t _ => n - (intOf t).toNat)
    case atStart => exact ⟨0, by omega, rfl, hw1⟩
    case round =>
      clear hw1
      obtain ⟨k, hk', rfl, hB⟩ := hrel
      by_cases hlt : k < n
      · have c0 := (hB.cell (p := ⟨b, o + k * 2, none⟩) hbl).trans (hc k hlt).1
        have c1 := (hB.cell (p := ⟨b, o + k * 2 + 1, none⟩) hbl).trans (hc k hlt).2
        have hb1 := hbad' k
        generalize gf l k = p at *
        unfold fV at hb1
        clear hc hcmp hbest hbad'
        go_wp2_with (go_at_call 33; (with_reducible refine (hb1 _).mono ?_); rintro e w2 ⟨rfl, hw2⟩)
        exact ⟨⟨k + 1, by omega, by go_num, bnext hB hw2⟩, by simp [intOf]; omega⟩
      · obtain rfl : k = n := by omega
        have m1 : ¬ ((m : Int) < 0) := by omega
        have m2 : ¬ ((k : Int) ≤ m) := by omega
        have m3 : decide ((m : Int) < 0) = false := decide_eq_false m1
        have m4 : decide ((k : Int) ≤ m) = false := decide_eq_false m2
        go_wp2
        go_loopw [6] (fun t wr => ∃ j : Nat, j ≤ k ∧ t = .int .i64 j ∧ Below w.heap.size w wr) (fun t _ => k - (intOf t).toNat)
        case atStart => exact ⟨0, by omega, rfl, hB⟩
        case round =>
          clear hB
          obtain ⟨j, hj, rfl, hB⟩ := hrel
          by_cases hlt2 : j < k
          · have c0 := (hB.cell (p := ⟨b, o + j * 2, none⟩) hbl).trans (hc j hlt2).1
            have c1 := (hB.cell (p := ⟨b, o + j * 2 + 1, none⟩) hbl).trans (hc j hlt2).2
            have d0 := (hB.cell (p := ⟨b, o + m * 2, none⟩) hbl).trans (hc m hmn).1
            have d1 := (hB.cell (p := ⟨b, o + m * 2 + 1, none⟩) hbl).trans (hc m hmn).2
            have hb1 := hcmp j m
            obtain ⟨x1, x2⟩ := hbest.out j hlt2
            generalize gf l j = p at *
            generalize gf l m = q at *
            generalize cmpF p q = x at *
            unfold fV at hb1
            clear hc hcmp hbest hbad'
            have x3 : ¬ 0 < x := by omega
            by_cases x0 : x = 0
            · subst x0
              have x4 := x2 rfl
              clear x1 x2 x3
              have x5 : ¬ (j : Int) < m := by omega
              go_wp2
              go_region_with (go_at_call 34; (with_reducible refine (hb1 _).mono ?_); rintro e w1 ⟨rfl, hw⟩)
              all_goals go_wp2
              all_goals exact ⟨⟨j + 1, by omega, by go_num, bnext hB.drew hw⟩, by simp [intOf]; omega⟩
            · have x6 : (x == 0) = false := by simpa using x0
              clear x2
              go_wp2
              go_region_with (go_at_call 34; (with_reducible refine (hb1 _).mono ?_); rintro e w1 ⟨rfl, hw⟩)
              all_goals go_wp2
              all_goals exact ⟨⟨j + 1, by omega, by go_num, bnext hB.drew hw⟩, by simp [intOf]; omega⟩
          · obtain rfl : j = k := by omega
            clear hc hcmp hbest hbad'
            go_wp2_with (go_at_call 31; (with_reducible refine (hk _).mono ?_); rintro e w8 ⟨rfl, hw8⟩)
            go_ret
            exact ⟨rfl, bnext hB hw8⟩
end Go.Proofs.Ytdnpbemkobhlcaa
