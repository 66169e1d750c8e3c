/-
  Bit strings, walks: the statement BitstrConcat.
-/
import Derived.Test.YtflmbghbgmkdeaaBitV
set_option linter.unusedSimpArgs false
set_option linter.unusedVariables false
namespace Go.Proofs.Ytflmbghbgmkdeaa
open Go.RowKit
attribute [-go_sem] Instr.build

theorem Scr.set {w : World} {og base q : Nat} {Cc : Array Value} (hq : ∀ j, j < q → ∃ n : Int, Cc[j]? = some (.int .u8 n)) (hb : base ≤ og) (hk : Blk w og Cc 5) (i : Nat) (x : Int) : Scr (w.setCell ⟨og, i, none⟩ (.int .u8 x)) (some ⟨og, 0, none⟩) q base := ⟨fun _ =>
  ⟨og, _, rfl, hb, hk.set i _, fun j hj => by
    rw [Array.getElem?_setIfInBounds]
    obtain ⟨n, hn⟩ := hq j hj
    split
    · split
      · exact ⟨x, rfl⟩
      · rename_i h1 h2
        subst h1
        rw [Array.getElem?_eq_none (by omega)] at hn
        cases hn
    · exact ⟨n, hn⟩⟩⟩
set_option maxHeartbeats 4000000 in
set_option maxRecDepth 100000 in
theorem walk_BitstrConcat (v : Value) (ps : List (Value × List UInt8)) (w : World) (hp : Psl w v ps) :
    Calls Try.prog 8 #[v] w fun e w' => e = .returned (.bool true) ∧ Below w.heap.size w w' := by
  obtain ⟨i0, hi, hz0, hz1, hz2⟩ := info_parts info5
  have hk := works_any
  have HPP := Lib.hid hp
  obtain ⟨⟨a, cap, rfl, ha⟩, hall⟩ := id hp
  obtain ⟨n, hnn⟩ : ∃ n, n = ps.length := ⟨_, rfl⟩
  have HA := Lib.hid ha
  have HL := Lib.hid hall
  rw [← hnn] at HPP ⊢
  have HN := Lib.hid hnn
  clear ha hall hp hnn
  by_cases hn : 20 < n
  · go_enter Try.func8, Try.ntmps8
    go_wp2_with (go_at_call 10; (with_reducible refine (hk _).mono ?_); rintro e w9 ⟨rfl, hw9⟩)
    go_ret
    exact ⟨rfl, hw9⟩
  have hni : (n : Int) ≤ 20 := by omega
  have hcs := Lib.hid (fun k hk => catL_succ ps k hk)
  go_enter Try.func8, Try.ntmps8
  go_wp2_with fail
  go_loopw [3, 4] (fun t3 t4 wr => ∃ k : Nat, k ≤ n ∧ t4 = .int .i64 k ∧ wr.ownsRow w.heap.size 5 1 t3 (catL ps k).length ((catL ps k).map B) ∧ (∀ i (hi : i < ps.length), i < k → (ps[i]).2.length ≤ 200) ∧ Below w.heap.size w wr) (fun _ t _ => n - (intOf t).toNat)
  case atStart => exact ⟨0, by omega, rfl, by rw [catL_zero]; exact own_nil _ _, fun i _ h => absurd h (by omega), Below.refl _ _⟩
  case round =>
    obtain ⟨k, hkn, rfl, hown, hpre, hB⟩ := hrel
    by_cases hlt : k < n
    · have hlt' : k < ps.length := by rw [← HN.out]; exact hlt
      obtain ⟨b, o, rfl, hb, hc⟩ := HA.out (by omega)
      have c0 := (hB.cell (p := ⟨b, o + k, none⟩) hb).trans (hc k hlt')
      obtain ⟨ak, pk, ek, h1, h2, h3, h4⟩ := HL.out (ps[k]) (List.getElem_mem hlt')
      rw [ek] at c0
      have hs := hcs.out k hlt'
      have hnx : (ps[k]).2.length ≤ 200 → ∀ i (hi : i < ps.length), i < k + 1 → (ps[i]).2.length ≤ 200 := fun h i hi hik => by
        rcases Nat.lt_succ_iff_lt_or_eq.1 hik with h' | rfl
        · exact hpre i hi h'
        · exact h
      have hcat : ∀ j, j ≤ k → (catL ps j).length ≤ j * 200 := by
        intro j
        induction j with
        | zero => intro _; simp [catL]
        | succ j ih =>
          intro hj
          rw [catL_succ ps j (by omega), List.length_append]
          have := ih (by omega)
          have := hpre j (by omega) (by omega)
          omega
      have hcl := hcat k (Nat.le_refl _)
      have H3 := Lib.hid h3
      have H4 := Lib.hid (h4.cells hB)
      replace hs := Lib.hid hs
      replace hnx := Lib.hid hnx
      replace hcl := Lib.hid hcl
      clear hc h1 h2 h3 h4 ek hpre hcat
      obtain ⟨m, hm⟩ : ∃ m, m = (ps[k]'hlt').2 := ⟨_, rfl⟩
      rw [← hm] at c0 H4 hs hnx
      clear hm hlt'
      obtain ⟨ml, hml⟩ : ∃ ml, ml = m.length := ⟨_, rfl⟩
      rw [← hml] at c0 hnx
      replace hml := Lib.hid hml
      by_cases hm2 : 200 < ml
      · clear hnx
        go_wp2_with (go_at_call 10; (with_reducible refine (hk _).mono ?_); rintro e w9 ⟨rfl, hw9⟩)
        go_ret
        exact ⟨rfl, bnext hB hw9⟩
      · have hmi : (ml : Int) ≤ 200 := by omega
        have hnx2 := Lib.hid (hnx.out (by omega))
        clear hnx
        go_wp2_with (first
          | (at_builtin; refine wpList_append_bytes rfl (.tmp 26) (.tmp 30) 23 rfl w.heap.size 5 i0 Try.underlying23 hi hz0 hz1 hz2 _ (catL ps k) rfl hown ak m pk (by rw [hml.out]; rfl) H3.out H4.out ?_ ?_ ?_; (have := hcl.out; have := hml.out; omega); (exact hB.size); intro v9 w9 h9 g9)
          | fail)
        rw [← hs.out] at h9
        have hB9 := hB.grown g9 hB.size (own_ge hown)
        first
          | exact ⟨⟨k + 1, by omega, by go_num, h9, hnx2.out, hB9⟩, by simp [intOf]; omega⟩
          | (refine ⟨?_, by simp [intOf]; omega⟩; (repeat apply Exists.intro); exact ⟨⟨k + 1, by omega, by go_num, h9, hnx2.out, hB9⟩, rfl⟩)
    · obtain rfl : n = k := by omega
      have hlen : ∀ j (hj : j < ps.length), (ps[j]).2.length ≤ 200 := fun j hj => hpre j hj (by rw [HN.out]; exact hj)
      have hall2 : ∀ p ∈ ps, p.2.length ≤ 100000 := fun p hp => by
        obtain ⟨i, hi, rfl⟩ := List.getElem_of_mem hp
        have := hlen i hi; omega
      have hT := cat_part ps 200 hlen ps.length (Nat.le_refl _)
      have hT2 : (catL ps ps.length).length ≤ 4000 := by
        have := HN.out
        have h20 : ps.length ≤ 20 := by omega
        omega
      rw [HN.out] at hown
      have hPw := HPP.out.below hB
      have hcc := bconcat_any _ ps wr hPw (by have := HN.out; omega) (by omega) hall2
      have hrv := fun v W (h : Bsl W v (catL ps ps.length)) => rvalid_any (catL ps ps.length) v W h (by omega)
      have hsm := fun v u W (h : Bsl W v (catL ps ps.length)) (h2 : Bsl W u (catL ps ps.length)) => same_any (catL ps ps.length) (catL ps ps.length) v u W h h2
      have hnum := fun n W => num_any n W
      have hes : w.ownsRow = w.ownsRow := rfl
      rw [okb_cat] at hrv
      have HO := Lib.hid hown
      have HB := Lib.hid hB
      simp only [decide_true] at hsm
      have hokg := Lib.hid (fun (h : okP ps = true) j hj => okP_get h j hj)
      clear hes hpre hT hlt hown hcs
      cases hr : okP ps with
      | false =>
        rw [hr] at hrv hcc
        simp only [if_false, Bool.false_eq_true] at hcc
        clear hr hsm hokg
        replace hrv := Lib.hid hrv
        replace hcc := Lib.hid hcc
        go_wp2_with (first
          | (go_at_call 29; (with_reducible refine hcc.out.mono ?_); rintro e w1 ⟨v1, rfl, ho, hB1⟩; obtain ⟨xa, xc, rfl, _⟩ := bsl_own ho; have HO2 := Lib.hid (bsl_own (own_below HO.out hB1)); have HB1 := Lib.hid hB1; clear ho hB1)
          | (go_at_call 28; (with_reducible refine (hrv.out _ _ HO2.out).mono ?_); rintro e w' ⟨rfl, hw⟩; rw [hw]; clear hw)
          | (go_at_call 10; (with_reducible refine (hk _).mono ?_); rintro e w9 ⟨rfl, hw9⟩))
        go_ret
        exact ⟨rfl, bnext (bnext HB.out HB1.out) hw9⟩
      | true =>
        rw [hr] at hrv hcc
        simp only [if_true] at hcc
        have hok2 := Lib.hid (hokg.out hr)
        clear hr hokg
        replace hrv := Lib.hid hrv
        replace hcc := Lib.hid hcc
        replace hsm := Lib.hid hsm
        obtain ⟨T, hTT⟩ : ∃ T, T = (catL ps ps.length).length := ⟨_, rfl⟩
        have hT4 : T ≤ 4000 := by omega
        replace hTT := Lib.hid hTT
        go_wp2_with (first
          | (go_at_call 29; (with_reducible refine hcc.out.mono ?_); rintro e w1 ⟨v1, rfl, ho, hB1⟩; have HO2 := Lib.hid (bsl_own (own_below HO.out hB1)); have HX := Lib.hid (bsl_own ho); have HS := Lib.hid ho; have HB1 := Lib.hid hB1; clear ho hB1)
          | (go_at_call 28; (with_reducible refine (hrv.out _ _ HO2.out).mono ?_); rintro e w' ⟨rfl, hw⟩; rw [hw]; clear hw)
          | (go_at_call 16; (with_reducible refine (hnum _ _).mono ?_); rintro e w' ⟨rfl, hw⟩; rw [hw]; clear hw)
          | (go_at_call 15; (with_reducible refine (hsm.out _ _ _ HX.out HO2.out).mono ?_); rintro e w' ⟨rfl, hw⟩; rw [hw]; clear hw)
          | fail)
        obtain ⟨oA, oc, rfl, _, _, hsc, _⟩ := own_scr HS.out
        rw [← hTT.out] at hsc ⊢
        have hB2 := bnext HB.out HB1.out
        have hgw : w.heap.size ≤ wr.heap.size := HB.out.size
        have hP1 := Lib.hid (hPw.below HB1.out)
        clear HS HX HO2 HO HB hcc hrv hsm hPw hnum
        generalize wr.heap.size = base at *
        go_loopw [7] (fun t wr => ∃ k : Nat, k ≤ T ∧ t = .int .i64 k ∧ Scr wr oA T base ∧ Below w.heap.size w wr) (fun t _ => T - (intOf t).toNat)
        case atStart => exact ⟨0, by omega, rfl, hsc, hB2⟩
        case round =>
          clear hsc hB2
          rename World => wr2
          obtain ⟨k, hkT, rfl, hS, hB⟩ := hrel
          by_cases hlt : k < T
          · obtain ⟨og, Cc, rfl, hob, hcc, hcn⟩ := hS.all (by omega)
            obtain ⟨nn, hn2⟩ := hcn k hlt
            have c0 := (hcc.cell k).trans hn2
            have f0 := hcc.frozen k
            have HN2 := Lib.hid (fun x => Scr.set (base := base) hcn hob hcc k x)
            clear hcn hn2 hS hcc
            go_wp2
            exact ⟨⟨k + 1, by omega, by go_num, HN2.out _, hB.setCell (p := ⟨og, k, none⟩) (show w.heap.size ≤ og by omega) _⟩, by simp [intOf]; omega⟩
          · obtain rfl : k = T := by omega
            clear hS
            go_wp2_with fail
            go_loopw [8] (fun t wr => ∃ k : Nat, k ≤ n ∧ t = .int .i64 k ∧ Below w.heap.size w wr) (fun t _ => n - (intOf t).toNat)
            case atStart => exact ⟨0, by omega, rfl, hB⟩
            case round =>
              clear hB
              rename World => wr3
              obtain ⟨j, hjn, rfl, hB⟩ := hrel
              by_cases hlt2 : j < n
              · have hlt' : j < ps.length := by rw [← HN.out]; exact hlt2
                obtain ⟨b, o, rfl, hb, hc⟩ := HA.out (by omega)
                have c0 := (hB.cell (p := ⟨b, o + j, none⟩) hb).trans (hc j hlt')
                have hbs := HL.out (ps[j]) (List.getElem_mem hlt')
                have hrv := rvalid_any (ps[j]).2 (ps[j]).1 wr3 (hbs.below hB) (by have := hlen j hlt'; omega)
                rw [hok2.out j hlt'] at hrv
                replace hrv := Lib.hid hrv
                obtain ⟨ak, pk, ek, _⟩ := hbs
                rw [ek] at c0 hrv
                clear hc ek
                go_wp2_with (first
                  | (go_at_call 28; (with_reducible refine hrv.out.mono ?_); rintro e w' ⟨rfl, hw⟩; rw [hw]; clear hw)
                  | fail)
                exact ⟨⟨j + 1, by omega, by go_num, hB⟩, by simp [intOf]; omega⟩
              · obtain rfl : n = j := by omega
                go_wp2_with (go_at_call 10; (with_reducible refine (hk _).mono ?_); rintro e w9 ⟨rfl, hw9⟩)
                go_ret
                exact ⟨rfl, bnext hB hw9⟩
end Go.Proofs.Ytflmbghbgmkdeaa
