/-
  The laws' walks: the first user of the order.
-/
import Derived.Test.YtdnpbemkobhlcaaFaiO
set_option linter.unusedSimpArgs false
set_option linter.unusedVariables false
namespace Go.Proofs.Ytdnpbemkobhlcaa
open Go.RowKit
attribute [-go_sem] Instr.build

/-- How many of the first k users have a rate; the last of them. -/
def cntA (r : Nat → Nat) : Nat → Nat
  | 0 => 0
  | k + 1 => if 0 < r k then cntA r k + 1 else cntA r k
def lastA (r : Nat → Nat) : Nat → Nat
  | 0 => 0
  | k + 1 => if 0 < r k then k else lastA r k
theorem ordU_cnt (r S : Nat → Nat) : ∀ k, (ordU r S k).length = cntA r k
  | 0 => rfl
  | k + 1 => by
    have ih := ordU_cnt r S k
    have hle := insU_le r S (ordU r S k) k (ordU r S k).length
    rw [ordU, cntA]
    split
    · simp only [List.length_append, List.length_take, List.length_cons, List.length_drop]; omega
    · exact ih
theorem cntA_le (r : Nat → Nat) : ∀ k, cntA r k ≤ k
  | 0 => Nat.le_refl _
  | k + 1 => by
    have := cntA_le r k
    rw [cntA]; split <;> omega
theorem lastA_at (r : Nat → Nat) : ∀ k, 0 < cntA r k → lastA r k < k ∧ 0 < r (lastA r k)
  | 0, h => by cases h
  | k + 1, h => by
    rw [cntA] at h
    rw [lastA]
    split
    · rename_i c; exact ⟨by omega, c⟩
    · rename_i c
      rw [if_neg c] at h
      have := lastA_at r k h
      exact ⟨by omega, this.2⟩
theorem ordU_one (r S : Nat → Nat) (n : Nat) (h : cntA r n = 1) : (ordU r S n).getD 0 0 = lastA r n := by
  have hl := ordU_cnt r S n
  obtain ⟨h1, h2⟩ := lastA_at r n (by omega)
  have hm := (ordU_mem r S n (lastA r n)).2 ⟨h1, h2⟩
  rw [h] at hl
  obtain ⟨x, hx⟩ := List.length_eq_one_iff.1 hl
  rw [hx] at hm ⊢
  simp at hm
  simp [hm]
set_option maxHeartbeats 4000000 in
set_option maxRecDepth 100000 in
theorem walk_FairFirst (v : Value) (ys : List Int) (v2 : Value) (xs : List Int) (w : World) (hA : Isl w v ys) (hA2 : Isl w v2 xs) :
    Calls Try.prog 14 #[v, v2] w fun e w' => e = .returned (.bool true) ∧ Below w.heap.size w w' := by
  have hk := known_all
  obtain ⟨a, cap, rfl, hcap, hcm, hnil, hY, _⟩ := hA
  obtain ⟨a2, cap2, rfl, hcap2, hcm2, hnil2, hX, _⟩ := hA2
  obtain ⟨q2, hq2⟩ : ∃ q2, q2 = xs.length := ⟨_, rfl⟩
  obtain ⟨N, hN⟩ : ∃ N, N = ys.length := ⟨_, rfl⟩
  rw [← hq2] at hcap2 ⊢
  rw [← hN] at hcap ⊢
  have HX := Lib.hid hX
  replace hq2 := Lib.hid hq2
  have HY := Lib.hid hY
  replace hN := Lib.hid hN
  clear hX hY hnil hnil2
  by_cases hn : N < 1 ∨ 32 < N
  · go_enter Try.func14, Try.ntmps14
    rcases hn with hn | hn
    · go_wp2_with (go_at_call 16; (with_reducible refine (hk _).mono ?_); rintro e w9 ⟨rfl, hw9⟩)
      go_ret
      exact ⟨rfl, hw9⟩
    · have hn2 : ¬ N < 1 := by omega
      go_wp2_with (go_at_call 16; (with_reducible refine (hk _).mono ?_); rintro e w9 ⟨rfl, hw9⟩)
      go_ret
      exact ⟨rfl, hw9⟩
  have hN1 : 1 ≤ N := by omega
  have hN2 : N ≤ 32 := by omega
  have g1 : ¬ (N < 1) := by omega
  have g2 : ¬ (32 < N) := by omega
  have h0 := fun w => new_any N hN1 hN2 w
  obtain ⟨kr, o, rfl, hkr, hcy⟩ := HY.out (by rw [← hN.out]; omega)
  replace hcy := Lib.hid hcy
  clear hn
  go_enter Try.func14, Try.ntmps14
  go_wp2_with (go_at_call 17; (with_reducible refine (h0 _).mono ?_); rintro e w1 ⟨sb, rb, rfl, hs1, hsb, hrb, hB1⟩; have HS1 := Lib.hid hs1; clear hs1)
  go_loopw [7] (fun t wr => ∃ (k : Nat) (S : Nat → Nat), k ≤ N ∧ t = .int .i64 k ∧ Sch wr sb rb N N S ∧ Below w.heap.size w wr) (fun t _ => N - (intOf t).toNat)
  case atStart => exact ⟨0, _, by omega, rfl, HS1.out, hB1⟩
  case round =>
    clear HS1 hB1 h0
    obtain ⟨k, S, hkq, rfl, hS, hB⟩ := hrel
    have HS := Lib.hid hS
    clear hS
    by_cases hlt : k < N
    · have c0 := (hB.cell (p := ⟨kr, o + k, none⟩) hkr).trans (hcy.out k (by rw [← hN.out]; exact hlt))
      have hsv := serve_all wr HS.out k (ys.getD k 0)
      generalize ys.getD k 0 = y at *
      generalize serveS S N k y = T at *
      generalize serveE N k y = E at *
      go_wp2_with (go_at_call 26; (with_reducible refine hsv.mono ?_); rintro e w3 ⟨rfl, hs3, hb3⟩; have HS3 := Lib.hid hs3; clear hs3)
      exact ⟨⟨k + 1, T, by omega, by go_num, HS3.out, below_but hB hb3 hrb hB.size⟩, by simp [intOf]; omega⟩
    · obtain rfl : N = k := by omega
      clear hlt hkq
      have hsl := HS.out.c.lt
      have hrl := HS.out.ltr
      obtain ⟨W1, rfl⟩ : ∃ W1, W1 = wr := ⟨_, rfl⟩
      go_wp2
      go_loopw [8, 9] (fun u t wr2 => ∃ k : Nat, k ≤ N ∧ t = .int .i64 k ∧ OwnI wr2 W1.heap.size u ((List.range k).map S) ∧ Sch wr2 sb rb N N S ∧ W1.heap.size ≤ wr2.heap.size ∧ Below w.heap.size w wr2) (fun _ t _ => N - (intOf t).toNat)
      case atStart => exact ⟨0, by omega, rfl, OwnI.nil _ _, HS.out, Nat.le_refl _, hB⟩
      case round =>
        have hwr := Lib.hid hB.size
        clear HS hB
        obtain ⟨k, hkq, rfl, hO, hS, hsz, hB⟩ := hrel
        have HS := Lib.hid hS
        have HO := Lib.hid hO
        clear hS
        by_cases hlt : k < N
        · have hsv := fun W (h : Sch W sb rb N N S) => service_any W h k hlt
          have hbd := HS.out.bd k hlt
          have hnx : RowKit.Hid ((List.range k).map S ++ [S k] = (List.range (k + 1)).map S) := Lib.hid (by simp [List.range_succ])
          have hll : RowKit.Hid (((List.range k).map S).length = k) := Lib.hid (by simp)
          generalize S k = y at *
          obtain ⟨hb1, hb2⟩ := hbd
          clear hO
          replace hsv := Lib.hid hsv
          go_wp2_with (first
            | (go_at_call 25; (with_reducible refine (hsv.out _ HS.out).mono ?_); rintro e w' ⟨rfl, hw⟩; rw [hw]; clear hw)
            | (at_builtin; refine wpList_append_ints rfl _ _ rfl W1.heap.size _ ((List.range k).map S) rfl (OwnI.below HO.out (below_new (Below.refl _ _) _)) (some ⟨wr.heap.size, 0, none⟩) [y] 1 1 rfl rfl (fun e => nomatch e) (fun p e j hj => by cases e; obtain rfl : j = 0 := (by simpa using hj); rw [Go.WideShapes.add_plain, Nat.zero_add, (Blk.new _ _ _).cell]; rfl) (by rw [hll.out]; simp; omega) (by simp; omega) ?_; intro v' w3 hO3 hg3; rw [hnx.out] at hO3; have HO3 := Lib.hid hO3; clear hO3))
          have hown := HO.out
          have kk : KeepsP (fun i => u8.ownBlock ≠ some i) (wr.alloc (.cells #[.int .i64 y] 3)) w3 := ⟨hg3.os, hg3.tape, hg3.output, hg3.size, fun b hb hk => hg3.block b hb (fun e => hk e.symm)⟩
          have hn : ∀ i, i < W1.heap.size → u8.ownBlock ≠ some i := fun i hi e => by have := (hown.lt i e).1; omega
          have hs3 : Sch w3 sb rb N N S := (HS.out.below (below_new (Below.refl _ _) _)).keepsP kk (hn _ hsl) (hn _ hrl)
          have hB3 : Below w.heap.size w w3 := (below_new hB (.cells #[.int .i64 y] 3)).trans ⟨hg3.os, hg3.tape, hg3.output, hg3.size, fun i hi => hg3.block i (by have := hB.size; simp; omega) (fun e => hn i (by have := hwr.out; omega) e.symm)⟩
          exact ⟨⟨k + 1, by omega, by go_num, HO3.out, hs3, by have := hg3.size; simp at this; omega, hB3⟩, by simp [intOf]; omega⟩
        · obtain rfl : N = k := by omega
          clear hlt hkq
          have hO2 := HO.out
          clear hO
          rcases HO.out.form with ⟨_, he⟩ | ⟨ob, oc, rfl, hob, hobl, _, _, hocell, hofr⟩
          · have := congrArg List.length he
            simp at this
            omega
          have hln : RowKit.Hid (((List.range N).map S).length = N) := Lib.hid (by simp)
          rw [hln.out] at hocell ⊢
          replace hocell : RowKit.Hid (∀ i, i < N → _ = some (Value.int .i64 (S i : Nat))) := Lib.hid (fun i hi => (hocell i hi).trans (by simp [hi]))
          clear hO2 hofr
          have hpk := pick_any wr HS.out a2 q2 cap2 xs (HX.out.below hB) hq2.out
          have hfo := fun W (h : Sch W sb rb N N S) hI => forder_any W h a2 q2 cap2 xs hI hq2.out
          have hag := fun W (h : Sch W sb rb N N S) hc => agrees_any W h ob 0 oc hc
          unfold OrdA at hfo
          replace hag := Lib.hid hag
          by_cases hE : ordE xs N = 0
          · have hok : okR xs N := by
              unfold ordE at hE
              split at hE
              · assumption
              · cases hE
            have hq2N : N = q2 := by rw [hq2.out]; exact hok.1.symm
            subst hq2N
            have hlen : (ordL xs S N).length = cntA (rOf xs) N := by unfold ordL; rw [if_pos hok]; exact ordU_cnt _ _ _
            have hone : cntA (rOf xs) N = 1 → (ordL xs S N).getD 0 0 = lastA (rOf xs) N := by unfold ordL; rw [if_pos hok]; exact ordU_one _ _ _
            have hpe : pickE xs S N = if ordL xs S N = [] then 10 else 0 := by unfold pickE; rw [if_pos hE]
            have hpu : pickU xs S N = (ordL xs S N).getD 0 0 := rfl
            have hrx : RowKit.Hid (∀ i, i < N → xs.getD i 0 = (rOf xs i : Nat) ∧ rOf xs i ≤ 4294967296) := Lib.hid (fun i hi => okR_at hok i hi)
            rw [hpe, hpu] at hpk
            rw [hE, hlen] at hfo
            have hcle := cntA_le (rOf xs) N
            obtain ⟨c, hcc⟩ : ∃ c, cntA (rOf xs) N = c := ⟨_, rfl⟩
            rw [hcc] at hfo hlen hone hcle
            generalize ordL xs S N = l at *
            generalize rOf xs = r at *
            replace hcc := Lib.hid hcc
            clear hpe hpu hok hE
            by_cases hl : l = []
            · subst hl
              rw [if_pos rfl] at hpk
              obtain rfl : c = 0 := by simpa using hlen.symm
              simp only [List.getD_nil] at hpk
              replace hpk := Lib.hid hpk
              replace hfo := Lib.hid hfo
              clear hlen hone
              go_wp2_with (first
                | (go_at_call 22; (with_reducible refine hpk.out.mono ?_); rintro e w2 ⟨rfl, hw2⟩; have hB2 := bnext hB hw2; have HS2 := Lib.hid (HS.out.below hw2))
                | (go_at_call 23; (with_reducible refine (hfo.out _ HS2.out (HX.out.below hB2)).mono ?_); rintro e w3 ⟨⟨bo, co, rfl, hbo, _⟩, hw3⟩; have hB3 := bnext hB2 hw3; have HS3 := Lib.hid (HS2.out.below hw3); have HBO := Lib.hid hbo; clear hbo)
                | (go_at_call 21; (with_reducible refine (hag.out _ HS3.out (fun i hi => by rw [Nat.zero_add]; exact ((hw3.cell (p := ⟨ob, i, none⟩) (Nat.lt_of_lt_of_le hobl hw2.size)).trans ((hw2.cell (p := ⟨ob, i, none⟩) hobl).trans (hocell.out i hi))))).mono ?_); rintro e w' ⟨rfl, hw⟩; rw [hw]; clear hw))
              obtain ⟨k2, o2, rfl, hk2, hcx⟩ := HX.out (by rw [← hq2.out]; omega)
              have hcx3 : RowKit.Hid (∀ i, i < N → w3.cell? ⟨k2, o2 + i, none⟩ = some (.int .i64 (r i : Nat))) := Lib.hid (fun i hi => by rw [← (hrx.out i hi).1]; exact (hB3.cell (p := ⟨k2, o2 + i, none⟩) hk2).trans (hcx i (by rw [← hq2.out]; exact hi)))
              clear hcx
              obtain ⟨W3, rfl⟩ : ∃ W3, W3 = w3 := ⟨_, rfl⟩
              go_loopw [16, 17, 18] (fun u v t wr => ∃ k : Nat, k ≤ N ∧ t = .int .i64 k ∧ u = .int .i64 (cntA r k : Nat) ∧ v = .int .i64 (lastA r k : Nat) ∧ wr = W3) (fun _ _ t _ => N - (intOf t).toNat)
              case atStart => exact ⟨0, by omega, rfl, rfl, rfl, rfl⟩
              case round =>
                obtain ⟨k, hkN, rfl, hu, hv, hwr⟩ := hrel
                replace hwr := hwr.symm
                subst hwr
                by_cases hlt : k < N
                · subst hu
                  subst hv
                  have c0 := hcx3.out k hlt
                  have hc1 := cntA_le r k
                  have hnc : cntA r (k + 1) = if 0 < r k then cntA r k + 1 else cntA r k := rfl
                  have hnl : lastA r (k + 1) = if 0 < r k then k else lastA r k := rfl
                  generalize cntA r k = cc at *
                  generalize lastA r k = ll at *
                  generalize r k = y at *
                  by_cases hy : 0 < y
                  · rw [if_pos hy] at hnc hnl
                    have hyI : 0 < (y : Int) := by omega
                    replace hnc := Lib.hid hnc
                    replace hnl := Lib.hid hnl
                    go_wp2
                    exact ⟨⟨k + 1, by omega, by go_num, by rw [hnc.out]; go_num, by rw [hnl.out], trivial⟩, by simp [intOf]; omega⟩
                  · rw [if_neg hy] at hnc hnl
                    obtain rfl : y = 0 := by omega
                    replace hnc := Lib.hid hnc
                    replace hnl := Lib.hid hnl
                    clear hy
                    go_wp2
                    exact ⟨⟨k + 1, by omega, by go_num, by rw [hnc.out], by rw [hnl.out], trivial⟩, by simp [intOf]; omega⟩
                · obtain rfl : N = k := by omega
                  clear hlt hkN
                  rw [hcc.out] at hu
                  subst hu
                  subst hv
                  go_wp2_with (go_at_call 16; (with_reducible refine (hk _).mono ?_); rintro e w9 ⟨rfl, hw9⟩)
                  go_ret
                  exact ⟨rfl, bnext hB3 hw9⟩
            · rw [if_neg hl] at hpk
              have hz := fun w b h => ints_zero (w := w) (b := b) h hl
              have hc0 : 0 < c := by rw [← hlen]; exact List.length_pos_iff.2 hl
              have hc0b : ((c : Int) == 0) = false := by rw [beq_eq_false_iff_ne]; omega
              have hcc1 : ((c : Int) != c) = false := by simp
              clear hlen hl
              generalize l.getD 0 0 = x0 at *
              have ex : ((x0 : Int) == x0) = true := by simp
              have ex2 : ((x0 : Int) != x0) = false := by simp
              replace hz := Lib.hid hz
              replace hpk := Lib.hid hpk
              replace hfo := Lib.hid hfo
              replace hone := Lib.hid hone
              go_wp2_with (first
                | (go_at_call 22; (with_reducible refine hpk.out.mono ?_); rintro e w2 ⟨rfl, hw2⟩; have hB2 := bnext hB hw2; have HS2 := Lib.hid (HS.out.below hw2))
                | (go_at_call 23; (with_reducible refine (hfo.out _ HS2.out (HX.out.below hB2)).mono ?_); rintro e w3 ⟨⟨bo, co, rfl, hbo, _⟩, hw3⟩; have hB3 := bnext hB2 hw3; have HS3 := Lib.hid (HS2.out.below hw3); have HBO := Lib.hid hbo; clear hbo)
                | (go_at_call 21; (with_reducible refine (hag.out _ HS3.out (fun i hi => by rw [Nat.zero_add]; exact ((hw3.cell (p := ⟨ob, i, none⟩) (Nat.lt_of_lt_of_le hobl hw2.size)).trans ((hw2.cell (p := ⟨ob, i, none⟩) hobl).trans (hocell.out i hi))))).mono ?_); rintro e w' ⟨rfl, hw⟩; rw [hw]; clear hw))
              obtain ⟨g, og, rfl, hgc, hgl⟩ := hz.out _ _ HBO.out
              obtain ⟨k2, o2, rfl, hk2, hcx⟩ := HX.out (by rw [← hq2.out]; omega)
              have hcx3 : RowKit.Hid (∀ i, i < N → w3.cell? ⟨k2, o2 + i, none⟩ = some (.int .i64 (r i : Nat))) := Lib.hid (fun i hi => by rw [← (hrx.out i hi).1]; exact (hB3.cell (p := ⟨k2, o2 + i, none⟩) hk2).trans (hcx i (by rw [← hq2.out]; exact hi)))
              clear hcx
              obtain ⟨W3, rfl⟩ : ∃ W3, W3 = w3 := ⟨_, rfl⟩
              go_loopw [16, 17, 18] (fun u v t wr => ∃ k : Nat, k ≤ N ∧ t = .int .i64 k ∧ u = .int .i64 (cntA r k : Nat) ∧ v = .int .i64 (lastA r k : Nat) ∧ wr = W3) (fun _ _ t _ => N - (intOf t).toNat)
              case atStart => exact ⟨0, by omega, rfl, rfl, rfl, rfl⟩
              case round =>
                obtain ⟨k, hkN, rfl, hu, hv, hwr⟩ := hrel
                replace hwr := hwr.symm
                subst hwr
                by_cases hlt : k < N
                · subst hu
                  subst hv
                  have c0 := hcx3.out k hlt
                  have hc1 := cntA_le r k
                  have hnc : cntA r (k + 1) = if 0 < r k then cntA r k + 1 else cntA r k := rfl
                  have hnl : lastA r (k + 1) = if 0 < r k then k else lastA r k := rfl
                  generalize cntA r k = cc at *
                  generalize lastA r k = ll at *
                  generalize r k = y at *
                  by_cases hy : 0 < y
                  · rw [if_pos hy] at hnc hnl
                    have hyI : 0 < (y : Int) := by omega
                    replace hnc := Lib.hid hnc
                    replace hnl := Lib.hid hnl
                    go_wp2
                    exact ⟨⟨k + 1, by omega, by go_num, by rw [hnc.out]; go_num, by rw [hnl.out], trivial⟩, by simp [intOf]; omega⟩
                  · rw [if_neg hy] at hnc hnl
                    obtain rfl : y = 0 := by omega
                    replace hnc := Lib.hid hnc
                    replace hnl := Lib.hid hnl
                    clear hy
                    go_wp2
                    exact ⟨⟨k + 1, by omega, by go_num, by rw [hnc.out], by rw [hnl.out], trivial⟩, by simp [intOf]; omega⟩
                · obtain rfl : N = k := by omega
                  clear hlt hkN
                  rw [hcc.out] at hu
                  subst hu
                  subst hv
                  by_cases hc1 : c = 1
                  · have he := hone.out hc1
                    have hc1b : ((c : Int) == 1) = true := by simp [hc1]
                    rw [← he]
                    replace hc1 := Lib.hid hc1
                    clear he
                    go_wp2_with (go_at_call 16; (with_reducible refine (hk _).mono ?_); rintro e w9 ⟨rfl, hw9⟩)
                    go_ret
                    exact ⟨rfl, bnext hB3 hw9⟩
                  · have hc1b : ((c : Int) == 1) = false := by rw [beq_eq_false_iff_ne]; omega
                    replace hc1 := Lib.hid hc1
                    go_wp2_with (go_at_call 16; (with_reducible refine (hk _).mono ?_); rintro e w9 ⟨rfl, hw9⟩)
                    go_ret
                    exact ⟨rfl, bnext hB3 hw9⟩
          · have hL := ordL_none S hE
            have hpe : pickE xs S N = ordE xs N := by unfold pickE; rw [if_neg hE]
            have hpu : pickU xs S N = 0 := by unfold pickU; rw [hL]; rfl
            rw [hpe, hpu] at hpk
            rw [hL] at hfo
            have e0 : (ordE xs N != 0) = true := by simp [hE]
            have e1 : (ordE xs N == ordE xs N) = true := by simp
            clear hL hpe hpu hE
            generalize ordE xs N = E at *
            replace hpk := Lib.hid hpk
            replace hfo := Lib.hid hfo
            go_wp2_with (first
              | (go_at_call 22; (with_reducible refine hpk.out.mono ?_); rintro e w2 ⟨rfl, hw2⟩; have hB2 := bnext hB hw2; have HS2 := Lib.hid (HS.out.below hw2))
              | (go_at_call 23; (with_reducible refine (hfo.out _ HS2.out (HX.out.below hB2)).mono ?_); rintro e w3 ⟨⟨bo, co, rfl, hbo, _⟩, hw3⟩; have hB3 := bnext hB2 hw3; have HS3 := Lib.hid (HS2.out.below hw3); have HBO := Lib.hid hbo; clear hbo)
              | (go_at_call 21; (with_reducible refine (hag.out _ HS3.out (fun i hi => by rw [Nat.zero_add]; exact ((hw3.cell (p := ⟨ob, i, none⟩) (Nat.lt_of_lt_of_le hobl hw2.size)).trans ((hw2.cell (p := ⟨ob, i, none⟩) hobl).trans (hocell.out i hi))))).mono ?_); rintro e w' ⟨rfl, hw⟩; rw [hw]; clear hw)
              | (go_at_call 16; (with_reducible refine (hk _).mono ?_); rintro e w9 ⟨rfl, hw9⟩))
            go_ret
            exact ⟨rfl, bnext hB3 hw9⟩
end Go.Proofs.Ytdnpbemkobhlcaa
