/-
  The laws' walks: what a turn adds.
-/
import Derived.Test.YtdnpbemkobhlcaaFaiQ
set_option linter.unusedSimpArgs false
set_option linter.unusedVariables false
namespace Go.Proofs.Ytdnpbemkobhlcaa
open Go.RowKit
attribute [-go_sem] Instr.build

set_option maxHeartbeats 4000000 in
set_option maxRecDepth 100000 in
theorem walk_FairGrows (v : Value) (ys : List Int) (v2 : Value) (xs : List Int) (w : World) (hA : Isl w v ys) (hA2 : Isl w v2 xs) :
    Calls Try.prog 15 #[v, v2] w fun e w' => e = .returned (.bool true) ∧ Below w.heap.size w w' := by
  have hk := known_all
  obtain ⟨a, cap, rfl, hcap, hcm, hnil, hY, _⟩ := hA
  obtain ⟨a2, cap2, rfl, hcap2, hcm2, hnil2, hX, _⟩ := hA2
  obtain ⟨q2, hq2⟩ : ∃ q2, q2 = xs.length := ⟨_, rfl⟩
  obtain ⟨N, hN⟩ : ∃ N, N = ys.length := ⟨_, rfl⟩
  rw [← hq2] at hcap2 ⊢
  rw [← hN] at hcap ⊢
  have HX := Lib.hid hX
  replace hq2 := Lib.hid hq2
  have HY := Lib.hid hY
  replace hN := Lib.hid hN
  clear hX hY hnil hnil2
  by_cases hn : N < 1 ∨ 32 < N
  · go_enter Try.func15, Try.ntmps15
    rcases hn with hn | hn
    · go_wp2_with (go_at_call 16; (with_reducible refine (hk _).mono ?_); rintro e w9 ⟨rfl, hw9⟩)
      go_ret
      exact ⟨rfl, hw9⟩
    · have hn2 : ¬ N < 1 := by omega
      go_wp2_with (go_at_call 16; (with_reducible refine (hk _).mono ?_); rintro e w9 ⟨rfl, hw9⟩)
      go_ret
      exact ⟨rfl, hw9⟩
  have hN1 : 1 ≤ N := by omega
  have hN2 : N ≤ 32 := by omega
  have g1 : ¬ (N < 1) := by omega
  have g2 : ¬ (32 < N) := by omega
  have h0 := fun w => new_any N hN1 hN2 w
  obtain ⟨kr, o, rfl, hkr, hcy⟩ := HY.out (by rw [← hN.out]; omega)
  replace hcy := Lib.hid hcy
  clear hn
  go_enter Try.func15, Try.ntmps15
  go_wp2_with (go_at_call 17; (with_reducible refine (h0 _).mono ?_); rintro e w1 ⟨sb, rb, rfl, hs1, hsb, hrb, hB1⟩; have HS1 := Lib.hid hs1; clear hs1)
  go_loopw [7] (fun t wr => ∃ (k : Nat) (S : Nat → Nat), k ≤ N ∧ t = .int .i64 k ∧ Sch wr sb rb N N S ∧ Below w.heap.size w wr) (fun t _ => N - (intOf t).toNat)
  case atStart => exact ⟨0, _, by omega, rfl, HS1.out, hB1⟩
  case round =>
    clear HS1 hB1 h0
    obtain ⟨k, S, hkq, rfl, hS, hB⟩ := hrel
    have HS := Lib.hid hS
    clear hS
    by_cases hlt : k < N
    · have c0 := (hB.cell (p := ⟨kr, o + k, none⟩) hkr).trans (hcy.out k (by rw [← hN.out]; exact hlt))
      have hsv := serve_all wr HS.out k (ys.getD k 0)
      generalize ys.getD k 0 = y at *
      generalize serveS S N k y = T at *
      generalize serveE N k y = E at *
      go_wp2_with (go_at_call 26; (with_reducible refine hsv.mono ?_); rintro e w3 ⟨rfl, hs3, hb3⟩; have HS3 := Lib.hid hs3; clear hs3)
      exact ⟨⟨k + 1, T, by omega, by go_num, HS3.out, below_but hB hb3 hrb hB.size⟩, by simp [intOf]; omega⟩
    · obtain rfl : N = k := by omega
      clear hlt hkq
      have hsl := HS.out.c.lt
      have hrl := HS.out.ltr
      obtain ⟨W1, rfl⟩ : ∃ W1, W1 = wr := ⟨_, rfl⟩
      go_wp2
      go_loopw [8, 9] (fun u t wr2 => ∃ k : Nat, k ≤ N ∧ t = .int .i64 k ∧ OwnI wr2 W1.heap.size u ((List.range k).map S) ∧ Sch wr2 sb rb N N S ∧ W1.heap.size ≤ wr2.heap.size ∧ Below w.heap.size w wr2) (fun _ t _ => N - (intOf t).toNat)
      case atStart => exact ⟨0, by omega, rfl, OwnI.nil _ _, HS.out, Nat.le_refl _, hB⟩
      case round =>
        have hwr := Lib.hid hB.size
        clear HS hB
        obtain ⟨k, hkq, rfl, hO, hS, hsz, hB⟩ := hrel
        have HS := Lib.hid hS
        have HO := Lib.hid hO
        clear hS
        by_cases hlt : k < N
        · have hsv := fun W (h : Sch W sb rb N N S) => service_any W h k hlt
          have hbd := HS.out.bd k hlt
          have hnx : RowKit.Hid ((List.range k).map S ++ [S k] = (List.range (k + 1)).map S) := Lib.hid (by simp [List.range_succ])
          have hll : RowKit.Hid (((List.range k).map S).length = k) := Lib.hid (by simp)
          generalize S k = y at *
          obtain ⟨hb1, hb2⟩ := hbd
          clear hO
          have b1 : ¬ ((y : Int) < 1) := by omega
          have b2 : ¬ ((2305843009213693952 : Int) < (y : Int)) := by omega
          clear hb2
          replace hsv := Lib.hid hsv
          go_wp2_with (first
            | (go_at_call 25; (with_reducible refine (hsv.out _ HS.out).mono ?_); rintro e w' ⟨rfl, hw⟩; rw [hw]; clear hw)
            | (at_builtin; refine wpList_append_ints rfl _ _ rfl W1.heap.size _ ((List.range k).map S) rfl (OwnI.below HO.out (below_new (Below.refl _ _) _)) (some ⟨wr.heap.size, 0, none⟩) [y] 1 1 rfl rfl (fun e => nomatch e) (fun p e j hj => by cases e; obtain rfl : j = 0 := (by simpa using hj); rw [Go.WideShapes.add_plain, Nat.zero_add, (Blk.new _ _ _).cell]; rfl) (by rw [hll.out]; simp; omega) (by simp; omega) ?_; intro v' w3 hO3 hg3; rw [hnx.out] at hO3; have HO3 := Lib.hid hO3; clear hO3))
          have hown := HO.out
          have kk : KeepsP (fun i => u8.ownBlock ≠ some i) (wr.alloc (.cells #[.int .i64 y] 3)) w3 := ⟨hg3.os, hg3.tape, hg3.output, hg3.size, fun b hb hk => hg3.block b hb (fun e => hk e.symm)⟩
          have hn : ∀ i, i < W1.heap.size → u8.ownBlock ≠ some i := fun i hi e => by have := (hown.lt i e).1; omega
          have hs3 : Sch w3 sb rb N N S := (HS.out.below (below_new (Below.refl _ _) _)).keepsP kk (hn _ hsl) (hn _ hrl)
          have hB3 : Below w.heap.size w w3 := (below_new hB (.cells #[.int .i64 y] 3)).trans ⟨hg3.os, hg3.tape, hg3.output, hg3.size, fun i hi => hg3.block i (by have := hB.size; simp; omega) (fun e => hn i (by have := hwr.out; omega) e.symm)⟩
          exact ⟨⟨k + 1, by omega, by go_num, HO3.out, hs3, by have := hg3.size; simp at this; omega, hB3⟩, by simp [intOf]; omega⟩
        · obtain rfl : N = k := by omega
          clear hlt hkq
          have hO2 := HO.out
          clear hO
          obtain ⟨ob, oc, rfl, hob, hmro⟩ := own_mro HO.out (by omega) hN2 HS.out.bd
          have hobl := hmro.lt
          have hown := Lib.hid hmro
          have hocell : RowKit.Hid (∀ i, i < N → wr.cell? ⟨ob, i, none⟩ = some (.int .i64 (S i : Nat))) := Lib.hid (fun i hi => hmro.cell i hi)
          clear hO2 hmro
          have htn := turn_any wr HS.out a2 q2 cap2 xs (HX.out.below hB) hq2.out
          have hag := fun W T (h : Sch W sb rb N N T) hc => agrees_any W h ob 0 oc hc
          replace hag := Lib.hid hag
          by_cases hE : pickE xs S N = 0
          · obtain ⟨p1, p2, p3⟩ := pick_good hE
            have hq2N : N = q2 := by rw [hq2.out]; exact p2.1.symm
            subst hq2N
            obtain ⟨p4, p5⟩ := okR_at p2 _ p1
            obtain ⟨k2, o2, rfl, hk2, hcx⟩ := HX.out (by rw [← hq2.out]; omega)
            have hc0 := hcx _ (by rw [← hq2.out]; exact p1)
            rw [p4] at hc0
            have hT : turnS xs S N = addS S (pickU xs S N) (rOf xs (pickU xs S N)) := by unfold turnS; rw [if_pos hE]
            rw [hT, hE] at htn
            have hub := (HS.out.bd _ p1).2
            have hcell := hocell.out
            have hct := hocell.out _ p1
            generalize pickU xs S N = u at *
            generalize rOf xs u = y at *
            replace htn := Lib.hid htn
            clear hT p2 p4 hcx hE hcell
            have u1 : ¬ ((u : Int) < 0) := by omega
            have y1 : ¬ ((y : Int) < 1) := by omega
            go_wp2_with (go_at_call 24; (with_reducible refine htn.out.mono ?_); rintro e w2 ⟨rfl, hs2, hb2⟩; have hk2' := hb2.keepsP; have hB2 := below_but hB hb2 hrb hB.size; have HS2 := Lib.hid hs2; clear hs2; have e1 := cell_keepsP ((hB.cell (p := ⟨k2, o2 + u, none⟩) hk2).trans hc0) hk2' (by have := hB.size; show k2 < wr.heap.size; omega) (by show k2 ≠ rb; omega); have hOb := Lib.hid (hown.out.keepsP hk2' (by show ob ≠ rb; omega)))
            have i1 : IntKind.i64.wrap ((S u : Int) + y) = ((S u + y : Nat) : Int) := by rw [IntWalk.i64_in _ (by omega)]; omega
            have hite : (if ((S u + y : Nat) : Int) < 2305843009213693952 then ((S u + y : Nat) : Int) else 2305843009213693952) = ((min (S u + y) 2305843009213693952 : Nat) : Int) := by split <;> omega
            obtain ⟨C, hC, hCs, hCc⟩ := hOb.out.r
            have e2 : w2.cell? ⟨ob, u, none⟩ = some (.int .i64 (S u : Nat)) := by rw [hC.cell]; exact hCc u p1
            have f2 := hC.frozen u
            have HC := Lib.hid hC
            have HCC := Lib.hid hCc
            have hZ : RowKit.Hid (addS S u y u = min (S u + y) 2305843009213693952) := Lib.hid (by unfold addS upd; rw [if_pos rfl])
            have hZn : RowKit.Hid (∀ i, i ≠ u → addS S u y i = S i) := Lib.hid (fun i hi => by unfold addS upd; rw [if_neg hi])
            clear hC hCc hct
            generalize addS S u y = T at *
            generalize hsy : S u + y = z at *
            generalize hsu : S u = s0 at *
            replace hsy := Lib.hid hsy
            replace hsu := Lib.hid hsu
            generalize min z 2305843009213693952 = z2 at *
            clear hub
            go_region
            all_goals
              have hC3 := (HC.out.set u (.int .i64 (z2 : Nat))).drew
              have HC3 := Lib.hid hC3
              have hB3 : RowKit.Hid (Below w.heap.size w (w2.setCell ⟨ob, u, none⟩ (.int .i64 (z2 : Nat))).drew) := Lib.hid (below_only hB2 (Only.setCell (b := ob) w2 u _) (by have := hwr.out; omega)).drew
              have HS3 : RowKit.Hid (Sch (w2.setCell ⟨ob, u, none⟩ (.int .i64 (z2 : Nat))).drew sb rb N N T) := Lib.hid (HS2.out.keepsP (K := fun i => i ≠ ob) ((KeepsP.refl _ _).only (Only.setCell (b := ob) w2 u _) (fun h => h rfl)) (by show sb ≠ ob; omega) (by show rb ≠ ob; omega)).drew
              clear hC3
              generalize (w2.setCell ⟨ob, u, none⟩ (.int .i64 (z2 : Nat))).drew = w3 at *
              have hcl3 : RowKit.Hid (∀ i, i < N → w3.cell? ⟨ob, 0 + i, none⟩ = some (.int .i64 (T i : Nat))) := Lib.hid (fun i hi => by
                rw [Nat.zero_add, HC3.out.cell, Array.getElem?_setIfInBounds]
                by_cases e : u = i
                · subst e; rw [if_pos rfl, if_pos (by omega), hZ.out]
                · rw [if_neg e, HCC.out i hi, hZn.out i (Ne.symm e)])
              go_wp2_with (first
                | (go_at_call 21; (with_reducible refine (hag.out _ _ HS3.out hcl3.out).mono ?_); rintro e w' ⟨rfl, hw⟩; rw [hw]; clear hw)
                | (go_at_call 16; (with_reducible refine (hk _).mono ?_); rintro e w9 ⟨rfl, hw9⟩))
              go_ret
              exact ⟨rfl, bnext hB3.out hw9⟩
          · have hT : turnS xs S N = S := by unfold turnS; rw [if_neg hE]
            rw [hT] at htn
            have e0 : (pickE xs S N == 0) = false := by simp [hE]
            clear hT hE
            generalize pickE xs S N = E at *
            generalize pickU xs S N = u at *
            replace htn := Lib.hid htn
            go_wp2_with (first
              | (go_at_call 24; (with_reducible refine htn.out.mono ?_); rintro e w2 ⟨rfl, hs2, hb2⟩; have hk2' := hb2.keepsP; have hB2 := below_but hB hb2 hrb hB.size; have HS2 := Lib.hid hs2; clear hs2)
              | (go_at_call 21; (with_reducible refine (hag.out _ _ HS2.out (fun i hi => by rw [Nat.zero_add]; exact cell_keepsP (p := ⟨ob, i, none⟩) (hocell.out i hi) hk2' hobl (by show ob ≠ rb; omega))).mono ?_); rintro e w' ⟨rfl, hw⟩; rw [hw]; clear hw)
              | (go_at_call 16; (with_reducible refine (hk _).mono ?_); rintro e w9 ⟨rfl, hw9⟩))
            go_ret
            exact ⟨rfl, bnext hB2 hw9⟩
end Go.Proofs.Ytdnpbemkobhlcaa
