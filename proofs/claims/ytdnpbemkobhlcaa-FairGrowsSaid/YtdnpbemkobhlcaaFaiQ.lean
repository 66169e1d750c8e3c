/-
  The laws' walks: copies.
-/
import Derived.Test.YtdnpbemkobhlcaaFaiP
set_option linter.unusedSimpArgs false
set_option linter.unusedVariables false
namespace Go.Proofs.Ytdnpbemkobhlcaa
open Go.RowKit
attribute [-go_sem] Instr.build

theorem own_mro {w : World} {base N : Nat} {v : Value} {S : Nat → Nat} (h : OwnI w base v ((List.range N).map S)) (h0 : 0 < N) (h32 : N ≤ 32) (hbd : ∀ i, i < N → 1 ≤ S i ∧ S i ≤ 2305843009213693952) :
    ∃ g cap, v = .slice (some ⟨g, 0, none⟩) N cap ∧ base ≤ g ∧ Mro w g N S := by
  obtain ⟨_, ⟨rfl, h1⟩ | ⟨g, cap, cur, rfl, hb, hh, hl, hm, hs, ht⟩⟩ := h
  · simp at h1; omega
  · simp only [List.length_map, List.length_range, Nat.mul_one] at hl hs ht
    refine ⟨g, cap, by simp, hb, ⟨cur, hh, by omega, fun i hi => ?_⟩, hbd, h32⟩
    rw [← Array.getElem?_toList, ← List.getElem?_take_of_lt hi, ht]
    simp [iv, hi]
/-- Both pairs of the law: the second lies apart from the first. -/
structure Two2 (w : World) (sb rb m mb sb' rb' m' mb' n : Nat) (S T : Nat → Nat) : Prop where
  p : Duo w sb rb n m mb S
  q : Duo w sb' rb' n m' mb' T
theorem Two2.step {w w' : World} {sb rb m mb sb' rb' m' mb' n : Nat} {S T T' : Nat → Nat} (h : Two2 w sb rb m mb sb' rb' m' mb' n S T) (hk : KeepsP (fun i => i ≠ rb' ∧ i ≠ mb') w w') (hq : Duo w' sb' rb' n m' mb' T')
    (h1 : sb ≠ rb' ∧ sb ≠ mb') (h2 : rb ≠ rb' ∧ rb ≠ mb') (h3 : mb ≠ rb' ∧ mb ≠ mb') : Two2 w' sb rb m mb sb' rb' m' mb' n S T' := ⟨h.p.keepsP hk h1 h2 h3, hq⟩
set_option maxHeartbeats 4000000 in
set_option maxRecDepth 100000 in
theorem walk_FairCopies (n : Int) (_hn : (Lit.int .i64 n).wf = true) (v : Value) (l : List Opn) (v2 : Value) (l2 : List Opn) (w : World) (hA : Asl w v l) (hA2 : Asl w v2 l2) :
    Calls Try.prog 3 #[.int .i64 n, v, v2] w fun e w' => e = .returned (.bool true) ∧ Below w.heap.size w w' := by
  have hk := known_all
  clear _hn
  obtain ⟨a, cap, rfl, hcap, _, hat⟩ := hA
  obtain ⟨a2, cap2, rfl, hcap2, _, hat2⟩ := hA2
  by_cases hn : n < 1 ∨ 32 < n
  · go_enter Try.func3, Try.ntmps3
    rcases hn with hn | hn
    · go_wp2_with (go_at_call 16; (with_reducible refine (hk _).mono ?_); rintro e w9 ⟨rfl, hw9⟩)
      go_ret
      exact ⟨rfl, hw9⟩
    · have hn2 : ¬ n < 1 := by omega
      go_wp2_with (go_at_call 16; (with_reducible refine (hk _).mono ?_); rintro e w9 ⟨rfl, hw9⟩)
      go_ret
      exact ⟨rfl, hw9⟩
  · obtain ⟨N, rfl⟩ : ∃ N : Nat, n = N := ⟨n.toNat, (Int.toNat_of_nonneg (by omega)).symm⟩
    have g1 : ¬ ((N : Int) < 1) := by omega
    have g2 : ¬ ((32 : Int) < N) := by omega
    have hN1 : 1 ≤ N := by omega
    have hN2 : N ≤ 32 := by omega
    have h0 := fun w => new_any N hN1 hN2 w
    have h1 := fun w => start_any N hN1 hN2 w
    obtain ⟨q, hq⟩ : ∃ q, q = l.length := ⟨_, rfl⟩
    obtain ⟨q2, hq2⟩ : ∃ q2, q2 = l2.length := ⟨_, rfl⟩
    replace hat := Lib.hid hat
    replace hat2 := Lib.hid hat2
    rw [← hq] at hcap ⊢
    rw [← hq2] at hcap2 ⊢
    replace hq := Lib.hid hq
    replace hq2 := Lib.hid hq2
    clear hn hcap hcap2
    by_cases hlen : 30 < q
    · go_enter Try.func3, Try.ntmps3
      go_wp2_with (go_at_call 16; (with_reducible refine (hk _).mono ?_); rintro e w9 ⟨rfl, hw9⟩)
      go_ret
      exact ⟨rfl, hw9⟩
    by_cases hlen2 : 30 < q2
    · go_enter Try.func3, Try.ntmps3
      go_wp2_with (go_at_call 16; (with_reducible refine (hk _).mono ?_); rintro e w9 ⟨rfl, hw9⟩)
      go_ret
      exact ⟨rfl, hw9⟩
    go_enter Try.func3, Try.ntmps3
    go_wp2_with (first
      | (go_at_call 17; (with_reducible refine (h0 _).mono ?_); rintro e w1 ⟨sb, rb, rfl, hs1, hsb, hrb, hB1⟩; have HS1 := Lib.hid hs1; clear hs1)
      | (go_at_call 18; (with_reducible refine (h1 _).mono ?_); rintro e w2 ⟨⟨mb, rfl, hmb, hm2⟩, hB2'⟩; have hB2 := bnext hB1 hB2'; have hD : RowKit.Hid (Duo w2 sb rb N N mb (fun _ => 1)) := Lib.hid ⟨HS1.out.below hB2', hm2, by have := HS1.out.c.lt; omega, by have := HS1.out.ltr; omega⟩; clear hm2))
    have hmb0 : w.heap.size ≤ mb := Nat.le_trans hB1.size hmb
    go_loopw [10] (fun t wr => ∃ (k : Nat) (S : Nat → Nat), k ≤ q ∧ t = .int .i64 k ∧ Duo wr sb rb N N mb S ∧ Below w.heap.size w wr) (fun t _ => q - (intOf t).toNat)
    case atStart => exact ⟨0, _, by omega, rfl, hD.out, hB2⟩
    case round =>
      clear hD hB2 h0 h1
      obtain ⟨k, S, hkq, rfl, hD, hB⟩ := hrel
      have HD := Lib.hid hD
      clear hD
      by_cases hlt : k < q
      · obtain ⟨g, o, rfl, hAt⟩ := hat.out k (by rw [← hq.out]; exact hlt)
        generalize l[k]'(by rw [← hq.out]; exact hlt) = x at *
        obtain ⟨c0, c1, c2, c3, hgl, hxs, hnil⟩ := hAt
        have d0 := (hB.cell (p := ⟨g, o + k * 4, none⟩) hgl).trans c0
        have d1 := (hB.cell (p := ⟨g, o + k * 4 + 1, none⟩) hgl).trans c1
        have d2 := (hB.cell (p := ⟨g, o + k * 4 + 2, none⟩) hgl).trans c2
        have d3 := (hB.cell (p := ⟨g, o + k * 4 + 3, none⟩) hgl).trans c3
        have hdo := fun (h1 : x.xs.length ≤ 40) => do_opn w wr hB rfl HD.out N x hxs hnil h1 hrb hmb0
        clear c0 c1 c2 c3 hxs hnil
        obtain ⟨kd, u, b, xa, xcap, xs⟩ := x
        dsimp only at *
        by_cases hx40 : 40 < xs.length
        · clear hdo
          generalize xs.length = xl at *
          go_wp2_with (go_at_call 16; (with_reducible refine (hk _).mono ?_); rintro e w9 ⟨rfl, hw9⟩)
          go_ret
          exact ⟨rfl, bnext hB hw9⟩
        · have hdo := hdo (by omega)
          generalize stepS kd u b xs S N = T at *
          generalize xs.length = xl at *
          go_wp2_with (go_at_call 19; (with_reducible refine hdo.mono ?_); rintro e w3 ⟨rfl, hD3, hk3⟩; have HD3 := Lib.hid hD3; clear hD3)
          exact ⟨⟨k + 1, T, by omega, by go_num, HD3.out, below_keeps2 hB hk3 hrb hmb0⟩, by simp [intOf]; omega⟩
      · obtain rfl : k = q := by omega
        have hcp := copy_any wr HD.out.s
        have hSl : ((List.range N).map S).length = N := by simp
        replace hSl := Lib.hid hSl
        have hsz := HD.out.s.c.lt
        have hsz2 := HD.out.s.ltr
        have hsz3 := HD.out.q.lt
        go_wp2_with (first
          | (go_at_call 20; (with_reducible refine hcp.mono ?_); rintro e w3 ⟨sb', rb', m', rfl, hs3, hsb', hrb', hB3'⟩; have hB3 := bnext hB hB3'; have HS3 := Lib.hid hs3; clear hs3; have hsz4 := HS3.out.c.lt; have hsz5 := HS3.out.ltr)
          | (at_builtin; refine wpList_append_ints rfl _ _ rfl w3.heap.size (.slice none 0 0) [] rfl (OwnI.nil _ _) (some ⟨mb, 0, none⟩) ((List.range N).map S) N N hSl.out.symm rfl (fun e => nomatch e) (fun p e j hj => by cases e; rw [List.length_map, List.length_range] at hj; rw [Go.WideShapes.add_plain, Nat.zero_add, (HD.out.q.below hB3').cell j hj]; simp [hj]) (by rw [hSl.out]; simp; omega) (Nat.le_refl _) ?_; intro v' w4 hO4 hg4; rw [List.nil_append] at hO4; obtain ⟨mb', mc', rfl, hmb', hm4⟩ := own_mro hO4 (by omega) hN2 HD.out.q.bd; have hB4' := below_grown hg4; have hB4 := bnext hB3 hB4'; have h2 : RowKit.Hid (Two2 w4 sb rb N mb sb' rb' m' mb' N S S) := Lib.hid ⟨(HD.out.below hB3').below hB4', ⟨HS3.out.below hB4', hm4, by omega, by omega⟩⟩; clear hm4 hO4))
        have hrb0 : w.heap.size ≤ rb' := Nat.le_trans hB.size hrb'
        have hmb2 : w.heap.size ≤ mb' := Nat.le_trans hB3.size hmb'
        have hwr : wr.heap.size ≤ w3.heap.size := hB3'.size
        clear hlt hcp hB4' hg4 hB3' HS3 hB3 HD hB
        go_loopw [13] (fun t wr => ∃ (k : Nat) (T : Nat → Nat), k ≤ q2 ∧ t = .int .i64 k ∧ Two2 wr sb rb N mb sb' rb' m' mb' N S T ∧ Below w.heap.size w wr) (fun t _ => q2 - (intOf t).toNat)
        case atStart => exact ⟨0, _, by omega, rfl, h2.out, hB4⟩
        case round =>
          clear h2 hB4
          obtain ⟨k, T, hkq, rfl, hD, hB⟩ := hrel
          have HD := Lib.hid hD
          clear hD
          by_cases hlt : k < q2
          · obtain ⟨g, o, rfl, hAt⟩ := hat2.out k (by rw [← hq2.out]; exact hlt)
            generalize l2[k]'(by rw [← hq2.out]; exact hlt) = x at *
            obtain ⟨c0, c1, c2, c3, hgl, hxs, hnil⟩ := hAt
            rename_i wr2
            have d0 := (hB.cell (p := ⟨g, o + k * 4, none⟩) hgl).trans c0
            have d1 := (hB.cell (p := ⟨g, o + k * 4 + 1, none⟩) hgl).trans c1
            have d2 := (hB.cell (p := ⟨g, o + k * 4 + 2, none⟩) hgl).trans c2
            have d3 := (hB.cell (p := ⟨g, o + k * 4 + 3, none⟩) hgl).trans c3
            have hdo := fun (h1 : x.xs.length ≤ 40) => do_opn w _ hB rfl HD.out.q mc' x hxs hnil h1 hrb0 hmb2
            clear c0 c1 c2 c3 hxs hnil
            obtain ⟨kd, u, b, xa, xcap, xs⟩ := x
            dsimp only at *
            by_cases hx40 : 40 < xs.length
            · clear hdo
              generalize xs.length = xl at *
              go_wp2_with (go_at_call 16; (with_reducible refine (hk _).mono ?_); rintro e w9 ⟨rfl, hw9⟩)
              go_ret
              exact ⟨rfl, bnext hB hw9⟩
            · have hdo := hdo (by omega)
              generalize stepS kd u b xs T N = T' at *
              generalize xs.length = xl at *
              go_wp2_with (go_at_call 19; (with_reducible refine hdo.mono ?_); rintro e w5 ⟨rfl, hD5, hk5⟩; have HD5 := Lib.hid (HD.out.step hk5 hD5 ⟨by omega, by omega⟩ ⟨by omega, by omega⟩ ⟨by omega, by omega⟩); clear hD5)
              exact ⟨⟨k + 1, T', by omega, by go_num, HD5.out, below_keeps2 hB hk5 hrb0 hmb2⟩, by simp [intOf]; omega⟩
          · obtain rfl : k = q2 := by omega
            go_wp2_with (first
              | (go_at_call 21; first
                | ((with_reducible refine (HD.out.p.agrees).mono ?_); rintro e w' ⟨rfl, hw⟩; rw [hw]; clear hw)
                | ((with_reducible refine (HD.out.q.agrees).mono ?_); rintro e w' ⟨rfl, hw⟩; rw [hw]; clear hw))
              | (go_at_call 16; (with_reducible refine (hk _).mono ?_); rintro e w9 ⟨rfl, hw9⟩))
            go_ret
            exact ⟨rfl, bnext hB hw9⟩
end Go.Proofs.Ytdnpbemkobhlcaa
