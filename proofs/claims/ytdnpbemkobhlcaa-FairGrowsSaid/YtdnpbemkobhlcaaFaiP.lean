/-
  The laws' walks: any sequence of operations.
-/
import Derived.Test.YtdnpbemkobhlcaaFaiO
set_option linter.unusedSimpArgs false
set_option linter.unusedVariables false
namespace Go.Proofs.Ytdnpbemkobhlcaa
open Go.RowKit
attribute [-go_sem] Instr.build

theorem below_keeps2 {w wr w' : World} {rb mb : Nat} (hB : Below w.heap.size w wr) (k : KeepsP (fun i => i ≠ rb ∧ i ≠ mb) wr w') (h1 : w.heap.size ≤ rb) (h2 : w.heap.size ≤ mb) : Below w.heap.size w w' :=
  hB.trans ⟨k.os, k.tape, k.output, k.size, fun i hi => k.same i (by have := hB.size; omega) ⟨by omega, by omega⟩⟩
/-- An operation of an argument that lies below base. -/
theorem do_opn {sb rb n m mb base : Nat} {S : Nat → Nat} (w0 w : World) (hB : Below base w0 w) (hb : base = w0.heap.size) (h : Duo w sb rb n m mb S) (mc : Nat) (x : Opn) (hx : Ints w0 x.a x.xs) (hnil : x.a = none → x.cap = 0) (h1 : x.xs.length ≤ 40) (hr : base ≤ rb) (hm : base ≤ mb) :
    Calls Try.prog 19 #[.pointer (some ⟨sb, 0, none⟩), .slice (some ⟨mb, 0, none⟩) n mc, .agg #[.int .i64 x.kd, .int .i64 x.u, .int .i64 x.b, .slice x.a x.xs.length x.cap]] w fun e w' => e = .returned (.bool true) ∧ Duo w' sb rb n m mb (stepS x.kd x.u x.b x.xs S n) ∧ KeepsP (fun i => i ≠ rb ∧ i ≠ mb) w w' := by
  subst hb
  refine do_any w h mc x.kd x.u x.b x.a x.xs.length x.cap x.xs (hx.below hB) rfl (by omega) hnil fun h0 g o e => ?_
  obtain ⟨g', o', e', hl, _⟩ := hx h0
  rw [e] at e'
  simp only [Option.some.injEq, Addr.mk.injEq] at e'
  omega
set_option maxHeartbeats 2000000 in
set_option maxRecDepth 100000 in
theorem walk_FairRuns (n : Int) (_hn : (Lit.int .i64 n).wf = true) (v : Value) (l : List Opn) (w : World) (hA : Asl w v l) :
    Calls Try.prog 13 #[.int .i64 n, v] w fun e w' => e = .returned (.bool true) ∧ Below w.heap.size w w' := by
  have hk := known_all
  clear _hn
  obtain ⟨a, cap, rfl, hcap, _, hat⟩ := hA
  by_cases hn : n < 1 ∨ 32 < n
  · have h0 := fun w => new_bad n hn w
    go_enter Try.func13, Try.ntmps13
    rcases hn with hn | hn
    · go_wp2_with (first
        | (go_at_call 17; (with_reducible refine (h0 _).mono ?_); rintro e w' ⟨rfl, hw⟩; rw [hw]; clear hw)
        | (go_at_call 16; (with_reducible refine (hk _).mono ?_); rintro e w9 ⟨rfl, hw9⟩))
      go_ret
      exact ⟨rfl, hw9⟩
    · have hn2 : ¬ n < 1 := by omega
      go_wp2_with (first
        | (go_at_call 17; (with_reducible refine (h0 _).mono ?_); rintro e w' ⟨rfl, hw⟩; rw [hw]; clear hw)
        | (go_at_call 16; (with_reducible refine (hk _).mono ?_); rintro e w9 ⟨rfl, hw9⟩))
      go_ret
      exact ⟨rfl, hw9⟩
  · obtain ⟨N, rfl⟩ : ∃ N : Nat, n = N := ⟨n.toNat, (Int.toNat_of_nonneg (by omega)).symm⟩
    have g1 : ¬ ((N : Int) < 1) := by omega
    have g2 : ¬ ((32 : Int) < N) := by omega
    have hN1 : 1 ≤ N := by omega
    have hN2 : N ≤ 32 := by omega
    have h0 := fun w => new_any N hN1 hN2 w
    have h1 := fun w => start_any N hN1 hN2 w
    obtain ⟨q, hq⟩ : ∃ q, q = l.length := ⟨_, rfl⟩
    replace hat := Lib.hid hat
    rw [← hq] at hcap ⊢
    replace hq := Lib.hid hq
    clear hn hcap
    by_cases hlen : 60 < q
    · go_enter Try.func13, Try.ntmps13
      go_wp2_with (first
        | (go_at_call 17; (with_reducible refine (h0 _).mono ?_); rintro e w1 ⟨sb, rb, rfl, hs1, hsb, hrb, hB1⟩; replace hs1 := Lib.hid hs1)
        | (go_at_call 16; (with_reducible refine (hk _).mono ?_); rintro e w9 ⟨rfl, hw9⟩))
      go_ret
      exact ⟨rfl, bnext hB1 hw9⟩
    · go_enter Try.func13, Try.ntmps13
      go_wp2_with (first
        | (go_at_call 17; (with_reducible refine (h0 _).mono ?_); rintro e w1 ⟨sb, rb, rfl, hs1, hsb, hrb, hB1⟩; have HS1 := Lib.hid hs1; clear hs1)
        | (go_at_call 18; (with_reducible refine (h1 _).mono ?_); rintro e w2 ⟨⟨mb, rfl, hmb, hm2⟩, hB2'⟩; have hB2 := bnext hB1 hB2'; have hD : RowKit.Hid (Duo w2 sb rb N N mb (fun _ => 1)) := Lib.hid ⟨HS1.out.below hB2', hm2, by have := HS1.out.c.lt; omega, by have := HS1.out.ltr; omega⟩; clear hm2)
        | (go_at_call 21; (with_reducible refine (hD.out.agrees).mono ?_); rintro e w' ⟨rfl, hw⟩; rw [hw]; clear hw))
      have hmb0 : w.heap.size ≤ mb := Nat.le_trans hB1.size hmb
      go_loopw [8] (fun t wr => ∃ (k : Nat) (S : Nat → Nat), k ≤ q ∧ t = .int .i64 k ∧ Duo wr sb rb N N mb S ∧ Below w.heap.size w wr) (fun t _ => q - (intOf t).toNat)
      case atStart => exact ⟨0, _, by omega, rfl, hD.out, hB2⟩
      case round =>
        clear hD hB2 h0 h1
        obtain ⟨k, S, hkq, rfl, hD, hB⟩ := hrel
        have HD := Lib.hid hD
        clear hD
        by_cases hlt : k < q
        · obtain ⟨g, o, rfl, hAt⟩ := hat.out k (by rw [← hq.out]; exact hlt)
          generalize l[k]'(by rw [← hq.out]; exact hlt) = x at *
          obtain ⟨c0, c1, c2, c3, hgl, hxs, hnil⟩ := hAt
          have d0 := (hB.cell (p := ⟨g, o + k * 4, none⟩) hgl).trans c0
          have d1 := (hB.cell (p := ⟨g, o + k * 4 + 1, none⟩) hgl).trans c1
          have d2 := (hB.cell (p := ⟨g, o + k * 4 + 2, none⟩) hgl).trans c2
          have d3 := (hB.cell (p := ⟨g, o + k * 4 + 3, none⟩) hgl).trans c3
          have hdo := fun (h1 : x.xs.length ≤ 40) => do_opn w wr hB rfl HD.out N x hxs hnil h1 hrb hmb0
          clear c0 c1 c2 c3 hxs hnil
          obtain ⟨kd, u, b, xa, xcap, xs⟩ := x
          dsimp only at *
          by_cases hx40 : 40 < xs.length
          · clear hdo
            generalize xs.length = xl at *
            go_wp2_with (go_at_call 16; (with_reducible refine (hk _).mono ?_); rintro e w9 ⟨rfl, hw9⟩)
            go_ret
            exact ⟨rfl, bnext hB hw9⟩
          · have hdo := hdo (by omega)
            generalize stepS kd u b xs S N = T at *
            generalize xs.length = xl at *
            go_wp2_with (first
              | (go_at_call 19; (with_reducible refine hdo.mono ?_); rintro e w3 ⟨rfl, hD3, hk3⟩; have HD3 := Lib.hid hD3; clear hD3)
              | (go_at_call 21; (with_reducible refine (HD3.out.agrees).mono ?_); rintro e w' ⟨rfl, hw⟩; rw [hw]; clear hw))
            exact ⟨⟨k + 1, T, by omega, by go_num, HD3.out, below_keeps2 hB hk3 hrb hmb0⟩, by simp [intOf]; omega⟩
        · obtain rfl : k = q := by omega
          go_wp2_with (go_at_call 16; (with_reducible refine (hk _).mono ?_); rintro e w9 ⟨rfl, hw9⟩)
          go_ret
          exact ⟨rfl, bnext hB hw9⟩
end Go.Proofs.Ytdnpbemkobhlcaa
