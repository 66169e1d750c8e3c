/-
  The laws' walks: any sequence of operations on both sides.
-/
import Derived.Test.YthbpmofabcilhaaHarZ
import Derived.Test.YthbpmofabcilhaaTl2
set_option linter.unusedSimpArgs false
set_option linter.unusedVariables false
namespace Go.Proofs.Ythbpmofabcilhaa
open Go.RowKit
attribute [-go_sem] Instr.build

theorem below_but2 {w wr w' : World} {b : Nat} (hB : Below w.heap.size w wr) (k : But b wr.heap.size wr w') (h : w.heap.size ≤ b) : Below w.heap.size w w' :=
  hB.trans ⟨k.os, k.tape, k.output, k.size, fun i hi => k.block i (by have := hB.size; omega) (by omega)⟩
theorem drew_hp {w : World} {b : Nat} {v : Value} {m : Hq} (h : HP w b v m) : HP w.drew b v m := ⟨h.1.drew, h.2⟩
theorem build48a (n : Int) (w : World) : (Instr.build 48 #[(0, .int .i64 n)]).run Try.prog w = .ok (.agg #[.int .i64 n, .int .i64 0, .slice none 0 0, .int .i64 0, .int .i64 0, .int .i64 0]) w := run_build w 48 _ _ (by kernel_rfl)
theorem okH0 (n : Nat) (h1 : 1 ≤ n) (h2 : n ≤ 16) : OkH (H0 n) := ⟨h1, h2, Nat.zero_le _, by show 0 < n; omega, Nat.zero_le _, Nat.zero_le _, Nat.zero_le _⟩
theorem few_len {l : List Opn} (h : fewB l = true) (k : Nat) (hk : k < l.length) : l[k].l.length ≤ 100 := by
  unfold fewB at h
  rw [Bool.and_eq_true, List.all_eq_true] at h
  exact of_decide_eq_true (h.2 _ (List.getElem_mem hk))
/-- What the region of an operation reads. -/
abbrev OpS (g7 : Nat) (C : Array Value) (g o k : Nat) (kd : Int) (xa : Option Addr) (xq xcap : Nat) (xt xc : Int) (W' : World) : Prop :=
  Blk W' g7 C 48 ∧ W'.cell? ⟨g, o + k * 4, none⟩ = some (.int .i64 kd) ∧ W'.cell? ⟨g, o + k * 4 + 1, none⟩ = some (.slice xa xq xcap) ∧ W'.cell? ⟨g, o + k * 4 + 2, none⟩ = some (.int .i64 xt) ∧ W'.cell? ⟨g, o + k * 4 + 3, none⟩ = some (.int .i64 xc)
theorem but_cell {b n : Nat} {w w' : World} (k : But b n w w') (p : Addr) (h1 : p.block < n) (h2 : p.block ≠ b) : w'.cell? p = w.cell? p := by
  unfold World.cell?
  rw [k.block p.block h1 h2]
theorem OpS.but {g7 : Nat} {C : Array Value} {g o k : Nat} {kd : Int} {xa : Option Addr} {xq xcap : Nat} {xt xc : Int} {w w' : World} {b : Nat} (hgb : g ≠ b) (h7b : g7 ≠ b) (hg : g < w.heap.size) (h : OpS g7 C g o k kd xa xq xcap xt xc w) (hk : But b w.heap.size w w') : OpS g7 C g o k kd xa xq xcap xt xc w' :=
  ⟨h.1.but hk h.1.lt h7b, (but_cell hk _ hg hgb).trans h.2.1, (but_cell hk _ hg hgb).trans h.2.2.1, (but_cell hk _ hg hgb).trans h.2.2.2.1, (but_cell hk _ hg hgb).trans h.2.2.2.2⟩
/-- The cells of an operation, in a later world. -/
theorem AtO.later {w wr : World} {g o i : Nat} {x : Opn} (h : AtO w g o i x) (hB : Below w.heap.size w wr) : AtO wr g o i x :=
  ⟨(hB.cell (p := ⟨g, o + i * 4, none⟩) h.lt).trans h.c0, (hB.cell (p := ⟨g, o + i * 4 + 1, none⟩) h.lt).trans h.c1, (hB.cell (p := ⟨g, o + i * 4 + 2, none⟩) h.lt).trans h.c2, (hB.cell (p := ⟨g, o + i * 4 + 3, none⟩) h.lt).trans h.c3, by have := hB.size; have := h.lt; omega, h.by_.cells hB, h.nil⟩
/-- One process and the reference's, in the law's rounds. -/
structure Pair (w wr : World) (b g7 : Nat) (v u : Value) (m : Hq) : Prop where
  ok : OkH m
  p : HP wr b v m
  r : RP wr u m
  c : Blk wr g7 (cellsR u m) 48
  k : Below w.heap.size w wr
theorem Pair.next {w W7 w9 w10 : World} {b g7 : Nat} {v u : Value} {m : Hq} {C : Array Value} (hok : OkH m) (hB7 : Below w.heap.size w W7) (hD : DoI W7 w9 b v u m m) (hbw : w.heap.size ≤ b) (h7 : b < g7) (h9 : Blk w9 g7 C 48) (ho : Only g7 w9 w10) (h10 : Blk w10 g7 (cellsR u m) 48) : Pair w w10 b g7 v u m :=
  ⟨hok, ⟨hD.p.1.only ho (by omega), own_only hD.p.2 ho (own_ne_blk hD.p.2 h9 (by decide))⟩, own_only hD.r ho (own_ne_blk hD.r h9 (by decide)), h10, below_only (below_but2 hB7 hD.k hbw) ho (by omega)⟩
theorem few_q {l : List Opn} (h : fewB l = true) : l.length ≤ 100 := by
  unfold fewB at h
  rw [Bool.and_eq_true] at h
  exact of_decide_eq_true h.1
set_option maxHeartbeats 4000000 in
set_option maxRecDepth 100000 in
theorem walk_HarqtxRuns (n : Int) (_hn : (Lit.int .i64 n).wf = true) (v : Value) (l : List Opn) (w : World) (hA : Asl w v l) :
    Calls Try.prog 5 #[.int .i64 n, v] w fun e w' => e = .returned (.bool true) ∧ Below w.heap.size w w' := by
  have hk := known_any
  have hfew := fun W h => few_any W v l h
  clear _hn
  obtain ⟨a, cap, rfl, hcap, hmx, hat⟩ := id hA
  by_cases hn : n < 1 ∨ 16 < n
  · have h0 := fun w => new_err n hn w
    have e1 : ((2 : Int) == 2) = true := rfl
    clear hat hfew hA
    go_enter Try.func5, Try.ntmps5
    rcases hn with hn | hn
    · go_wp2_with (first
        | (go_at_call 10; (with_reducible refine (h0 _).mono ?_); rintro e w' ⟨rfl, hw⟩; rw [hw]; clear hw)
        | (go_at_call 9; (with_reducible refine (hk _).mono ?_); rintro e w9 ⟨rfl, hw9⟩))
      go_ret
      exact ⟨rfl, hw9⟩
    · have hn2 : ¬ n < 1 := by omega
      go_wp2_with (first
        | (go_at_call 10; (with_reducible refine (h0 _).mono ?_); rintro e w' ⟨rfl, hw⟩; rw [hw]; clear hw)
        | (go_at_call 9; (with_reducible refine (hk _).mono ?_); rintro e w9 ⟨rfl, hw9⟩))
      go_ret
      exact ⟨rfl, hw9⟩
  · obtain ⟨N, rfl⟩ : ∃ N : Nat, n = N := ⟨n.toNat, (Int.toNat_of_nonneg (by omega)).symm⟩
    have g1 : ¬ ((N : Int) < 1) := by omega
    have g2 : ¬ ((16 : Int) < N) := by omega
    have hN1 : 1 ≤ N := by omega
    have hN2 : N ≤ 16 := by omega
    have h0 := new_lit N N rfl hN1 hN2 w
    have hAl : ∀ W, Below w.heap.size w W → Asl W (.slice a l.length cap) l := fun W hB => ⟨a, cap, rfl, hcap, hmx, fun i hi => by
      obtain ⟨g, o, e, h⟩ := hat i hi
      exact ⟨g, o, e, h.later hB⟩⟩
    obtain ⟨q, hq⟩ : ∃ q, q = l.length := ⟨_, rfl⟩
    rw [← hq] at hfew hcap hAl ⊢
    replace hat := Lib.hid hat
    replace hq := Lib.hid hq
    replace hAl := Lib.hid hAl
    replace hfew := Lib.hid hfew
    clear hn hA hmx
    cases hfw : fewB l with
    | false =>
      rw [hfw] at hfew
      clear hfw
      go_enter Try.func5, Try.ntmps5
      go_wp2_with (first
        | (go_at_call 10; (with_reducible refine h0.mono ?_); rintro e w1 ⟨rfl, hp1, hB1, hlt1⟩; have HP1 := Lib.hid hp1; have HB1 := Lib.hid hB1; clear hp1 hB1)
        | (go_at_call 17; (with_reducible refine (hfew.out _ (hAl.out _ HB1.out)).mono ?_); rintro e w2 ⟨rfl, hw2⟩; rw [hw2]; clear hw2)
        | (go_at_call 9; (with_reducible refine (hk _).mono ?_); rintro e w9 ⟨rfl, hw9⟩))
      go_ret
      exact ⟨rfl, bnext HB1.out hw9⟩
    | true =>
      rw [hfw] at hfew
      have z1 := zero48'
      obtain ⟨Z, hZ⟩ : ∃ Z, Z = cellsR (.slice none 0 0) ⟨0, 0, [], 0, 0, 0⟩ := ⟨_, rfl⟩
      rw [← hZ] at z1
      have hZs := Lib.hid (show Z.size = 6 by rw [hZ]; rfl)
      have HF := Lib.hid hfw
      have hq100 : q ≤ 100 := by rw [hq.out]; exact few_q hfw
      have hbd := build48a (N : Nat)
      obtain ⟨R0, hR0⟩ : ∃ R0 : Array Value, R0 = #[.int .i64 (N : Nat), .int .i64 0, .slice none 0 0, .int .i64 0, .int .i64 0, .int .i64 0] := ⟨_, rfl⟩
      have hR0c : cellsR (.slice none 0 0) (H0 N) = R0 := hR0.symm
      have hR0s := Lib.hid (show R0.size = 6 by rw [hR0]; rfl)
      have hR01 := Lib.hid (show R0.all (·.oneCell') = true by rw [← hR0c]; exact cellsR_one _ rfl)
      have hag : ∀ W b, Blk W b (cellsH (.slice none 0 0) (H0 N)) 64 → Calls Try.prog 18 #[.pointer (some ⟨b, 0, none⟩), .agg #[.int .i64 (N : Nat), .int .i64 0, .slice none 0 0, .int .i64 0, .int .i64 0, .int .i64 0]] W fun e w' => e = .returned (.bool true) ∧ Below W.heap.size W w' := fun W b h => agrees_any b _ (.slice none 0 0) (H0 N) (okH0 N hN1 hN2) W h
      have hok0 := Lib.hid (okH0 N hN1 hN2)
      have HR0 := Lib.hid hR0
      have HR0c := Lib.hid hR0c
      replace hag := Lib.hid hag
      rw [← hR0] at hbd
      obtain ⟨b, hb⟩ : ∃ b, b = w.heap.size := ⟨_, rfl⟩
      have hbw : w.heap.size ≤ b := by omega
      rw [← hb] at h0
      replace hb := Lib.hid hb
      clear hfw hZ hR0 hR0c
      go_enter Try.func5, Try.ntmps5
      go_wp2_with (first
        | (go_at_call 10; (with_reducible refine h0.mono ?_); rintro e w1 ⟨rfl, hp1, hB1, hlt1⟩; rw [hb.out] at hB1; have HP1 := Lib.hid hp1; have HB1 := Lib.hid hB1; have kz : Blk (w1.alloc (.cells Z 48)) w1.heap.size Z 48 := Blk.new' rfl; clear hp1 hB1 h0)
        | (go_at_call 17; (with_reducible refine (hfew.out _ (hAl.out _ HB1.out)).mono ?_); rintro e w2 ⟨rfl, hw2⟩; rw [hw2]; clear hw2)
        | ((with_reducible refine wpList_store_blk rfl 48 _ _ rfl w1.heap.size 0 6 R0 rfl rfl kz row48 hR0s.out (by rw [hZs.out]; exact Nat.le_refl 6) hR01.out ?_); intro w3 hb3 ho3; rw [splice_full _ _ (by rw [hZs.out, hR0s.out])] at hb3; have hB3 := below_only (bnext HB1.out (alloc_below w1 (.cells Z 48))) ho3 HB1.out.size; have hp3 : HP w3 b (.slice none 0 0) (H0 N) := ⟨((HP1.out.1).alloc _).only ho3 (by omega), World.ownsRow_nil _ _ _ _⟩; have HP3 := Lib.hid hp3; have HB3 := Lib.hid hB3; have KB3 := Lib.hid hb3; have c0 : w3.cell? ⟨w1.heap.size, 0, none⟩ = some (.int .i64 (N : Nat)) := by rw [hb3.cell, HR0.out]; rfl
           have c1 : w3.cell? ⟨w1.heap.size, 1, none⟩ = some (.int .i64 0) := by rw [hb3.cell, HR0.out]; rfl
           have c2 : w3.cell? ⟨w1.heap.size, 2, none⟩ = some (.slice none 0 0) := by rw [hb3.cell, HR0.out]; rfl
           have c3 : w3.cell? ⟨w1.heap.size, 3, none⟩ = some (.int .i64 0) := by rw [hb3.cell, HR0.out]; rfl
           have c4 : w3.cell? ⟨w1.heap.size, 4, none⟩ = some (.int .i64 0) := by rw [hb3.cell, HR0.out]; rfl
           have c5 : w3.cell? ⟨w1.heap.size, 5, none⟩ = some (.int .i64 0) := by rw [hb3.cell, HR0.out]; rfl
           have hsz3 := hb3.lt
           clear hb3 ho3 hB3 hp3)
        | (go_at_call 18; (with_reducible refine (hag.out _ _ HP3.out.1).mono ?_); rintro e w4 ⟨rfl, hB4⟩; have hpr : RowKit.Hid (Pair w w4 b w1.heap.size (.slice none 0 0) (.slice none 0 0) (H0 N)) := Lib.hid ⟨hok0.out, HP3.out.below hB4, World.ownsRow_nil _ _ _ _, by rw [HR0c.out]; exact KB3.out.below hB4 KB3.out.lt, bnext HB3.out hB4⟩; clear hB4 c0 c1 c2 c3 c4 c5))
      have hb7 : b < w1.heap.size := hlt1
      clear hlt1 HP1 HP3 KB3 HB3 hag hR01 hR0s HR0 HR0c hok0 hbd kz
      generalize w1.heap.size = g7 at *
      go_loopw [8] (fun t wr => ∃ (k : Nat) (v u : Value) (m : Hq), k ≤ q ∧ t = .int .i64 k ∧ Pair w wr b g7 v u m) (fun t _ => q - (intOf t).toNat)
      case atStart => exact ⟨0, _, _, _, by omega, rfl, hpr.out⟩
      case round =>
        clear hpr
        obtain ⟨k, v, u, m, hkq, rfl, hP⟩ := hrel
        by_cases hlt : k < q
        · obtain ⟨g, o, rfl, hAt⟩ := hat.out k (by rw [← hq.out]; exact hlt)
          have hx1 := few_len HF.out k (by rw [← hq.out]; exact hlt)
          generalize l[k]'(by rw [← hq.out]; exact hlt) = x at *
          have hg := hAt.lt
          have hap : ∀ b, w.heap.size ≤ b → 0 < x.l.length → ∀ g o, x.a = some ⟨g, o, none⟩ → g ≠ b := fun b hb h0 g o e => by
            obtain ⟨g', o', e', hl, _⟩ := hAt.by_ h0
            rw [e] at e'
            simp only [Option.some.injEq, Addr.mk.injEq] at e'
            omega
          obtain ⟨c0, c1, c2, c3, hgl, hby, hnil⟩ := hAt.later hP.k
          obtain ⟨kd, xa, xcap, xl, xt, xc⟩ := x
          dsimp only at c0 c1 c2 c3 hby hnil hx1 hap
          obtain ⟨xq, hxq⟩ : ∃ xq, xq = xl.length := ⟨_, rfl⟩
          rw [← hxq] at c1
          have hdo := fun W (h1 : HP W b v m) (h2 : RP W u m) (h3 : Byt W xa xl) => do_any b v u m hP.ok kd xt xc xl xa xq xcap hxq W h1 h2 h3 hnil (by omega) (hap b hbw)
          have hM1 := Lib.hid (okH_do hP.ok kd xt xc xl (by omega))
          obtain ⟨M1, hM⟩ : ∃ M1, M1 = doS kd xt xc xl m := ⟨_, rfl⟩
          rw [← hM] at hM1
          simp only [← hM] at hdo
          obtain ⟨C, hC⟩ : ∃ C, C = cellsR u m := ⟨_, rfl⟩
          rw [← hC] at hdo
          have hCs := Lib.hid (show C.size = 6 by rw [hC]; rfl)
          have hCw := Lib.hid (show C.extract 0 (0 + 6) = C by rw [hC]; rfl)
          have HBY7 : RowKit.Hid (Byt wr.drew xa xl) := Lib.hid hby
          have HDO := Lib.hid (fun W h1 h2 => hdo W h1 h2)
          have hbr : b < wr.drew.heap.size := hP.p.1.lt
          have hB7 : Below w.heap.size w wr.drew := hP.k.drew
          have s0 : OpS g7 C g o k kd xa xq xcap xt xc wr.drew := ⟨by rw [hC]; exact hP.c.drew, c0, c1, c2, c3⟩
          have HST := Lib.hid (fun w' h hk => OpS.but (w := wr.drew) (w' := w') (b := b) (g7 := g7) (C := C) (kd := kd) (xa := xa) (xq := xq) (xcap := xcap) (xt := xt) (xc := xc) (g := g) (o := o) (k := k) (by omega) (by omega) hgl h hk)
          have HP7 := Lib.hid (drew_hp hP.p)
          have HR7 : RowKit.Hid (RP wr.drew u m) := Lib.hid hP.r
          clear hdo hM hC hap hnil hx1 c0 c1 c2 c3 hby hxq
          go_wp2
          refine wp_region_any (by kernel_rfl) ?_
          refine wpAny_of_till (S := fun W' => Blk W' g7 C 48 ∧ W'.cell? ⟨g, o + k * 4, none⟩ = some (.int .i64 kd) ∧ W'.cell? ⟨g, o + k * 4 + 1, none⟩ = some (.slice xa xq xcap) ∧ W'.cell? ⟨g, o + k * 4 + 2, none⟩ = some (.int .i64 xt) ∧ W'.cell? ⟨g, o + k * 4 + 3, none⟩ = some (.int .i64 xc)) (m := 10) _ _ _ _ ?_
          show wpAnyT _ _ _ _ _ _ _ _ _ wr.drew
          generalize wr.drew = W7 at *
          refine wpAnyT_takeD 0 (some 51) [6, 7, 8, 10] (v := (.pointer (some ⟨b, 0, none⟩))) rfl rfl (by kernel_rfl) (by kernel_rfl) (by kernel_rfl) (by kernel_rfl) (fun _ _ _ h => h) (yieldsIf_calc rfl (fun w => by unfold execOp; go_simp)) (by assumption) ?_; try simp only [Act.put, List.setIfInBounds_toArray, List.set_cons_zero, List.set_cons_succ, Array.toArray_toList]
          refine wpAnyT_takeD 1 (some 52) [6, 7, 8, 10] (v := (.agg (C))) rfl rfl (by kernel_rfl) (by kernel_rfl) (by kernel_rfl) (by kernel_rfl) (fun _ _ _ h => h) (yieldsIf_load_blk rfl 48 _ rfl (g7) 6 (C) 48 rfl (fun _ h => h.1) row48 (hCs.out)) (by assumption) ?_; try simp only [Act.put, List.setIfInBounds_toArray, List.set_cons_zero, List.set_cons_succ, Array.toArray_toList]
          refine wpAnyT_takeD 2 (some 53) [4, 5, 6, 7, 8, 10] (v := (.slice (some ⟨g, o, none⟩) q cap)) rfl rfl (by kernel_rfl) (by kernel_rfl) (by kernel_rfl) (by kernel_rfl) (fun _ _ _ h => h) (yieldsIf_calc rfl (fun w => by unfold execOp; go_simp)) (by assumption) ?_; try simp only [Act.put, List.setIfInBounds_toArray, List.set_cons_zero, List.set_cons_succ, Array.toArray_toList]
          refine wpAnyT_takeD 3 (some 54) [4, 5, 6, 7, 8, 10] (v := (.int .i64 (k : Nat))) rfl rfl (by kernel_rfl) (by kernel_rfl) (by kernel_rfl) (by kernel_rfl) (fun _ _ _ h => h) (yieldsIf_calc rfl (fun w => by unfold execOp; go_simp)) (by assumption) ?_; try simp only [Act.put, List.setIfInBounds_toArray, List.set_cons_zero, List.set_cons_succ, Array.toArray_toList]
          refine wpAnyT_takeD 4 (some 55) [5, 6, 7, 8, 10] (v := (.pointer (some ⟨g, o + k * 4, none⟩))) rfl rfl (by kernel_rfl) (by kernel_rfl) (by kernel_rfl) (by kernel_rfl) (fun _ _ _ h => h) (yieldsIf_calc rfl (fun w => by unfold execOp; go_simp)) (by assumption) ?_; try simp only [Act.put, List.setIfInBounds_toArray, List.set_cons_zero, List.set_cons_succ, Array.toArray_toList]
          refine wpAnyT_takeD 5 (some 56) [6, 7, 8, 10] (v := (.agg #[.int .i64 kd, .slice xa xq xcap, .int .i64 xt, .int .i64 xc])) rfl rfl (by kernel_rfl) (by kernel_rfl) (by kernel_rfl) (by kernel_rfl) (fun _ _ _ h => h) (.inl ⟨rfl, fun wS hSw => by obtain ⟨_, y0, y1, y2, y3⟩ := hSw; unfold execOp; go_simp⟩) (by assumption) ?_; try simp only [Act.put, List.setIfInBounds_toArray, List.set_cons_zero, List.set_cons_succ, Array.toArray_toList]
          refine wpAnyT_one 6 rfl (by kernel_rfl) (fun K' hK' => ?_)
          go_simp
          (go_at_call 19; (with_reducible refine (HDO.out _ HP7.out HR7.out HBY7.out).mono ?_); rintro e w9 ⟨v', u', rfl, hD9⟩; obtain ⟨R, hR⟩ : ∃ R, R = cellsR u' M1 := ⟨_, rfl⟩; rw [← hR]; have hRs := Lib.hid (show R.size = 6 by rw [hR]; rfl); have hR1 := Lib.hid (show R.all (·.oneCell') = true by rw [hR]; exact cellsR_one _ (own_slice hD9.r).2); have HR := Lib.hid hR; have DD := Lib.hid hD9; have s9 := HST.out _ s0 hD9.k; clear hD9 hR)
          go_wp2
          refine hK'.out _ _ (.inr s9) ?_; clear hK' K'; try simp only [Act.put, List.setIfInBounds_toArray, List.set_cons_zero, List.set_cons_succ, Array.toArray_toList]
          refine wpAnyT_takeD 7 (some 50) [8, 10] (v := (.tuple #[.agg R, .bool true])) rfl rfl (by kernel_rfl) (by kernel_rfl) (by kernel_rfl) (by kernel_rfl) (fun _ _ _ h => h) (yieldsIf_calc rfl (fun w => by unfold execOp; go_simp)) (by assumption) ?_; try simp only [Act.put, List.setIfInBounds_toArray, List.set_cons_zero, List.set_cons_succ, Array.toArray_toList]
          refine wpAnyT_takeD 8 (some 58) [10] (v := (.agg R)) rfl rfl (by kernel_rfl) (by kernel_rfl) (by kernel_rfl) (by kernel_rfl) (fun _ _ _ h => h) (yieldsIf_calc rfl (fun w => by unfold execOp; go_simp)) (by assumption) ?_; try simp only [Act.put, List.setIfInBounds_toArray, List.set_cons_zero, List.set_cons_succ, Array.toArray_toList]
          refine wpAnyT_two 9 10 rfl rfl (by kernel_rfl) (fun K' hK' => ?_) (fun K' hK' => ?_)
          · skip
            go_simp
            refine hK'.out _ _ (.inr s9) ?_; clear hK' K'; try simp only [Act.put, List.setIfInBounds_toArray, List.set_cons_zero, List.set_cons_succ, Array.toArray_toList]
            refine wpAnyT_one 10 rfl (by kernel_rfl) (fun K' hK' => ?_)
            refine ite_go rfl ?_
            refine wp_store_blk none rfl 48 _ _ rfl g7 0 6 R rfl rfl s9.1 row48 hRs.out (by rw [hCs.out]; exact Nat.le_refl 6) hR1.out ?_
            intro w10 hb10 ho10; rw [splice_full _ _ (by rw [hCs.out, hRs.out])] at hb10
            refine hK'.out _ _ (.inl (by kernel_rfl)) ?_; clear hK' K'; try simp only [Act.put, List.setIfInBounds_toArray, List.set_cons_zero, List.set_cons_succ, Array.toArray_toList]
            refine wpAnyT_one 11 rfl (by kernel_rfl) (fun K' hK' => ?_)
            go_simp
            refine hK'.out _ _ (.inl (by kernel_rfl)) ?_; clear hK' K'; try simp only [Act.put, List.setIfInBounds_toArray, List.set_cons_zero, List.set_cons_succ, Array.toArray_toList]
            refine wpAnyT_done (by kernel_rfl) ?_ _
            have hpr : RowKit.Hid (Pair w w10 b g7 v' u' M1) := Lib.hid (Pair.next hM1.out hB7 DD.out hbw hb7 s9.1 ho10 (by rw [← HR.out]; exact hb10))
            clear DD hb10 ho10 s9 s0 HDO HP7 HR7 HST
            go_wp2
            exact ⟨⟨k + 1, v', u', M1, by omega, by go_num, hpr.out⟩, by simp [intOf]; omega⟩
          · skip
            refine ite_go rfl ?_
            refine wp_store_blk none rfl 48 _ _ rfl g7 0 6 R rfl rfl s9.1 row48 hRs.out (by rw [hCs.out]; exact Nat.le_refl 6) hR1.out ?_
            intro w10 hb10 ho10; rw [splice_full _ _ (by rw [hCs.out, hRs.out])] at hb10
            refine hK'.out _ _ (.inl (by kernel_rfl)) ?_; clear hK' K'; try simp only [Act.put, List.setIfInBounds_toArray, List.set_cons_zero, List.set_cons_succ, Array.toArray_toList]
            refine wpAnyT_one 9 rfl (by kernel_rfl) (fun K' hK' => ?_)
            go_simp
            refine hK'.out _ _ (.inl (by kernel_rfl)) ?_; clear hK' K'; try simp only [Act.put, List.setIfInBounds_toArray, List.set_cons_zero, List.set_cons_succ, Array.toArray_toList]
            refine wpAnyT_one 11 rfl (by kernel_rfl) (fun K' hK' => ?_)
            go_simp
            refine hK'.out _ _ (.inl (by kernel_rfl)) ?_; clear hK' K'; try simp only [Act.put, List.setIfInBounds_toArray, List.set_cons_zero, List.set_cons_succ, Array.toArray_toList]
            refine wpAnyT_done (by kernel_rfl) ?_ _
            have hpr : RowKit.Hid (Pair w w10 b g7 v' u' M1) := Lib.hid (Pair.next hM1.out hB7 DD.out hbw hb7 s9.1 ho10 (by rw [← HR.out]; exact hb10))
            clear DD hb10 ho10 s9 s0 HDO HP7 HR7 HST
            go_wp2
            exact ⟨⟨k + 1, v', u', M1, by omega, by go_num, hpr.out⟩, by simp [intOf]; omega⟩
        · obtain rfl : k = q := by omega
          have hB := hP.k
          clear hP
          go_wp2_with (go_at_call 9; (with_reducible refine (hk _).mono ?_); rintro e w9 ⟨rfl, hw9⟩)
          go_ret
          exact ⟨rfl, bnext hB hw9⟩
end Go.Proofs.Ythbpmofabcilhaa
