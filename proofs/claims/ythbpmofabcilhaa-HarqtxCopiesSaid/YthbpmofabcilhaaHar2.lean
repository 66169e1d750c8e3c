/-
  The laws' walks: a copy.
-/
import Derived.Test.YthbpmofabcilhaaHar1
set_option linter.unusedSimpArgs false
set_option linter.unusedVariables false
namespace Go.Proofs.Ythbpmofabcilhaa
open Go.RowKit
attribute [-go_sem] Instr.build
section
variable {P : Program} {ops : Array Oper} {Q : Exit → Act → World → Prop} {md : Region.Mode} {S : World → Prop} {m : Nat}
theorem wpAnyT_pure {i : Nat} {oi : Oper} {v : Value} (hi : ops[i]? = some oi) (hsel : ∀ (j : Nat) (o : Oper) cs b, ops[j]? = some o → o.op ≠ .select cs b)
    (hQ : ∀ c a w, Q (.panic c) (a.put oi.dst v) w → Q (.panic c) a w) (him : i ≠ m) :
    ∀ (fuel : Nat) (listed : Array Bool) (a : Act) (w : World),
      (∀ j oj, ops[j]? = some oj → j ≠ i → listed.getD j true = false → (∀ e ∈ oj.after, Region.binds md e = true → e.on ≠ i) → oi.apart ops oj = true) →
      i ∈ Region.ready md ops listed → YieldsIf P ops (fun _ => True) oi v a → (listed.getD m false = true ∨ S w) →
      wpAnyT P md ops Q S m fuel (listed.setIfInBounds i true) (a.put oi.dst v) w → wpAnyT P md ops Q S m (fuel + 1) listed a w := by
  intro fuel
  induction fuel with
  | zero =>
    intro listed a w _ hr hy hS H
    refine ⟨fun h => (by rw [h] at hr; cases hr), fun j hj => ?_⟩
    by_cases hji : j = i
    · subst hji; exact hy.wpOp hi trivial ⟨by rw [getD_set_ne false him]; exact hS, H⟩
    · have := ready_mono hj hji
      rw [H.1] at this
      cases this
  | succ fuel ih =>
    intro listed a w hfree hr hy hS H
    refine ⟨fun h => (by rw [h] at hr; cases hr), fun j hj => ?_⟩
    by_cases hji : j = i
    · subst hji; exact hy.wpOp hi trivial ⟨by rw [getD_set_ne false him]; exact hS, H⟩
    · have h1 := H.2 j (ready_mono hj hji)
      obtain ⟨hjun, oj, hoj, hall⟩ := mem_ready.1 hj
      have hiun := (mem_ready.1 hr).1
      have hnot : ∀ e ∈ oj.after, Region.binds md e = true → e.on ≠ i := fun e he hb heq => by
        have h1 := hall e he hb
        rw [heq, getD_both hiun] at h1
        cases h1
      have h2 := wpOp_putIf hoj (hfree j oj hoj hji hjun hnot) (fun cs b => hsel i oi cs b hi) (fun cs b => hsel j oj cs b hoj) hQ hy h1
      have hfree' : ∀ k ok, ops[k]? = some ok → k ≠ i → (listed.setIfInBounds j true).getD k true = false →
          (∀ e ∈ ok.after, Region.binds md e = true → e.on ≠ i) → oi.apart ops ok = true := fun k ok hk hki hun hno => by
        refine hfree k ok hk hki ?_ hno
        by_cases hjk : j = k
        · subst hjk; exact hjun
        · rw [getD_set_ne true hjk] at hun; exact hun
      refine wpOp_mono (fun a' w' h3 => ?_) h2
      have hS' : (listed.setIfInBounds j true).getD m false = true ∨ S w' := by
        have h4 := h3.2.1
        rw [Array.setIfInBounds_comm _ _ (Ne.symm hji), getD_set_ne false him] at h4
        exact h4
      refine ⟨hS', ih (listed.setIfInBounds j true) a' w' hfree' (ready_mono hr (Ne.symm hji)) h3.1 hS' ?_⟩
      rw [Array.setIfInBounds_comm _ _ hji]
      exact h3.2.2
theorem wpAnyT_pureD (i : Nat) (d : Option Tmp) {oi : Oper} {v : Value} {fuel : Nat} {listed : Array Bool} {a : Act} {w : World} (hi : ops[i]? = some oi) (hd : oi.dst = d)
    (hs : Region.noSelect ops = true) (hf : Region.free md ops listed i = true) (hr : (Region.ready md ops listed).contains i = true) (him : i ≠ m)
    (hQ : ∀ c a w, Q (.panic c) (a.put oi.dst v) w → Q (.panic c) a w) (hy : YieldsIf P ops (fun _ => True) oi v a) (hS : listed.getD m false = true ∨ S w)
    (h : wpAnyT P md ops Q S m fuel (listed.setIfInBounds i true) (a.put d v) w) : wpAnyT P md ops Q S m (fuel + 1) listed a w := by
  subst hd; exact wpAnyT_pure hi (Region.noSelect_spec hs) hQ him fuel listed a w (Region.free_spec hi hf) (by simpa using hr) hy hS h
theorem wpAnyH_two {fuel : Nat} {listed : Array Bool} {a : Act} {w : World} (i j : Nat) {oi oj : Oper} (hoi : ops[i]? = some oi) (hoj : ops[j]? = some oj) (hr : Region.ready md ops listed = [i, j])
    (h1 : ∀ K' : Act → World → Prop, Shut (∀ a w, S w → wpAnyH P md ops Q S fuel (listed.setIfInBounds i true) a w → K' a w) → if Region.wanted oi (yielded ops a.tmps) = true then Oper.wp P oi a w K' Q else K' (a.put oi.dst undef) w)
    (h2 : ∀ K' : Act → World → Prop, Shut (∀ a w, S w → wpAnyH P md ops Q S fuel (listed.setIfInBounds j true) a w → K' a w) → if Region.wanted oj (yielded ops a.tmps) = true then Oper.wp P oj a w K' Q else K' (a.put oj.dst undef) w) : wpAnyH P md ops Q S (fuel + 1) listed a w :=
  wpAnyH_ready hr (by simp) (AllReadyH.cons hoi (fun K hK => h1 K (fun a w hS hW => hK.out a w hS (fun _ => hW))) (AllReadyH.cons hoj (fun K hK => h2 K (fun a w hS hW => hK.out a w hS (fun _ => hW))) AllReadyH.nil))
end
theorem drew_rp {w : World} {u : Value} {m : Hq} (h : RP w u m) : RP w.drew u m := h
theorem Pair.drew {w wr : World} {b g7 : Nat} {v u : Value} {m : Hq} (h : Pair w wr b g7 v u m) : Pair w wr.drew b g7 v u m := ⟨h.ok, drew_hp h.p, h.r, h.c.drew, h.k.drew⟩
theorem Pair.next2 {w W7 w9 w10 : World} {b g7 : Nat} {v u : Value} {m : Hq} {C : Array Value} (hok : OkH m) (hB7 : Below w.heap.size w W7) (hD : DoI W7 w9 b v u m m) (hbw : w.heap.size ≤ b) (h7 : b ≠ g7) (hg : w.heap.size ≤ g7) (h9 : Blk w9 g7 C 48) (ho : Only g7 w9 w10) (h10 : Blk w10 g7 (cellsR u m) 48) : Pair w w10 b g7 v u m :=
  ⟨hok, ⟨hD.p.1.only ho h7, own_only hD.p.2 ho (own_ne_blk hD.p.2 h9 (by decide))⟩, own_only hD.r ho (own_ne_blk hD.r h9 (by decide)), h10, below_only (below_but2 hB7 hD.k hbw) ho hg⟩
/-- The other pair, behind an operation. -/
theorem Pair.keep {w W7 w9 w10 : World} {b2 g2 b g7 : Nat} {v u v1 v' u' : Value} {m m1 M : Hq} {C : Array Value} (h : Pair w W7 b2 g2 v u m) (hD : DoI W7 w9 b v' u' M M) (hp : HP W7 b v1 m1) (ho : Only g7 w9 w10) (h9 : Blk w9 g7 C 48) (n1 : b2 ≠ b) (n2 : b2 ≠ g7) (n3 : g2 ≠ b) (n4 : g2 ≠ g7) (hB : Below w.heap.size w w10) : Pair w w10 b2 g2 v u m := by
  have r1 := own_but h.p.2 hD.k (own_ne_blk h.p.2 hp.1 (by decide))
  have r2 := own_but h.r hD.k (own_ne_blk h.r hp.1 (by decide))
  exact ⟨h.ok, ⟨(h.p.1.but hD.k h.p.1.lt n1).only ho n2, own_only r1 ho (own_ne_blk r1 h9 (by decide))⟩, own_only r2 ho (own_ne_blk r2 h9 (by decide)), (h.c.but hD.k h.c.lt n3).only ho n4, hB⟩
theorem Pair.below {w wr w' : World} {b g7 : Nat} {v u : Value} {m : Hq} (h : Pair w wr b g7 v u m) (hB : Below wr.heap.size wr w') : Pair w w' b g7 v u m := ⟨h.ok, h.p.below hB, h.r.below hB, h.c.below hB h.c.lt, bnext h.k hB⟩
theorem asl_later {w : World} {a : Option Addr} {cap : Nat} {l : List Opn} (hcap : l.length ≤ cap) (hmx : cap ≤ maxLen) (hat : ∀ i (hi : i < l.length), ∃ g o, a = some ⟨g, o, none⟩ ∧ AtO w g o i l[i]) (W : World) (hB : Below w.heap.size w W) : Asl W (.slice a l.length cap) l := ⟨a, cap, rfl, hcap, hmx, fun i hi => by
  obtain ⟨g, o, e, h⟩ := hat i hi
  exact ⟨g, o, e, h.later hB⟩⟩
/-- The first pair, behind the copying. -/
theorem Pair.copied {w W7 w6 wS : World} {b g7 g15 : Nat} {v u : Value} {m : Hq} {Z : Array Value} (h : Pair w W7 b g7 v u m) (hB : Below W7.heap.size W7 w6) (kz : Blk w6 g15 Z 48) (ho : Only g15 w6 wS) (hg : W7.heap.size ≤ g15) : Pair w wS b g7 v u m := by
  have h6 := h.below hB
  have n1 := h.p.1.lt
  have n2 := h.c.lt
  exact ⟨h.ok, ⟨h6.p.1.only ho (by omega), own_only h6.p.2 ho (own_ne_blk h6.p.2 kz (by decide))⟩, own_only h6.r ho (own_ne_blk h6.r kz (by decide)), h6.c.only ho (by omega), below_only h6.k ho (by have := h.k.size; omega)⟩
set_option maxHeartbeats 8000000 in
set_option maxRecDepth 100000 in
theorem walk_HarqtxCopies (n : Int) (_hn : (Lit.int .i64 n).wf = true) (v : Value) (l : List Opn) (v2 : Value) (l2 : List Opn) (v3 : Value) (l3 : List Opn) (w : World) (hA : Asl w v l) (hA2 : Asl w v2 l2) (hA3 : Asl w v3 l3) :
    Calls Try.prog 7 #[.int .i64 n, v, v2, v3] w fun e w' => e = .returned (.bool true) ∧ Below w.heap.size w w' := by
  have hk := known_any
  have hfew := fun W h => few_any W v l h
  have hfew2 := fun W h => few_any W v2 l2 h
  have hfew3 := fun W h => few_any W v3 l3 h
  clear _hn
  obtain ⟨a, cap, rfl, hcap, hmx, hat⟩ := hA
  obtain ⟨a2, cap2, rfl, hcap2, hmx2, hat2⟩ := hA2
  obtain ⟨a3, cap3, rfl, hcap3, hmx3, hat3⟩ := hA3
  by_cases hn : n < 1 ∨ 16 < n
  · have h0 := fun w => new_err n hn w
    clear hat hfew hat2 hfew2 hat3 hfew3 hn
    go_enter Try.func7, Try.ntmps7
    go_wp2_with (first
      | (go_at_call 10; (with_reducible refine (h0 _).mono ?_); rintro e w' ⟨rfl, hw⟩; rw [hw]; clear hw)
      | (go_at_call 9; (with_reducible refine (hk _).mono ?_); rintro e w9 ⟨rfl, hw9⟩))
    go_ret
    exact ⟨rfl, hw9⟩
  obtain ⟨N, rfl⟩ : ∃ N : Nat, n = N := ⟨n.toNat, (Int.toNat_of_nonneg (by omega)).symm⟩
  have hN1 : 1 ≤ N := by omega
  have hN2 : N ≤ 16 := by omega
  have h0 := new_lit N N rfl hN1 hN2 w
  have hAl := asl_later hcap hmx hat
  have hAl2 := asl_later hcap2 hmx2 hat2
  have hAl3 := asl_later hcap3 hmx3 hat3
  obtain ⟨q, hq⟩ : ∃ q, q = l.length := ⟨_, rfl⟩
  obtain ⟨q2, hq2⟩ : ∃ q, q = l2.length := ⟨_, rfl⟩
  obtain ⟨q3, hq3⟩ : ∃ q, q = l3.length := ⟨_, rfl⟩
  rw [← hq] at hfew hcap hAl ⊢
  rw [← hq2] at hfew2 hcap2 hAl2 ⊢
  rw [← hq3] at hfew3 hcap3 hAl3 ⊢
  replace hat := Lib.hid hat
  replace hq := Lib.hid hq
  replace hAl := Lib.hid hAl
  replace hfew := Lib.hid hfew
  replace hat2 := Lib.hid hat2
  replace hq2 := Lib.hid hq2
  replace hAl2 := Lib.hid hAl2
  replace hfew2 := Lib.hid hfew2
  replace hat3 := Lib.hid hat3
  replace hq3 := Lib.hid hq3
  replace hAl3 := Lib.hid hAl3
  replace hfew3 := Lib.hid hfew3
  clear hn hmx hmx2 hmx3
  cases hfw : fewB l with
  | false =>
    rw [hfw] at hfew
    clear hfw
    go_enter Try.func7, Try.ntmps7
    go_wp2_with (first
      | (go_at_call 10; (with_reducible refine h0.mono ?_); rintro e w1 ⟨rfl, hp1, hB1, hlt1⟩; have HP1 := Lib.hid hp1; have HB1 := Lib.hid hB1; clear hp1 hB1)
      | (go_at_call 17; (first | (with_reducible refine (hfew.out _ (hAl.out _ HB1.out)).mono ?_) | (with_reducible refine (hfew2.out _ (hAl2.out _ HB1.out)).mono ?_) | (with_reducible refine (hfew3.out _ (hAl3.out _ HB1.out)).mono ?_)); rintro e w2 ⟨rfl, hw2⟩; rw [hw2]; clear hw2)
      | (go_at_call 9; (with_reducible refine (hk _).mono ?_); rintro e w9 ⟨rfl, hw9⟩))
    go_ret
    exact ⟨rfl, bnext HB1.out hw9⟩
  | true =>
  rw [hfw] at hfew
  cases hfw2 : fewB l2 with
  | false =>
    rw [hfw2] at hfew2
    clear hfw hfw2
    go_enter Try.func7, Try.ntmps7
    go_wp2_with (first
      | (go_at_call 10; (with_reducible refine h0.mono ?_); rintro e w1 ⟨rfl, hp1, hB1, hlt1⟩; have HP1 := Lib.hid hp1; have HB1 := Lib.hid hB1; clear hp1 hB1)
      | (go_at_call 17; (first | (with_reducible refine (hfew.out _ (hAl.out _ HB1.out)).mono ?_) | (with_reducible refine (hfew2.out _ (hAl2.out _ HB1.out)).mono ?_) | (with_reducible refine (hfew3.out _ (hAl3.out _ HB1.out)).mono ?_)); rintro e w2 ⟨rfl, hw2⟩; rw [hw2]; clear hw2)
      | (go_at_call 9; (with_reducible refine (hk _).mono ?_); rintro e w9 ⟨rfl, hw9⟩))
    go_ret
    exact ⟨rfl, bnext HB1.out hw9⟩
  | true =>
  rw [hfw2] at hfew2
  cases hfw3 : fewB l3 with
  | false =>
    rw [hfw3] at hfew3
    clear hfw hfw2 hfw3
    go_enter Try.func7, Try.ntmps7
    go_wp2_with (first
      | (go_at_call 10; (with_reducible refine h0.mono ?_); rintro e w1 ⟨rfl, hp1, hB1, hlt1⟩; have HP1 := Lib.hid hp1; have HB1 := Lib.hid hB1; clear hp1 hB1)
      | (go_at_call 17; (first | (with_reducible refine (hfew.out _ (hAl.out _ HB1.out)).mono ?_) | (with_reducible refine (hfew2.out _ (hAl2.out _ HB1.out)).mono ?_) | (with_reducible refine (hfew3.out _ (hAl3.out _ HB1.out)).mono ?_)); rintro e w2 ⟨rfl, hw2⟩; rw [hw2]; clear hw2)
      | (go_at_call 9; (with_reducible refine (hk _).mono ?_); rintro e w9 ⟨rfl, hw9⟩))
    go_ret
    exact ⟨rfl, bnext HB1.out hw9⟩
  | true =>
  rw [hfw3] at hfew3
  have z1 := zero48'
  obtain ⟨Z, hZ⟩ : ∃ Z, Z = cellsR (.slice none 0 0) ⟨0, 0, [], 0, 0, 0⟩ := ⟨_, rfl⟩
  rw [← hZ] at z1
  have hZs := Lib.hid (show Z.size = 6 by rw [hZ]; rfl)
  have HF := Lib.hid hfw
  have HF2 := Lib.hid hfw2
  have HF3 := Lib.hid hfw3
  have hq100 : q ≤ 100 := by rw [hq.out]; exact few_q hfw
  have hq2100 : q2 ≤ 100 := by rw [hq2.out]; exact few_q hfw2
  have hq3100 : q3 ≤ 100 := by rw [hq3.out]; exact few_q hfw3
  have hbd := build48a (N : Nat)
  obtain ⟨R0, hR0⟩ : ∃ R0 : Array Value, R0 = #[.int .i64 (N : Nat), .int .i64 0, .slice none 0 0, .int .i64 0, .int .i64 0, .int .i64 0] := ⟨_, rfl⟩
  have hR0c : cellsR (.slice none 0 0) (H0 N) = R0 := hR0.symm
  have hR0s := Lib.hid (show R0.size = 6 by rw [hR0]; rfl)
  have hR01 := Lib.hid (show R0.all (·.oneCell') = true by rw [← hR0c]; exact cellsR_one _ rfl)
  have hok0 := Lib.hid (okH0 N hN1 hN2)
  have HR0c := Lib.hid hR0c
  rw [← hR0] at hbd
  obtain ⟨mx, hmx⟩ : ∃ mx : Nat, mx = max q2 q3 := ⟨_, rfl⟩
  have hm2 : q2 ≤ mx := by omega
  have hm3 : q3 ≤ mx := by omega
  have hm4 : mx ≤ 100 := by omega
  have hm5 : ∀ k, k < mx → ¬ k < q2 → k < q3 := fun k h1 h2 => by omega
  have hmi1 : (if q2 < q3 then (q3 : Int) else (q2 : Int)) = (mx : Int) := by split <;> omega
  replace hmx := Lib.hid hmx
  obtain ⟨b, hb⟩ : ∃ b, b = w.heap.size := ⟨_, rfl⟩
  have hbw : w.heap.size ≤ b := by omega
  rw [← hb] at h0
  replace hb := Lib.hid hb
  clear hfw hfw2 hfw3 hZ hR0 hR0c
  go_enter Try.func7, Try.ntmps7
  go_wp2_with (first
    | (go_at_call 10; (with_reducible refine h0.mono ?_); rintro e w1 ⟨rfl, hp1, hB1, hlt1⟩; rw [hb.out] at hB1; have HP1 := Lib.hid hp1; have HB1 := Lib.hid hB1; have kz : Blk (w1.alloc (.cells Z 48)) w1.heap.size Z 48 := Blk.new' rfl; clear hp1 hB1 h0)
    | (go_at_call 17; (first | (with_reducible refine (hfew.out _ (hAl.out _ HB1.out)).mono ?_) | (with_reducible refine (hfew2.out _ (hAl2.out _ HB1.out)).mono ?_) | (with_reducible refine (hfew3.out _ (hAl3.out _ HB1.out)).mono ?_)); rintro e w2 ⟨rfl, hw2⟩; rw [hw2]; clear hw2)
    | ((with_reducible refine wpList_store_blk rfl 48 _ _ rfl w1.heap.size 0 6 R0 rfl rfl kz row48 hR0s.out (by rw [hZs.out]; exact Nat.le_refl 6) hR01.out ?_); intro w3 hb3 ho3; rw [splice_full _ _ (by rw [hZs.out, hR0s.out])] at hb3; have hB3 := below_only (bnext HB1.out (alloc_below w1 (.cells Z 48))) ho3 HB1.out.size; have hp3 : HP w3 b (.slice none 0 0) (H0 N) := ⟨((HP1.out.1).alloc _).only ho3 (by omega), World.ownsRow_nil _ _ _ _⟩; have hpr : RowKit.Hid (Pair w w3 b w1.heap.size (.slice none 0 0) (.slice none 0 0) (H0 N)) := Lib.hid ⟨hok0.out, hp3, World.ownsRow_nil _ _ _ _, by rw [HR0c.out]; exact hb3, hB3⟩; clear hb3 ho3 hB3 hp3))
  have hb7 : b < w1.heap.size := hlt1
  clear hlt1 HP1 HB1 hR01 hR0s HR0c hok0 hbd kz hfew hfew2 hfew3 hAl hAl2 hAl3
  generalize w1.heap.size = g7 at *
  go_loopw [12, 13] (fun t12 t wr => ∃ (k : Nat) (v u : Value) (m : Hq), k ≤ q ∧ t = .int .i64 k ∧ t12 = .bool true ∧ Pair w wr b g7 v u m) (fun _ t _ => q - (intOf t).toNat)
  case atStart => exact ⟨0, _, _, _, by omega, rfl, rfl, hpr.out⟩
  case round =>
    clear hpr
    obtain ⟨k, v, u, m, hkq, rfl, rfl, hP⟩ := hrel
    by_cases hlt : k < q
    · obtain ⟨g, o, rfl, hAt⟩ := hat.out k (by rw [← hq.out]; exact hlt)
      have hx1 := few_len HF.out k (by rw [← hq.out]; exact hlt)
      generalize l[k]'(by rw [← hq.out]; exact hlt) = x at *
      have hg := hAt.lt
      have hap : ∀ b, w.heap.size ≤ b → 0 < x.l.length → ∀ g o, x.a = some ⟨g, o, none⟩ → g ≠ b := fun b hb h0 g o e => by
        obtain ⟨g', o', e', hl, _⟩ := hAt.by_ h0
        rw [e] at e'
        simp only [Option.some.injEq, Addr.mk.injEq] at e'
        omega
      obtain ⟨c0, c1, c2, c3, hgl, hby, hnil⟩ := hAt.later hP.k
      obtain ⟨kd, xa, xcap, xl, xt, xc⟩ := x
      dsimp only at c0 c1 c2 c3 hby hnil hx1 hap
      obtain ⟨xq, hxq⟩ : ∃ xq, xq = xl.length := ⟨_, rfl⟩
      rw [← hxq] at c1
      have hdo := fun W (h1 : HP W b v m) (h2 : RP W u m) (h3 : Byt W xa xl) => do_any b v u m hP.ok kd xt xc xl xa xq xcap hxq W h1 h2 h3 hnil (by omega) (hap b hbw)
      have hM1 := Lib.hid (okH_do hP.ok kd xt xc xl (by omega))
      generalize hMM : doS kd xt xc xl m = M1 at hM1 hdo
      have hcc := hP.c
      generalize hCC : cellsR u m = C at hdo hcc
      have hCs := Lib.hid (show C.size = 6 by rw [← hCC]; rfl)
      have HBY7 : RowKit.Hid (Byt wr.drew xa xl) := Lib.hid hby
      have HDO := Lib.hid (fun W h1 h2 => hdo W h1 h2)
      have hbr : b < wr.drew.heap.size := hP.p.1.lt
      have hB7 : Below w.heap.size w wr.drew := hP.k.drew
      have s0 : OpS g7 C g o k kd xa xq xcap xt xc wr.drew := ⟨hcc.drew, c0, c1, c2, c3⟩
      have HST := Lib.hid (fun w' h hk => OpS.but (w := wr.drew) (w' := w') (b := b) (g7 := g7) (C := C) (kd := kd) (xa := xa) (xq := xq) (xcap := xcap) (xt := xt) (xc := xc) (g := g) (o := o) (k := k) (by omega) (by omega) hgl h hk)
      have HP7 := Lib.hid (drew_hp hP.p)
      have HR7 := Lib.hid (drew_rp hP.r)
      clear hdo hMM hCC hap hnil hx1 c0 c1 c2 c3 hby hxq hcc
      clear hP
      go_wp2_with fail
      refine wp_region_any (by kernel_rfl) ?_
      refine wpAny_of_till (S := fun W' => Blk W' g7 C 48 ∧ W'.cell? ⟨g, o + k * 4, none⟩ = some (.int .i64 kd) ∧ W'.cell? ⟨g, o + k * 4 + 1, none⟩ = some (.slice xa xq xcap) ∧ W'.cell? ⟨g, o + k * 4 + 2, none⟩ = some (.int .i64 xt) ∧ W'.cell? ⟨g, o + k * 4 + 3, none⟩ = some (.int .i64 xc)) (m := 10) _ _ _ _ ?_
      show wpAnyT _ _ _ _ _ _ _ _ _ wr.drew
      generalize wr.drew = W7 at *
      refine wpAnyT_takeD 0 (some 52) [6, 7, 8, 10] (v := (.pointer (some ⟨b, 0, none⟩))) rfl rfl (by kernel_rfl) (by kernel_rfl) (by kernel_rfl) (by kernel_rfl) (fun _ _ _ h => h) (yieldsIf_calc rfl (fun w => by unfold execOp; go_simp)) (by assumption) ?_; try simp only [Act.put, List.setIfInBounds_toArray, List.set_cons_zero, List.set_cons_succ, Array.toArray_toList]
      refine wpAnyT_takeD 1 (some 53) [6, 7, 8, 10] (v := (.agg (C))) rfl rfl (by kernel_rfl) (by kernel_rfl) (by kernel_rfl) (by kernel_rfl) (fun _ _ _ h => h) (yieldsIf_load_blk rfl 48 _ rfl (g7) 6 (C) 48 rfl (fun _ h => h.1) row48 (hCs.out)) (by assumption) ?_; try simp only [Act.put, List.setIfInBounds_toArray, List.set_cons_zero, List.set_cons_succ, Array.toArray_toList]
      refine wpAnyT_takeD 2 (some 54) [4, 5, 6, 7, 8, 10] (v := (.slice (some ⟨g, o, none⟩) q cap)) rfl rfl (by kernel_rfl) (by kernel_rfl) (by kernel_rfl) (by kernel_rfl) (fun _ _ _ h => h) (yieldsIf_calc rfl (fun w => by unfold execOp; go_simp)) (by assumption) ?_; try simp only [Act.put, List.setIfInBounds_toArray, List.set_cons_zero, List.set_cons_succ, Array.toArray_toList]
      refine wpAnyT_takeD 3 (some 55) [4, 5, 6, 7, 8, 10] (v := (.int .i64 (k : Nat))) rfl rfl (by kernel_rfl) (by kernel_rfl) (by kernel_rfl) (by kernel_rfl) (fun _ _ _ h => h) (yieldsIf_calc rfl (fun w => by unfold execOp; go_simp)) (by assumption) ?_; try simp only [Act.put, List.setIfInBounds_toArray, List.set_cons_zero, List.set_cons_succ, Array.toArray_toList]
      refine wpAnyT_takeD 4 (some 56) [5, 6, 7, 8, 10] (v := (.pointer (some ⟨g, o + k * 4, none⟩))) rfl rfl (by kernel_rfl) (by kernel_rfl) (by kernel_rfl) (by kernel_rfl) (fun _ _ _ h => h) (yieldsIf_calc rfl (fun w => by unfold execOp; go_simp)) (by assumption) ?_; try simp only [Act.put, List.setIfInBounds_toArray, List.set_cons_zero, List.set_cons_succ, Array.toArray_toList]
      refine wpAnyT_takeD 5 (some 57) [6, 7, 8, 10] (v := (.agg #[.int .i64 kd, .slice xa xq xcap, .int .i64 xt, .int .i64 xc])) rfl rfl (by kernel_rfl) (by kernel_rfl) (by kernel_rfl) (by kernel_rfl) (fun _ _ _ h => h) (.inl ⟨rfl, fun wS hSw => by obtain ⟨_, y0, y1, y2, y3⟩ := hSw; unfold execOp; go_simp⟩) (by assumption) ?_; try simp only [Act.put, List.setIfInBounds_toArray, List.set_cons_zero, List.set_cons_succ, Array.toArray_toList]
      refine wpAnyT_one 6 rfl (by kernel_rfl) (fun K' hK' => ?_)
      go_simp
      (go_at_call 19; (with_reducible refine (HDO.out _ HP7.out HR7.out HBY7.out).mono ?_); rintro e w9 ⟨v', u', rfl, hD9⟩; obtain ⟨R, hR⟩ : ∃ R, R = cellsR u' M1 := ⟨_, rfl⟩; rw [← hR]; have hRs := Lib.hid (show R.size = 6 by rw [hR]; rfl); have hR1 := Lib.hid (show R.all (·.oneCell') = true by rw [hR]; exact cellsR_one _ (own_slice hD9.r).2); have HR := Lib.hid hR; have DD := Lib.hid hD9; have s9 := HST.out _ s0 hD9.k; clear hD9 hR)
      go_wp2
      refine hK'.out _ _ (.inr s9) ?_; clear hK' K'; try simp only [Act.put, List.setIfInBounds_toArray, List.set_cons_zero, List.set_cons_succ, Array.toArray_toList]
      refine wpAnyT_takeD 7 (some 51) [8, 10] (v := (.tuple #[.agg R, .bool true])) rfl rfl (by kernel_rfl) (by kernel_rfl) (by kernel_rfl) (by kernel_rfl) (fun _ _ _ h => h) (yieldsIf_calc rfl (fun w => by unfold execOp; go_simp)) (by assumption) ?_; try simp only [Act.put, List.setIfInBounds_toArray, List.set_cons_zero, List.set_cons_succ, Array.toArray_toList]
      refine wpAnyT_takeD 8 (some 59) [10] (v := (.agg R)) rfl rfl (by kernel_rfl) (by kernel_rfl) (by kernel_rfl) (by kernel_rfl) (fun _ _ _ h => h) (yieldsIf_calc rfl (fun w => by unfold execOp; go_simp)) (by assumption) ?_; try simp only [Act.put, List.setIfInBounds_toArray, List.set_cons_zero, List.set_cons_succ, Array.toArray_toList]
      refine wpAnyT_pureD 9 (some 60) (v := (.bool true)) rfl rfl (by kernel_rfl) (by kernel_rfl) (by kernel_rfl) (by decide) (fun _ _ _ h => h) (yieldsIf_calc rfl (fun w => by unfold execOp; go_simp)) (.inr s9) ?_; try simp only [Act.put, List.setIfInBounds_toArray, List.set_cons_zero, List.set_cons_succ, Array.toArray_toList]
      refine wpAnyT_one 10 rfl (by kernel_rfl) (fun K' hK' => ?_)
      refine ite_go rfl ?_
      refine wp_store_blk none rfl 48 _ _ rfl g7 0 6 R rfl rfl s9.1 row48 hRs.out (by rw [hCs.out]; exact Nat.le_refl 6) hR1.out ?_
      intro w10 hb10 ho10; rw [splice_full _ _ (by rw [hCs.out, hRs.out])] at hb10
      refine hK'.out _ _ (.inl (by kernel_rfl)) ?_; clear hK' K'; try simp only [Act.put, List.setIfInBounds_toArray, List.set_cons_zero, List.set_cons_succ, Array.toArray_toList]
      refine wpAnyT_one 11 rfl (by kernel_rfl) (fun K' hK' => ?_)
      go_simp
      refine hK'.out _ _ (.inl (by kernel_rfl)) ?_; clear hK' K'; try simp only [Act.put, List.setIfInBounds_toArray, List.set_cons_zero, List.set_cons_succ, Array.toArray_toList]
      refine wpAnyT_done (by kernel_rfl) ?_ _
      have hpr' : Pair w w10 b g7 v' u' M1 := Pair.next2 hM1.out hB7 DD.out hbw (by omega) (by omega) s9.1 ho10 (by rw [← HR.out]; exact hb10)
      have hpr : RowKit.Hid (Pair w w10 b g7 v' u' M1) := Lib.hid hpr'
      clear hpr' DD hb10 ho10 s9 s0 HDO HP7 HR7 HST hB7 hbr hgl hg hAt HBY7
      go_wp2
      exact ⟨⟨k + 1, _, _, _, by omega, by go_num, rfl, hpr.out⟩, by simp [intOf]; omega⟩
    · obtain rfl : k = q := by omega
      have hcp := fun W (h : HP W b v m) => copy_any b v m W h (by have := hP.ok.l1; omega) (by have := hP.ok.blk; omega)
      replace hcp := Lib.hid hcp
      have hcc := hP.c
      have HOK := Lib.hid hP.ok
      generalize hCC : cellsR u m = C at hcc
      have hCs := Lib.hid (show C.size = 6 by rw [← hCC]; rfl)
      have hC1 := Lib.hid (show C.all (·.oneCell') = true by rw [← hCC]; exact cellsR_one _ (own_slice hP.r).2)
      have HC := Lib.hid hCC
      have HP7 := Lib.hid (Pair.drew hP)
      have s0 := hcc.drew
      clear hCC hcc hP
      go_wp2_with fail
      refine wp_region_held_drew (S := fun W' => Blk W' g7 C 48) (by kernel_rfl) s0 (fun hHeld => ?_)
      clear hHeld
      generalize wr.drew = W7 at *
      refine wpAnyH_takeD 0 (some 61) (v := (.pointer (some ⟨b, 0, none⟩))) rfl rfl (by kernel_rfl) (by kernel_rfl) (by kernel_rfl) (fun _ _ _ h => h) (yieldsIf_calc rfl (fun w => by unfold execOp; go_simp)) (by assumption) ?_; try simp only [Act.put, List.setIfInBounds_toArray, List.set_cons_zero, List.set_cons_succ, Array.toArray_toList]
      refine wpAnyH_takeD 2 (some 63) (v := (.agg (C))) rfl rfl (by kernel_rfl) (by kernel_rfl) (by kernel_rfl) (fun _ _ _ h => h) (yieldsIf_load_blk rfl 48 _ rfl (g7) 6 (C) 48 rfl (fun _ h => h) row48 (hCs.out)) (by assumption) ?_; try simp only [Act.put, List.setIfInBounds_toArray, List.set_cons_zero, List.set_cons_succ, Array.toArray_toList]
      refine wpAnyH_two 1 3 rfl rfl (by kernel_rfl) (fun K' hK' => ?_) (fun K' hK' => ?_)
      · skip
        go_simp
        (go_at_call 23; (with_reducible refine (hcp.out _ HP7.out.p).mono ?_); rintro e w8 ⟨v2, rfl, hp2, hB8⟩; have HP8 := Lib.hid hp2; have HB8 := Lib.hid hB8; have s8 := s0.below hB8 s0.lt; clear hp2 hB8)
        go_wp2
        refine hK'.out _ _ (s8) ?_; clear hK' K'; try simp only [Act.put, List.setIfInBounds_toArray, List.set_cons_zero, List.set_cons_succ, Array.toArray_toList]
        have n8 := HP8.out.1.lt
        have n7 := HP7.out.c.lt
        refine wpAnyH_one 3 rfl (by kernel_rfl) (fun K' hK' => ?_)
        go_simp
        obtain ⟨w6, hw6⟩ : ∃ w6, w6 = w8.alloc (.cells Z 48) := ⟨_, rfl⟩
        rw [← hw6]
        have kz : Blk w6 w8.heap.size Z 48 := by rw [hw6]; exact Blk.new' rfl
        have HB6 : RowKit.Hid (Below w8.heap.size w8 w6) := Lib.hid (by rw [hw6]; exact alloc_below _ _)
        clear hw6
        have s6 := s8.below HB6.out s8.lt
        refine hK'.out _ _ (s6) ?_; clear hK' K'; try simp only [Act.put, List.setIfInBounds_toArray, List.set_cons_zero, List.set_cons_succ, Array.toArray_toList]
        refine wpAnyH_one 4 rfl (by kernel_rfl) (fun K' hK' => ?_)
        go_simp
        refine hK'.out _ _ (s6) ?_; clear hK' K'; try simp only [Act.put, List.setIfInBounds_toArray, List.set_cons_zero, List.set_cons_succ, Array.toArray_toList]
        have hb215 : W7.heap.size < w8.heap.size := n8
        refine wpAnyH_one 5 rfl (by kernel_rfl) (fun K' hK' => ?_)
        refine ite_go rfl ?_
        refine wp_store_blk none rfl 48 _ _ rfl w8.heap.size 0 6 C rfl rfl kz row48 hCs.out (by rw [hZs.out]; exact Nat.le_refl 6) hC1.out ?_
        intro wS hbS hoS; rw [splice_full _ _ (by rw [hZs.out, hCs.out])] at hbS
        have sS := s6.only hoS (by omega)
        refine hK'.out _ _ (sS) ?_; clear hK' K'; try simp only [Act.put, List.setIfInBounds_toArray, List.set_cons_zero, List.set_cons_succ, Array.toArray_toList]
        refine wpAnyH_done (by kernel_rfl) ?_ _
        have hB78 := HB8.out.trans (HB6.out.mono (Nat.le_of_lt n8))
        have hp1 : RowKit.Hid (Pair w wS b g7 v u m) := Lib.hid (Pair.copied HP7.out hB78 kz hoS (Nat.le_of_lt n8))
        have hp2 : RowKit.Hid (Pair w wS W7.heap.size w8.heap.size v2 u m) := Lib.hid ⟨HOK.out, ⟨(HP8.out.1.below HB6.out HP8.out.1.lt).only hoS (by omega), own_only (own_below HP8.out.2 HB6.out) hoS (own_ne_blk (own_below HP8.out.2 HB6.out) kz (by decide))⟩, hp1.out.r, by rw [HC.out]; exact hbS, hp1.out.k⟩
        have hb2w : w.heap.size ≤ W7.heap.size := HP7.out.k.size
        have hg15w : w.heap.size ≤ w8.heap.size := Nat.le_trans hb2w (Nat.le_of_lt n8)
        have hbb : b < W7.heap.size := HP7.out.p.1.lt
        clear hbS hoS sS kz s6 s8 s0 HB6 HB8 HP8 HP7 hB78 hcp hC1 hCs HC HOK n8 hlt
        generalize W7.heap.size = b2 at *
        generalize w8.heap.size = g15 at *
        have hag2 : ∀ W, Blk W b2 (cellsH v2 m) 64 → Calls Try.prog 18 #[.pointer (some ⟨b2, 0, none⟩), .agg #[.int .i64 (m.lim : Nat), .int .i64 (m.st : Nat), u, .int .i64 (m.num : Nat), .int .i64 (m.now : Nat), .int .i64 (m.sent : Nat)]] W fun e w' => e = .returned (.bool true) ∧ Below W.heap.size W w' := fun W h => agrees_any b2 v2 u m hp2.out.ok W h
        have c0 : wS.cell? ⟨g15, 0, none⟩ = some (.int .i64 (m.lim : Nat)) := hp2.out.c.cell 0
        have c1 : wS.cell? ⟨g15, 1, none⟩ = some (.int .i64 (m.st : Nat)) := hp2.out.c.cell 1
        have c2 : wS.cell? ⟨g15, 2, none⟩ = some u := hp2.out.c.cell 2
        have c3 : wS.cell? ⟨g15, 3, none⟩ = some (.int .i64 (m.num : Nat)) := hp2.out.c.cell 3
        have c4 : wS.cell? ⟨g15, 4, none⟩ = some (.int .i64 (m.now : Nat)) := hp2.out.c.cell 4
        have c5 : wS.cell? ⟨g15, 5, none⟩ = some (.int .i64 (m.sent : Nat)) := hp2.out.c.cell 5
        replace hag2 := Lib.hid hag2
        go_wp2_with (first
          | (go_at_call 18; (with_reducible refine (hag2.out _ hp2.out.p.1).mono ?_); rintro e wT ⟨rfl, hBT⟩; have hp3 := Lib.hid (Pair.below hp1.out hBT); have hp4 := Lib.hid (Pair.below hp2.out hBT); clear hBT c0 c1 c2 c3 c4 c5))
        clear hag2 hp1 hp2
        go_loopw [12, 16] (fun t12 t16 wr2 => ∃ (k : Nat) (v u : Value) (m : Hq) (v2 u2 : Value) (m2 : Hq), k ≤ mx ∧ t16 = .int .i64 k ∧ t12 = .bool true ∧ Pair w wr2 b g7 v u m ∧ Pair w wr2 b2 g15 v2 u2 m2) (fun _ t _ => mx - (intOf t).toNat)
        case atStart => exact ⟨0, _, _, _, _, _, _, by omega, rfl, rfl, hp3.out, hp4.out⟩
        case round =>
          clear hp3 hp4
          rename World => wr2
          obtain ⟨k, v, u, m, v2, u2, m2, hkq, rfl, rfl, hP, hP2⟩ := hrel
          by_cases hlm : k < mx
          · by_cases hl2 : k < q2
            · obtain ⟨g, o, rfl, hAt⟩ := hat2.out k (by rw [← hq2.out]; exact hl2)
              have hx1 := few_len HF2.out k (by rw [← hq2.out]; exact hl2)
              generalize l2[k]'(by rw [← hq2.out]; exact hl2) = x at *
              have hg := hAt.lt
              have hap : ∀ b, w.heap.size ≤ b → 0 < x.l.length → ∀ g o, x.a = some ⟨g, o, none⟩ → g ≠ b := fun b hb h0 g o e => by
                obtain ⟨g', o', e', hl, _⟩ := hAt.by_ h0
                rw [e] at e'
                simp only [Option.some.injEq, Addr.mk.injEq] at e'
                omega
              obtain ⟨c0, c1, c2, c3, hgl, hby, hnil⟩ := hAt.later hP.k
              obtain ⟨kd, xa, xcap, xl, xt, xc⟩ := x
              dsimp only at c0 c1 c2 c3 hby hnil hx1 hap
              obtain ⟨xq, hxq⟩ : ∃ xq, xq = xl.length := ⟨_, rfl⟩
              rw [← hxq] at c1
              have hdo := fun W (h1 : HP W b v m) (h2 : RP W u m) (h3 : Byt W xa xl) => do_any b v u m hP.ok kd xt xc xl xa xq xcap hxq W h1 h2 h3 hnil (by omega) (hap b hbw)
              have hM1 := Lib.hid (okH_do hP.ok kd xt xc xl (by omega))
              generalize hMM : doS kd xt xc xl m = M1 at hM1 hdo
              have hcc := hP.c
              generalize hCC : cellsR u m = C at hdo hcc
              have hCs := Lib.hid (show C.size = 6 by rw [← hCC]; rfl)
              have HBY7 : RowKit.Hid (Byt wr2.drew xa xl) := Lib.hid hby
              have HDO := Lib.hid (fun W h1 h2 => hdo W h1 h2)
              have hbr : b < wr2.drew.heap.size := hP.p.1.lt
              have hB7 : Below w.heap.size w wr2.drew := hP.k.drew
              have s0 : OpS g7 C g o k kd xa xq xcap xt xc wr2.drew := ⟨hcc.drew, c0, c1, c2, c3⟩
              have HST := Lib.hid (fun w' h hk => OpS.but (w := wr2.drew) (w' := w') (b := b) (g7 := g7) (C := C) (kd := kd) (xa := xa) (xq := xq) (xcap := xcap) (xt := xt) (xc := xc) (g := g) (o := o) (k := k) (by omega) (by omega) hgl h hk)
              have HP7 := Lib.hid (drew_hp hP.p)
              have HR7 := Lib.hid (drew_rp hP.r)
              have HO7 := Lib.hid (Pair.drew hP2)
              clear hdo hMM hCC hap hnil hx1 c0 c1 c2 c3 hby hxq hcc
              clear hP hP2
              go_wp2_with fail
              refine wp_region_any (by kernel_rfl) ?_
              refine wpAny_of_till (S := fun W' => Blk W' g7 C 48 ∧ W'.cell? ⟨g, o + k * 4, none⟩ = some (.int .i64 kd) ∧ W'.cell? ⟨g, o + k * 4 + 1, none⟩ = some (.slice xa xq xcap) ∧ W'.cell? ⟨g, o + k * 4 + 2, none⟩ = some (.int .i64 xt) ∧ W'.cell? ⟨g, o + k * 4 + 3, none⟩ = some (.int .i64 xc)) (m := 10) _ _ _ _ ?_
              show wpAnyT _ _ _ _ _ _ _ _ _ wr2.drew
              generalize wr2.drew = W7 at *
              refine wpAnyT_takeD 0 (some 90) [6, 7, 8, 10] (v := (.pointer (some ⟨b, 0, none⟩))) rfl rfl (by kernel_rfl) (by kernel_rfl) (by kernel_rfl) (by kernel_rfl) (fun _ _ _ h => h) (yieldsIf_calc rfl (fun w => by unfold execOp; go_simp)) (by assumption) ?_; try simp only [Act.put, List.setIfInBounds_toArray, List.set_cons_zero, List.set_cons_succ, Array.toArray_toList]
              refine wpAnyT_takeD 1 (some 91) [6, 7, 8, 10] (v := (.agg (C))) rfl rfl (by kernel_rfl) (by kernel_rfl) (by kernel_rfl) (by kernel_rfl) (fun _ _ _ h => h) (yieldsIf_load_blk rfl 48 _ rfl (g7) 6 (C) 48 rfl (fun _ h => h.1) row48 (hCs.out)) (by assumption) ?_; try simp only [Act.put, List.setIfInBounds_toArray, List.set_cons_zero, List.set_cons_succ, Array.toArray_toList]
              refine wpAnyT_takeD 2 (some 92) [4, 5, 6, 7, 8, 10] (v := (.slice (some ⟨g, o, none⟩) q2 cap2)) rfl rfl (by kernel_rfl) (by kernel_rfl) (by kernel_rfl) (by kernel_rfl) (fun _ _ _ h => h) (yieldsIf_calc rfl (fun w => by unfold execOp; go_simp)) (by assumption) ?_; try simp only [Act.put, List.setIfInBounds_toArray, List.set_cons_zero, List.set_cons_succ, Array.toArray_toList]
              refine wpAnyT_takeD 3 (some 93) [4, 5, 6, 7, 8, 10] (v := (.int .i64 (k : Nat))) rfl rfl (by kernel_rfl) (by kernel_rfl) (by kernel_rfl) (by kernel_rfl) (fun _ _ _ h => h) (yieldsIf_calc rfl (fun w => by unfold execOp; go_simp)) (by assumption) ?_; try simp only [Act.put, List.setIfInBounds_toArray, List.set_cons_zero, List.set_cons_succ, Array.toArray_toList]
              refine wpAnyT_takeD 4 (some 94) [5, 6, 7, 8, 10] (v := (.pointer (some ⟨g, o + k * 4, none⟩))) rfl rfl (by kernel_rfl) (by kernel_rfl) (by kernel_rfl) (by kernel_rfl) (fun _ _ _ h => h) (yieldsIf_calc rfl (fun w => by unfold execOp; go_simp)) (by assumption) ?_; try simp only [Act.put, List.setIfInBounds_toArray, List.set_cons_zero, List.set_cons_succ, Array.toArray_toList]
              refine wpAnyT_takeD 5 (some 95) [6, 7, 8, 10] (v := (.agg #[.int .i64 kd, .slice xa xq xcap, .int .i64 xt, .int .i64 xc])) rfl rfl (by kernel_rfl) (by kernel_rfl) (by kernel_rfl) (by kernel_rfl) (fun _ _ _ h => h) (.inl ⟨rfl, fun wS hSw => by obtain ⟨_, y0, y1, y2, y3⟩ := hSw; unfold execOp; go_simp⟩) (by assumption) ?_; try simp only [Act.put, List.setIfInBounds_toArray, List.set_cons_zero, List.set_cons_succ, Array.toArray_toList]
              refine wpAnyT_one 6 rfl (by kernel_rfl) (fun K' hK' => ?_)
              go_simp
              (go_at_call 19; (with_reducible refine (HDO.out _ HP7.out HR7.out HBY7.out).mono ?_); rintro e w9 ⟨v', u', rfl, hD9⟩; obtain ⟨R, hR⟩ : ∃ R, R = cellsR u' M1 := ⟨_, rfl⟩; rw [← hR]; have hRs := Lib.hid (show R.size = 6 by rw [hR]; rfl); have hR1 := Lib.hid (show R.all (·.oneCell') = true by rw [hR]; exact cellsR_one _ (own_slice hD9.r).2); have HR := Lib.hid hR; have DD := Lib.hid hD9; have s9 := HST.out _ s0 hD9.k; clear hD9 hR)
              go_wp2
              refine hK'.out _ _ (.inr s9) ?_; clear hK' K'; try simp only [Act.put, List.setIfInBounds_toArray, List.set_cons_zero, List.set_cons_succ, Array.toArray_toList]
              refine wpAnyT_takeD 7 (some 89) [8, 10] (v := (.tuple #[.agg R, .bool true])) rfl rfl (by kernel_rfl) (by kernel_rfl) (by kernel_rfl) (by kernel_rfl) (fun _ _ _ h => h) (yieldsIf_calc rfl (fun w => by unfold execOp; go_simp)) (by assumption) ?_; try simp only [Act.put, List.setIfInBounds_toArray, List.set_cons_zero, List.set_cons_succ, Array.toArray_toList]
              refine wpAnyT_takeD 8 (some 97) [10] (v := (.agg R)) rfl rfl (by kernel_rfl) (by kernel_rfl) (by kernel_rfl) (by kernel_rfl) (fun _ _ _ h => h) (yieldsIf_calc rfl (fun w => by unfold execOp; go_simp)) (by assumption) ?_; try simp only [Act.put, List.setIfInBounds_toArray, List.set_cons_zero, List.set_cons_succ, Array.toArray_toList]
              refine wpAnyT_pureD 9 (some 98) (v := (.bool true)) rfl rfl (by kernel_rfl) (by kernel_rfl) (by kernel_rfl) (by decide) (fun _ _ _ h => h) (yieldsIf_calc rfl (fun w => by unfold execOp; go_simp)) (.inr s9) ?_; try simp only [Act.put, List.setIfInBounds_toArray, List.set_cons_zero, List.set_cons_succ, Array.toArray_toList]
              refine wpAnyT_one 10 rfl (by kernel_rfl) (fun K' hK' => ?_)
              refine ite_go rfl ?_
              refine wp_store_blk none rfl 48 _ _ rfl g7 0 6 R rfl rfl s9.1 row48 hRs.out (by rw [hCs.out]; exact Nat.le_refl 6) hR1.out ?_
              intro w10 hb10 ho10; rw [splice_full _ _ (by rw [hCs.out, hRs.out])] at hb10
              refine hK'.out _ _ (.inl (by kernel_rfl)) ?_; clear hK' K'; try simp only [Act.put, List.setIfInBounds_toArray, List.set_cons_zero, List.set_cons_succ, Array.toArray_toList]
              refine wpAnyT_one 11 rfl (by kernel_rfl) (fun K' hK' => ?_)
              go_simp
              refine hK'.out _ _ (.inl (by kernel_rfl)) ?_; clear hK' K'; try simp only [Act.put, List.setIfInBounds_toArray, List.set_cons_zero, List.set_cons_succ, Array.toArray_toList]
              refine wpAnyT_done (by kernel_rfl) ?_ _
              have hpr' : Pair w w10 b g7 v' u' M1 := Pair.next2 hM1.out hB7 DD.out hbw (by omega) (by omega) s9.1 ho10 (by rw [← HR.out]; exact hb10)
              have hpA : RowKit.Hid (Pair w w10 b g7 v' u' M1) := Lib.hid hpr'
              have hpB := Lib.hid (Pair.keep HO7.out DD.out HP7.out ho10 s9.1 (by omega) (by omega) (by omega) (by omega) hpr'.k)
              clear HO7
              clear hpr' DD hb10 ho10 s9 s0 HDO HP7 HR7 HST hB7 hbr hgl hg hAt HBY7
              by_cases hl3 : k < q3
              · go_wp2_with fail
                have hP := hpA.out
                have hP2 := hpB.out
                clear hpA hpB
                obtain ⟨g, o, rfl, hAt⟩ := hat3.out k (by rw [← hq3.out]; exact hl3)
                have hx1 := few_len HF3.out k (by rw [← hq3.out]; exact hl3)
                generalize l3[k]'(by rw [← hq3.out]; exact hl3) = x at *
                have hg := hAt.lt
                have hap : ∀ b, w.heap.size ≤ b → 0 < x.l.length → ∀ g o, x.a = some ⟨g, o, none⟩ → g ≠ b := fun b hb h0 g o e => by
                  obtain ⟨g', o', e', hl, _⟩ := hAt.by_ h0
                  rw [e] at e'
                  simp only [Option.some.injEq, Addr.mk.injEq] at e'
                  omega
                obtain ⟨c0, c1, c2, c3, hgl, hby, hnil⟩ := hAt.later hP2.k
                obtain ⟨kd, xa, xcap, xl, xt, xc⟩ := x
                dsimp only at c0 c1 c2 c3 hby hnil hx1 hap
                obtain ⟨xq, hxq⟩ : ∃ xq, xq = xl.length := ⟨_, rfl⟩
                rw [← hxq] at c1
                have hdo := fun W (h1 : HP W b2 v2 m2) (h2 : RP W u2 m2) (h3 : Byt W xa xl) => do_any b2 v2 u2 m2 hP2.ok kd xt xc xl xa xq xcap hxq W h1 h2 h3 hnil (by omega) (hap b2 hb2w)
                have hM1 := Lib.hid (okH_do hP2.ok kd xt xc xl (by omega))
                generalize hMM : doS kd xt xc xl m2 = M1 at hM1 hdo
                have hcc := hP2.c
                generalize hCC : cellsR u2 m2 = C at hdo hcc
                have hCs := Lib.hid (show C.size = 6 by rw [← hCC]; rfl)
                have HBY7 : RowKit.Hid (Byt w10.drew xa xl) := Lib.hid hby
                have HDO := Lib.hid (fun W h1 h2 => hdo W h1 h2)
                have hbr : b2 < w10.drew.heap.size := hP2.p.1.lt
                have hB7 : Below w.heap.size w w10.drew := hP2.k.drew
                have s0 : OpS g15 C g o k kd xa xq xcap xt xc w10.drew := ⟨hcc.drew, c0, c1, c2, c3⟩
                have HST := Lib.hid (fun w' h hk => OpS.but (w := w10.drew) (w' := w') (b := b2) (g7 := g15) (C := C) (kd := kd) (xa := xa) (xq := xq) (xcap := xcap) (xt := xt) (xc := xc) (g := g) (o := o) (k := k) (by omega) (by omega) hgl h hk)
                have HP7 := Lib.hid (drew_hp hP2.p)
                have HR7 := Lib.hid (drew_rp hP2.r)
                have HO7 := Lib.hid (Pair.drew hP)
                clear hdo hMM hCC hap hnil hx1 c0 c1 c2 c3 hby hxq hcc
                clear hP2 hP
                go_wp2_with fail
                refine wp_region_any (by kernel_rfl) ?_
                refine wpAny_of_till (S := fun W' => Blk W' g15 C 48 ∧ W'.cell? ⟨g, o + k * 4, none⟩ = some (.int .i64 kd) ∧ W'.cell? ⟨g, o + k * 4 + 1, none⟩ = some (.slice xa xq xcap) ∧ W'.cell? ⟨g, o + k * 4 + 2, none⟩ = some (.int .i64 xt) ∧ W'.cell? ⟨g, o + k * 4 + 3, none⟩ = some (.int .i64 xc)) (m := 10) _ _ _ _ ?_
                show wpAnyT _ _ _ _ _ _ _ _ _ w10.drew
                generalize w10.drew = W7 at *
                refine wpAnyT_takeD 0 (some 107) [6, 7, 8, 10] (v := (.pointer (some ⟨b2, 0, none⟩))) rfl rfl (by kernel_rfl) (by kernel_rfl) (by kernel_rfl) (by kernel_rfl) (fun _ _ _ h => h) (yieldsIf_calc rfl (fun w => by unfold execOp; go_simp)) (by assumption) ?_; try simp only [Act.put, List.setIfInBounds_toArray, List.set_cons_zero, List.set_cons_succ, Array.toArray_toList]
                refine wpAnyT_takeD 1 (some 108) [6, 7, 8, 10] (v := (.agg (C))) rfl rfl (by kernel_rfl) (by kernel_rfl) (by kernel_rfl) (by kernel_rfl) (fun _ _ _ h => h) (yieldsIf_load_blk rfl 48 _ rfl (g15) 6 (C) 48 rfl (fun _ h => h.1) row48 (hCs.out)) (by assumption) ?_; try simp only [Act.put, List.setIfInBounds_toArray, List.set_cons_zero, List.set_cons_succ, Array.toArray_toList]
                refine wpAnyT_takeD 2 (some 109) [4, 5, 6, 7, 8, 10] (v := (.slice (some ⟨g, o, none⟩) q3 cap3)) rfl rfl (by kernel_rfl) (by kernel_rfl) (by kernel_rfl) (by kernel_rfl) (fun _ _ _ h => h) (yieldsIf_calc rfl (fun w => by unfold execOp; go_simp)) (by assumption) ?_; try simp only [Act.put, List.setIfInBounds_toArray, List.set_cons_zero, List.set_cons_succ, Array.toArray_toList]
                refine wpAnyT_takeD 3 (some 110) [4, 5, 6, 7, 8, 10] (v := (.int .i64 (k : Nat))) rfl rfl (by kernel_rfl) (by kernel_rfl) (by kernel_rfl) (by kernel_rfl) (fun _ _ _ h => h) (yieldsIf_calc rfl (fun w => by unfold execOp; go_simp)) (by assumption) ?_; try simp only [Act.put, List.setIfInBounds_toArray, List.set_cons_zero, List.set_cons_succ, Array.toArray_toList]
                refine wpAnyT_takeD 4 (some 111) [5, 6, 7, 8, 10] (v := (.pointer (some ⟨g, o + k * 4, none⟩))) rfl rfl (by kernel_rfl) (by kernel_rfl) (by kernel_rfl) (by kernel_rfl) (fun _ _ _ h => h) (yieldsIf_calc rfl (fun w => by unfold execOp; go_simp)) (by assumption) ?_; try simp only [Act.put, List.setIfInBounds_toArray, List.set_cons_zero, List.set_cons_succ, Array.toArray_toList]
                refine wpAnyT_takeD 5 (some 112) [6, 7, 8, 10] (v := (.agg #[.int .i64 kd, .slice xa xq xcap, .int .i64 xt, .int .i64 xc])) rfl rfl (by kernel_rfl) (by kernel_rfl) (by kernel_rfl) (by kernel_rfl) (fun _ _ _ h => h) (.inl ⟨rfl, fun wS hSw => by obtain ⟨_, y0, y1, y2, y3⟩ := hSw; unfold execOp; go_simp⟩) (by assumption) ?_; try simp only [Act.put, List.setIfInBounds_toArray, List.set_cons_zero, List.set_cons_succ, Array.toArray_toList]
                refine wpAnyT_one 6 rfl (by kernel_rfl) (fun K' hK' => ?_)
                go_simp
                (go_at_call 19; (with_reducible refine (HDO.out _ HP7.out HR7.out HBY7.out).mono ?_); rintro e w9 ⟨v', u', rfl, hD9⟩; obtain ⟨R, hR⟩ : ∃ R, R = cellsR u' M1 := ⟨_, rfl⟩; rw [← hR]; have hRs := Lib.hid (show R.size = 6 by rw [hR]; rfl); have hR1 := Lib.hid (show R.all (·.oneCell') = true by rw [hR]; exact cellsR_one _ (own_slice hD9.r).2); have HR := Lib.hid hR; have DD := Lib.hid hD9; have s9 := HST.out _ s0 hD9.k; clear hD9 hR)
                go_wp2
                refine hK'.out _ _ (.inr s9) ?_; clear hK' K'; try simp only [Act.put, List.setIfInBounds_toArray, List.set_cons_zero, List.set_cons_succ, Array.toArray_toList]
                refine wpAnyT_takeD 7 (some 106) [8, 10] (v := (.tuple #[.agg R, .bool true])) rfl rfl (by kernel_rfl) (by kernel_rfl) (by kernel_rfl) (by kernel_rfl) (fun _ _ _ h => h) (yieldsIf_calc rfl (fun w => by unfold execOp; go_simp)) (by assumption) ?_; try simp only [Act.put, List.setIfInBounds_toArray, List.set_cons_zero, List.set_cons_succ, Array.toArray_toList]
                refine wpAnyT_takeD 8 (some 114) [10] (v := (.agg R)) rfl rfl (by kernel_rfl) (by kernel_rfl) (by kernel_rfl) (by kernel_rfl) (fun _ _ _ h => h) (yieldsIf_calc rfl (fun w => by unfold execOp; go_simp)) (by assumption) ?_; try simp only [Act.put, List.setIfInBounds_toArray, List.set_cons_zero, List.set_cons_succ, Array.toArray_toList]
                refine wpAnyT_pureD 9 (some 115) (v := (.bool true)) rfl rfl (by kernel_rfl) (by kernel_rfl) (by kernel_rfl) (by decide) (fun _ _ _ h => h) (yieldsIf_calc rfl (fun w => by unfold execOp; go_simp)) (.inr s9) ?_; try simp only [Act.put, List.setIfInBounds_toArray, List.set_cons_zero, List.set_cons_succ, Array.toArray_toList]
                refine wpAnyT_one 10 rfl (by kernel_rfl) (fun K' hK' => ?_)
                refine ite_go rfl ?_
                refine wp_store_blk none rfl 48 _ _ rfl g15 0 6 R rfl rfl s9.1 row48 hRs.out (by rw [hCs.out]; exact Nat.le_refl 6) hR1.out ?_
                intro w10 hb10 ho10; rw [splice_full _ _ (by rw [hCs.out, hRs.out])] at hb10
                refine hK'.out _ _ (.inl (by kernel_rfl)) ?_; clear hK' K'; try simp only [Act.put, List.setIfInBounds_toArray, List.set_cons_zero, List.set_cons_succ, Array.toArray_toList]
                refine wpAnyT_one 11 rfl (by kernel_rfl) (fun K' hK' => ?_)
                go_simp
                refine hK'.out _ _ (.inl (by kernel_rfl)) ?_; clear hK' K'; try simp only [Act.put, List.setIfInBounds_toArray, List.set_cons_zero, List.set_cons_succ, Array.toArray_toList]
                refine wpAnyT_done (by kernel_rfl) ?_ _
                have hpr' : Pair w w10 b2 g15 v' u' M1 := Pair.next2 hM1.out hB7 DD.out hb2w (by omega) (by omega) s9.1 ho10 (by rw [← HR.out]; exact hb10)
                have hpC : RowKit.Hid (Pair w w10 b2 g15 v' u' M1) := Lib.hid hpr'
                have hpD := Lib.hid (Pair.keep HO7.out DD.out HP7.out ho10 s9.1 (by omega) (by omega) (by omega) (by omega) hpr'.k)
                clear HO7
                clear hpr' DD hb10 ho10 s9 s0 HDO HP7 HR7 HST hB7 hbr hgl hg hAt HBY7
                go_wp2
                exact ⟨⟨k + 1, _, _, _, _, _, _, by omega, by go_num, rfl, hpD.out, hpC.out⟩, by simp [intOf]; omega⟩
              · go_wp2
                exact ⟨⟨k + 1, _, _, _, _, _, _, by omega, by go_num, rfl, hpA.out, hpB.out⟩, by simp [intOf]; omega⟩
            · have hl3 : k < q3 := hm5 k hlm hl2
              obtain ⟨g, o, rfl, hAt⟩ := hat3.out k (by rw [← hq3.out]; exact hl3)
              have hx1 := few_len HF3.out k (by rw [← hq3.out]; exact hl3)
              generalize l3[k]'(by rw [← hq3.out]; exact hl3) = x at *
              have hg := hAt.lt
              have hap : ∀ b, w.heap.size ≤ b → 0 < x.l.length → ∀ g o, x.a = some ⟨g, o, none⟩ → g ≠ b := fun b hb h0 g o e => by
                obtain ⟨g', o', e', hl, _⟩ := hAt.by_ h0
                rw [e] at e'
                simp only [Option.some.injEq, Addr.mk.injEq] at e'
                omega
              obtain ⟨c0, c1, c2, c3, hgl, hby, hnil⟩ := hAt.later hP2.k
              obtain ⟨kd, xa, xcap, xl, xt, xc⟩ := x
              dsimp only at c0 c1 c2 c3 hby hnil hx1 hap
              obtain ⟨xq, hxq⟩ : ∃ xq, xq = xl.length := ⟨_, rfl⟩
              rw [← hxq] at c1
              have hdo := fun W (h1 : HP W b2 v2 m2) (h2 : RP W u2 m2) (h3 : Byt W xa xl) => do_any b2 v2 u2 m2 hP2.ok kd xt xc xl xa xq xcap hxq W h1 h2 h3 hnil (by omega) (hap b2 hb2w)
              have hM1 := Lib.hid (okH_do hP2.ok kd xt xc xl (by omega))
              generalize hMM : doS kd xt xc xl m2 = M1 at hM1 hdo
              have hcc := hP2.c
              generalize hCC : cellsR u2 m2 = C at hdo hcc
              have hCs := Lib.hid (show C.size = 6 by rw [← hCC]; rfl)
              have HBY7 : RowKit.Hid (Byt wr2.drew xa xl) := Lib.hid hby
              have HDO := Lib.hid (fun W h1 h2 => hdo W h1 h2)
              have hbr : b2 < wr2.drew.heap.size := hP2.p.1.lt
              have hB7 : Below w.heap.size w wr2.drew := hP2.k.drew
              have s0 : OpS g15 C g o k kd xa xq xcap xt xc wr2.drew := ⟨hcc.drew, c0, c1, c2, c3⟩
              have HST := Lib.hid (fun w' h hk => OpS.but (w := wr2.drew) (w' := w') (b := b2) (g7 := g15) (C := C) (kd := kd) (xa := xa) (xq := xq) (xcap := xcap) (xt := xt) (xc := xc) (g := g) (o := o) (k := k) (by omega) (by omega) hgl h hk)
              have HP7 := Lib.hid (drew_hp hP2.p)
              have HR7 := Lib.hid (drew_rp hP2.r)
              have HO7 := Lib.hid (Pair.drew hP)
              clear hdo hMM hCC hap hnil hx1 c0 c1 c2 c3 hby hxq hcc
              clear hP2 hP
              go_wp2_with fail
              refine wp_region_any (by kernel_rfl) ?_
              refine wpAny_of_till (S := fun W' => Blk W' g15 C 48 ∧ W'.cell? ⟨g, o + k * 4, none⟩ = some (.int .i64 kd) ∧ W'.cell? ⟨g, o + k * 4 + 1, none⟩ = some (.slice xa xq xcap) ∧ W'.cell? ⟨g, o + k * 4 + 2, none⟩ = some (.int .i64 xt) ∧ W'.cell? ⟨g, o + k * 4 + 3, none⟩ = some (.int .i64 xc)) (m := 10) _ _ _ _ ?_
              show wpAnyT _ _ _ _ _ _ _ _ _ wr2.drew
              generalize wr2.drew = W7 at *
              refine wpAnyT_takeD 0 (some 107) [6, 7, 8, 10] (v := (.pointer (some ⟨b2, 0, none⟩))) rfl rfl (by kernel_rfl) (by kernel_rfl) (by kernel_rfl) (by kernel_rfl) (fun _ _ _ h => h) (yieldsIf_calc rfl (fun w => by unfold execOp; go_simp)) (by assumption) ?_; try simp only [Act.put, List.setIfInBounds_toArray, List.set_cons_zero, List.set_cons_succ, Array.toArray_toList]
              refine wpAnyT_takeD 1 (some 108) [6, 7, 8, 10] (v := (.agg (C))) rfl rfl (by kernel_rfl) (by kernel_rfl) (by kernel_rfl) (by kernel_rfl) (fun _ _ _ h => h) (yieldsIf_load_blk rfl 48 _ rfl (g15) 6 (C) 48 rfl (fun _ h => h.1) row48 (hCs.out)) (by assumption) ?_; try simp only [Act.put, List.setIfInBounds_toArray, List.set_cons_zero, List.set_cons_succ, Array.toArray_toList]
              refine wpAnyT_takeD 2 (some 109) [4, 5, 6, 7, 8, 10] (v := (.slice (some ⟨g, o, none⟩) q3 cap3)) rfl rfl (by kernel_rfl) (by kernel_rfl) (by kernel_rfl) (by kernel_rfl) (fun _ _ _ h => h) (yieldsIf_calc rfl (fun w => by unfold execOp; go_simp)) (by assumption) ?_; try simp only [Act.put, List.setIfInBounds_toArray, List.set_cons_zero, List.set_cons_succ, Array.toArray_toList]
              refine wpAnyT_takeD 3 (some 110) [4, 5, 6, 7, 8, 10] (v := (.int .i64 (k : Nat))) rfl rfl (by kernel_rfl) (by kernel_rfl) (by kernel_rfl) (by kernel_rfl) (fun _ _ _ h => h) (yieldsIf_calc rfl (fun w => by unfold execOp; go_simp)) (by assumption) ?_; try simp only [Act.put, List.setIfInBounds_toArray, List.set_cons_zero, List.set_cons_succ, Array.toArray_toList]
              refine wpAnyT_takeD 4 (some 111) [5, 6, 7, 8, 10] (v := (.pointer (some ⟨g, o + k * 4, none⟩))) rfl rfl (by kernel_rfl) (by kernel_rfl) (by kernel_rfl) (by kernel_rfl) (fun _ _ _ h => h) (yieldsIf_calc rfl (fun w => by unfold execOp; go_simp)) (by assumption) ?_; try simp only [Act.put, List.setIfInBounds_toArray, List.set_cons_zero, List.set_cons_succ, Array.toArray_toList]
              refine wpAnyT_takeD 5 (some 112) [6, 7, 8, 10] (v := (.agg #[.int .i64 kd, .slice xa xq xcap, .int .i64 xt, .int .i64 xc])) rfl rfl (by kernel_rfl) (by kernel_rfl) (by kernel_rfl) (by kernel_rfl) (fun _ _ _ h => h) (.inl ⟨rfl, fun wS hSw => by obtain ⟨_, y0, y1, y2, y3⟩ := hSw; unfold execOp; go_simp⟩) (by assumption) ?_; try simp only [Act.put, List.setIfInBounds_toArray, List.set_cons_zero, List.set_cons_succ, Array.toArray_toList]
              refine wpAnyT_one 6 rfl (by kernel_rfl) (fun K' hK' => ?_)
              go_simp
              (go_at_call 19; (with_reducible refine (HDO.out _ HP7.out HR7.out HBY7.out).mono ?_); rintro e w9 ⟨v', u', rfl, hD9⟩; obtain ⟨R, hR⟩ : ∃ R, R = cellsR u' M1 := ⟨_, rfl⟩; rw [← hR]; have hRs := Lib.hid (show R.size = 6 by rw [hR]; rfl); have hR1 := Lib.hid (show R.all (·.oneCell') = true by rw [hR]; exact cellsR_one _ (own_slice hD9.r).2); have HR := Lib.hid hR; have DD := Lib.hid hD9; have s9 := HST.out _ s0 hD9.k; clear hD9 hR)
              go_wp2
              refine hK'.out _ _ (.inr s9) ?_; clear hK' K'; try simp only [Act.put, List.setIfInBounds_toArray, List.set_cons_zero, List.set_cons_succ, Array.toArray_toList]
              refine wpAnyT_takeD 7 (some 106) [8, 10] (v := (.tuple #[.agg R, .bool true])) rfl rfl (by kernel_rfl) (by kernel_rfl) (by kernel_rfl) (by kernel_rfl) (fun _ _ _ h => h) (yieldsIf_calc rfl (fun w => by unfold execOp; go_simp)) (by assumption) ?_; try simp only [Act.put, List.setIfInBounds_toArray, List.set_cons_zero, List.set_cons_succ, Array.toArray_toList]
              refine wpAnyT_takeD 8 (some 114) [10] (v := (.agg R)) rfl rfl (by kernel_rfl) (by kernel_rfl) (by kernel_rfl) (by kernel_rfl) (fun _ _ _ h => h) (yieldsIf_calc rfl (fun w => by unfold execOp; go_simp)) (by assumption) ?_; try simp only [Act.put, List.setIfInBounds_toArray, List.set_cons_zero, List.set_cons_succ, Array.toArray_toList]
              refine wpAnyT_pureD 9 (some 115) (v := (.bool true)) rfl rfl (by kernel_rfl) (by kernel_rfl) (by kernel_rfl) (by decide) (fun _ _ _ h => h) (yieldsIf_calc rfl (fun w => by unfold execOp; go_simp)) (.inr s9) ?_; try simp only [Act.put, List.setIfInBounds_toArray, List.set_cons_zero, List.set_cons_succ, Array.toArray_toList]
              refine wpAnyT_one 10 rfl (by kernel_rfl) (fun K' hK' => ?_)
              refine ite_go rfl ?_
              refine wp_store_blk none rfl 48 _ _ rfl g15 0 6 R rfl rfl s9.1 row48 hRs.out (by rw [hCs.out]; exact Nat.le_refl 6) hR1.out ?_
              intro w10 hb10 ho10; rw [splice_full _ _ (by rw [hCs.out, hRs.out])] at hb10
              refine hK'.out _ _ (.inl (by kernel_rfl)) ?_; clear hK' K'; try simp only [Act.put, List.setIfInBounds_toArray, List.set_cons_zero, List.set_cons_succ, Array.toArray_toList]
              refine wpAnyT_one 11 rfl (by kernel_rfl) (fun K' hK' => ?_)
              go_simp
              refine hK'.out _ _ (.inl (by kernel_rfl)) ?_; clear hK' K'; try simp only [Act.put, List.setIfInBounds_toArray, List.set_cons_zero, List.set_cons_succ, Array.toArray_toList]
              refine wpAnyT_done (by kernel_rfl) ?_ _
              have hpr' : Pair w w10 b2 g15 v' u' M1 := Pair.next2 hM1.out hB7 DD.out hb2w (by omega) (by omega) s9.1 ho10 (by rw [← HR.out]; exact hb10)
              have hpC : RowKit.Hid (Pair w w10 b2 g15 v' u' M1) := Lib.hid hpr'
              have hpD := Lib.hid (Pair.keep HO7.out DD.out HP7.out ho10 s9.1 (by omega) (by omega) (by omega) (by omega) hpr'.k)
              clear HO7
              clear hpr' DD hb10 ho10 s9 s0 HDO HP7 HR7 HST hB7 hbr hgl hg hAt HBY7
              go_wp2
              exact ⟨⟨k + 1, _, _, _, _, _, _, by omega, by go_num, rfl, hpD.out, hpC.out⟩, by simp [intOf]; omega⟩
          · obtain rfl : k = mx := by omega
            have hB := hP.k
            have hag1 : ∀ W, Blk W b (cellsH v m) 64 → Calls Try.prog 18 #[.pointer (some ⟨b, 0, none⟩), .agg #[.int .i64 (m.lim : Nat), .int .i64 (m.st : Nat), u, .int .i64 (m.num : Nat), .int .i64 (m.now : Nat), .int .i64 (m.sent : Nat)]] W fun e w' => e = .returned (.bool true) ∧ Below W.heap.size W w' := fun W h => agrees_any b v u m hP.ok W h
            have hag2 : ∀ W, Blk W b2 (cellsH v2 m2) 64 → Calls Try.prog 18 #[.pointer (some ⟨b2, 0, none⟩), .agg #[.int .i64 (m2.lim : Nat), .int .i64 (m2.st : Nat), u2, .int .i64 (m2.num : Nat), .int .i64 (m2.now : Nat), .int .i64 (m2.sent : Nat)]] W fun e w' => e = .returned (.bool true) ∧ Below W.heap.size W w' := fun W h => agrees_any b2 v2 u2 m2 hP2.ok W h
            have c0 : wr2.cell? ⟨g7, 0, none⟩ = some (.int .i64 (m.lim : Nat)) := hP.c.cell 0
            have c1 : wr2.cell? ⟨g7, 1, none⟩ = some (.int .i64 (m.st : Nat)) := hP.c.cell 1
            have c2 : wr2.cell? ⟨g7, 2, none⟩ = some u := hP.c.cell 2
            have c3 : wr2.cell? ⟨g7, 3, none⟩ = some (.int .i64 (m.num : Nat)) := hP.c.cell 3
            have c4 : wr2.cell? ⟨g7, 4, none⟩ = some (.int .i64 (m.now : Nat)) := hP.c.cell 4
            have c5 : wr2.cell? ⟨g7, 5, none⟩ = some (.int .i64 (m.sent : Nat)) := hP.c.cell 5
            have HP1 := Lib.hid hP
            have HP2 := Lib.hid hP2
            replace hag1 := Lib.hid hag1
            replace hag2 := Lib.hid hag2
            clear hP hP2
            go_wp2_with (first
              | (go_at_call 18; (with_reducible refine (hag1.out _ HP1.out.p.1).mono ?_); rintro e wX ⟨rfl, hBX⟩; have HBX := Lib.hid hBX; have hC := HP2.out.c.below hBX HP2.out.c.lt
                 have d0 : wX.cell? ⟨g15, 0, none⟩ = some (.int .i64 (m2.lim : Nat)) := hC.cell 0
                 have d1 : wX.cell? ⟨g15, 1, none⟩ = some (.int .i64 (m2.st : Nat)) := hC.cell 1
                 have d2 : wX.cell? ⟨g15, 2, none⟩ = some u2 := hC.cell 2
                 have d3 : wX.cell? ⟨g15, 3, none⟩ = some (.int .i64 (m2.num : Nat)) := hC.cell 3
                 have d4 : wX.cell? ⟨g15, 4, none⟩ = some (.int .i64 (m2.now : Nat)) := hC.cell 4
                 have d5 : wX.cell? ⟨g15, 5, none⟩ = some (.int .i64 (m2.sent : Nat)) := hC.cell 5
                 clear hBX hC c0 c1 c2 c3 c4 c5)
              | (go_at_call 18; (with_reducible refine (hag2.out _ (HP2.out.p.1.below HBX.out HP2.out.p.1.lt)).mono ?_); rintro e wY ⟨rfl, hBY⟩; have HBY := Lib.hid hBY; clear hBY d0 d1 d2 d3 d4 d5)
              | (go_at_call 9; (with_reducible refine (hk _).mono ?_); rintro e w9 ⟨rfl, hw9⟩))
            all_goals (go_ret; exact ⟨rfl, bnext (bnext (bnext hB HBX.out) HBY.out) hw9⟩)
        
      · skip
        go_simp
        obtain ⟨w6, hw6⟩ : ∃ w6, w6 = W7.alloc (.cells Z 48) := ⟨_, rfl⟩
        rw [← hw6]
        have kz : Blk w6 W7.heap.size Z 48 := by rw [hw6]; exact Blk.new' rfl
        have HB6 : RowKit.Hid (Below W7.heap.size W7 w6) := Lib.hid (by rw [hw6]; exact alloc_below _ _)
        clear hw6
        have s6 := s0.below HB6.out s0.lt
        refine hK'.out _ _ (s6) ?_; clear hK' K'; try simp only [Act.put, List.setIfInBounds_toArray, List.set_cons_zero, List.set_cons_succ, Array.toArray_toList]
        have n6 := kz.lt
        have n7 := HP7.out.c.lt
        refine wpAnyH_one 1 rfl (by kernel_rfl) (fun K' hK' => ?_)
        go_simp
        (go_at_call 23; (with_reducible refine (hcp.out _ ((HP7.out.below HB6.out).p)).mono ?_); rintro e w8 ⟨v2, rfl, hp2, hB8⟩; have HP8 := Lib.hid hp2; have HB8 := Lib.hid hB8; have s8 := s6.below hB8 s6.lt; clear hp2 hB8)
        go_wp2
        refine hK'.out _ _ (s8) ?_; clear hK' K'; try simp only [Act.put, List.setIfInBounds_toArray, List.set_cons_zero, List.set_cons_succ, Array.toArray_toList]
        have kz8 := kz.below HB8.out kz.lt
        refine wpAnyH_one 4 rfl (by kernel_rfl) (fun K' hK' => ?_)
        go_simp
        refine hK'.out _ _ (s8) ?_; clear hK' K'; try simp only [Act.put, List.setIfInBounds_toArray, List.set_cons_zero, List.set_cons_succ, Array.toArray_toList]
        have hb215' : W7.heap.size < w6.heap.size := n6
        refine wpAnyH_one 5 rfl (by kernel_rfl) (fun K' hK' => ?_)
        refine ite_go rfl ?_
        refine wp_store_blk none rfl 48 _ _ rfl W7.heap.size 0 6 C rfl rfl kz8 row48 hCs.out (by rw [hZs.out]; exact Nat.le_refl 6) hC1.out ?_
        intro wS hbS hoS; rw [splice_full _ _ (by rw [hZs.out, hCs.out])] at hbS
        have sS := s8.only hoS (by omega)
        refine hK'.out _ _ (sS) ?_; clear hK' K'; try simp only [Act.put, List.setIfInBounds_toArray, List.set_cons_zero, List.set_cons_succ, Array.toArray_toList]
        refine wpAnyH_done (by kernel_rfl) ?_ _
        have hB78 := HB6.out.trans (HB8.out.mono (Nat.le_of_lt n6))
        have hp1 : RowKit.Hid (Pair w wS b g7 v u m) := Lib.hid (Pair.copied HP7.out hB78 kz8 hoS (Nat.le_refl _))
        have hp2 : RowKit.Hid (Pair w wS w6.heap.size W7.heap.size v2 u m) := Lib.hid ⟨HOK.out, ⟨HP8.out.1.only hoS (by omega), own_only HP8.out.2 hoS (own_ne_blk HP8.out.2 kz8 (by decide))⟩, hp1.out.r, by rw [HC.out]; exact hbS, hp1.out.k⟩
        have hb2w : w.heap.size ≤ w6.heap.size := Nat.le_trans HP7.out.k.size (Nat.le_of_lt n6)
        have hg15w : w.heap.size ≤ W7.heap.size := HP7.out.k.size
        have hbb : b < W7.heap.size := HP7.out.p.1.lt
        clear hbS hoS sS kz kz8 s6 s8 s0 HB6 HB8 HP8 HP7 hB78 hcp hC1 hCs HC HOK n6 hlt
        generalize w6.heap.size = b2 at *
        generalize W7.heap.size = g15 at *
        have hag2 : ∀ W, Blk W b2 (cellsH v2 m) 64 → Calls Try.prog 18 #[.pointer (some ⟨b2, 0, none⟩), .agg #[.int .i64 (m.lim : Nat), .int .i64 (m.st : Nat), u, .int .i64 (m.num : Nat), .int .i64 (m.now : Nat), .int .i64 (m.sent : Nat)]] W fun e w' => e = .returned (.bool true) ∧ Below W.heap.size W w' := fun W h => agrees_any b2 v2 u m hp2.out.ok W h
        have c0 : wS.cell? ⟨g15, 0, none⟩ = some (.int .i64 (m.lim : Nat)) := hp2.out.c.cell 0
        have c1 : wS.cell? ⟨g15, 1, none⟩ = some (.int .i64 (m.st : Nat)) := hp2.out.c.cell 1
        have c2 : wS.cell? ⟨g15, 2, none⟩ = some u := hp2.out.c.cell 2
        have c3 : wS.cell? ⟨g15, 3, none⟩ = some (.int .i64 (m.num : Nat)) := hp2.out.c.cell 3
        have c4 : wS.cell? ⟨g15, 4, none⟩ = some (.int .i64 (m.now : Nat)) := hp2.out.c.cell 4
        have c5 : wS.cell? ⟨g15, 5, none⟩ = some (.int .i64 (m.sent : Nat)) := hp2.out.c.cell 5
        replace hag2 := Lib.hid hag2
        go_wp2_with (first
          | (go_at_call 18; (with_reducible refine (hag2.out _ hp2.out.p.1).mono ?_); rintro e wT ⟨rfl, hBT⟩; have hp3 := Lib.hid (Pair.below hp1.out hBT); have hp4 := Lib.hid (Pair.below hp2.out hBT); clear hBT c0 c1 c2 c3 c4 c5))
        clear hag2 hp1 hp2
        go_loopw [12, 16] (fun t12 t16 wr2 => ∃ (k : Nat) (v u : Value) (m : Hq) (v2 u2 : Value) (m2 : Hq), k ≤ mx ∧ t16 = .int .i64 k ∧ t12 = .bool true ∧ Pair w wr2 b g7 v u m ∧ Pair w wr2 b2 g15 v2 u2 m2) (fun _ t _ => mx - (intOf t).toNat)
        case atStart => exact ⟨0, _, _, _, _, _, _, by omega, rfl, rfl, hp3.out, hp4.out⟩
        case round =>
          clear hp3 hp4
          rename World => wr2
          obtain ⟨k, v, u, m, v2, u2, m2, hkq, rfl, rfl, hP, hP2⟩ := hrel
          by_cases hlm : k < mx
          · by_cases hl2 : k < q2
            · obtain ⟨g, o, rfl, hAt⟩ := hat2.out k (by rw [← hq2.out]; exact hl2)
              have hx1 := few_len HF2.out k (by rw [← hq2.out]; exact hl2)
              generalize l2[k]'(by rw [← hq2.out]; exact hl2) = x at *
              have hg := hAt.lt
              have hap : ∀ b, w.heap.size ≤ b → 0 < x.l.length → ∀ g o, x.a = some ⟨g, o, none⟩ → g ≠ b := fun b hb h0 g o e => by
                obtain ⟨g', o', e', hl, _⟩ := hAt.by_ h0
                rw [e] at e'
                simp only [Option.some.injEq, Addr.mk.injEq] at e'
                omega
              obtain ⟨c0, c1, c2, c3, hgl, hby, hnil⟩ := hAt.later hP.k
              obtain ⟨kd, xa, xcap, xl, xt, xc⟩ := x
              dsimp only at c0 c1 c2 c3 hby hnil hx1 hap
              obtain ⟨xq, hxq⟩ : ∃ xq, xq = xl.length := ⟨_, rfl⟩
              rw [← hxq] at c1
              have hdo := fun W (h1 : HP W b v m) (h2 : RP W u m) (h3 : Byt W xa xl) => do_any b v u m hP.ok kd xt xc xl xa xq xcap hxq W h1 h2 h3 hnil (by omega) (hap b hbw)
              have hM1 := Lib.hid (okH_do hP.ok kd xt xc xl (by omega))
              generalize hMM : doS kd xt xc xl m = M1 at hM1 hdo
              have hcc := hP.c
              generalize hCC : cellsR u m = C at hdo hcc
              have hCs := Lib.hid (show C.size = 6 by rw [← hCC]; rfl)
              have HBY7 : RowKit.Hid (Byt wr2.drew xa xl) := Lib.hid hby
              have HDO := Lib.hid (fun W h1 h2 => hdo W h1 h2)
              have hbr : b < wr2.drew.heap.size := hP.p.1.lt
              have hB7 : Below w.heap.size w wr2.drew := hP.k.drew
              have s0 : OpS g7 C g o k kd xa xq xcap xt xc wr2.drew := ⟨hcc.drew, c0, c1, c2, c3⟩
              have HST := Lib.hid (fun w' h hk => OpS.but (w := wr2.drew) (w' := w') (b := b) (g7 := g7) (C := C) (kd := kd) (xa := xa) (xq := xq) (xcap := xcap) (xt := xt) (xc := xc) (g := g) (o := o) (k := k) (by omega) (by omega) hgl h hk)
              have HP7 := Lib.hid (drew_hp hP.p)
              have HR7 := Lib.hid (drew_rp hP.r)
              have HO7 := Lib.hid (Pair.drew hP2)
              clear hdo hMM hCC hap hnil hx1 c0 c1 c2 c3 hby hxq hcc
              clear hP hP2
              go_wp2_with fail
              refine wp_region_any (by kernel_rfl) ?_
              refine wpAny_of_till (S := fun W' => Blk W' g7 C 48 ∧ W'.cell? ⟨g, o + k * 4, none⟩ = some (.int .i64 kd) ∧ W'.cell? ⟨g, o + k * 4 + 1, none⟩ = some (.slice xa xq xcap) ∧ W'.cell? ⟨g, o + k * 4 + 2, none⟩ = some (.int .i64 xt) ∧ W'.cell? ⟨g, o + k * 4 + 3, none⟩ = some (.int .i64 xc)) (m := 10) _ _ _ _ ?_
              show wpAnyT _ _ _ _ _ _ _ _ _ wr2.drew
              generalize wr2.drew = W7 at *
              refine wpAnyT_takeD 0 (some 90) [6, 7, 8, 10] (v := (.pointer (some ⟨b, 0, none⟩))) rfl rfl (by kernel_rfl) (by kernel_rfl) (by kernel_rfl) (by kernel_rfl) (fun _ _ _ h => h) (yieldsIf_calc rfl (fun w => by unfold execOp; go_simp)) (by assumption) ?_; try simp only [Act.put, List.setIfInBounds_toArray, List.set_cons_zero, List.set_cons_succ, Array.toArray_toList]
              refine wpAnyT_takeD 1 (some 91) [6, 7, 8, 10] (v := (.agg (C))) rfl rfl (by kernel_rfl) (by kernel_rfl) (by kernel_rfl) (by kernel_rfl) (fun _ _ _ h => h) (yieldsIf_load_blk rfl 48 _ rfl (g7) 6 (C) 48 rfl (fun _ h => h.1) row48 (hCs.out)) (by assumption) ?_; try simp only [Act.put, List.setIfInBounds_toArray, List.set_cons_zero, List.set_cons_succ, Array.toArray_toList]
              refine wpAnyT_takeD 2 (some 92) [4, 5, 6, 7, 8, 10] (v := (.slice (some ⟨g, o, none⟩) q2 cap2)) rfl rfl (by kernel_rfl) (by kernel_rfl) (by kernel_rfl) (by kernel_rfl) (fun _ _ _ h => h) (yieldsIf_calc rfl (fun w => by unfold execOp; go_simp)) (by assumption) ?_; try simp only [Act.put, List.setIfInBounds_toArray, List.set_cons_zero, List.set_cons_succ, Array.toArray_toList]
              refine wpAnyT_takeD 3 (some 93) [4, 5, 6, 7, 8, 10] (v := (.int .i64 (k : Nat))) rfl rfl (by kernel_rfl) (by kernel_rfl) (by kernel_rfl) (by kernel_rfl) (fun _ _ _ h => h) (yieldsIf_calc rfl (fun w => by unfold execOp; go_simp)) (by assumption) ?_; try simp only [Act.put, List.setIfInBounds_toArray, List.set_cons_zero, List.set_cons_succ, Array.toArray_toList]
              refine wpAnyT_takeD 4 (some 94) [5, 6, 7, 8, 10] (v := (.pointer (some ⟨g, o + k * 4, none⟩))) rfl rfl (by kernel_rfl) (by kernel_rfl) (by kernel_rfl) (by kernel_rfl) (fun _ _ _ h => h) (yieldsIf_calc rfl (fun w => by unfold execOp; go_simp)) (by assumption) ?_; try simp only [Act.put, List.setIfInBounds_toArray, List.set_cons_zero, List.set_cons_succ, Array.toArray_toList]
              refine wpAnyT_takeD 5 (some 95) [6, 7, 8, 10] (v := (.agg #[.int .i64 kd, .slice xa xq xcap, .int .i64 xt, .int .i64 xc])) rfl rfl (by kernel_rfl) (by kernel_rfl) (by kernel_rfl) (by kernel_rfl) (fun _ _ _ h => h) (.inl ⟨rfl, fun wS hSw => by obtain ⟨_, y0, y1, y2, y3⟩ := hSw; unfold execOp; go_simp⟩) (by assumption) ?_; try simp only [Act.put, List.setIfInBounds_toArray, List.set_cons_zero, List.set_cons_succ, Array.toArray_toList]
              refine wpAnyT_one 6 rfl (by kernel_rfl) (fun K' hK' => ?_)
              go_simp
              (go_at_call 19; (with_reducible refine (HDO.out _ HP7.out HR7.out HBY7.out).mono ?_); rintro e w9 ⟨v', u', rfl, hD9⟩; obtain ⟨R, hR⟩ : ∃ R, R = cellsR u' M1 := ⟨_, rfl⟩; rw [← hR]; have hRs := Lib.hid (show R.size = 6 by rw [hR]; rfl); have hR1 := Lib.hid (show R.all (·.oneCell') = true by rw [hR]; exact cellsR_one _ (own_slice hD9.r).2); have HR := Lib.hid hR; have DD := Lib.hid hD9; have s9 := HST.out _ s0 hD9.k; clear hD9 hR)
              go_wp2
              refine hK'.out _ _ (.inr s9) ?_; clear hK' K'; try simp only [Act.put, List.setIfInBounds_toArray, List.set_cons_zero, List.set_cons_succ, Array.toArray_toList]
              refine wpAnyT_takeD 7 (some 89) [8, 10] (v := (.tuple #[.agg R, .bool true])) rfl rfl (by kernel_rfl) (by kernel_rfl) (by kernel_rfl) (by kernel_rfl) (fun _ _ _ h => h) (yieldsIf_calc rfl (fun w => by unfold execOp; go_simp)) (by assumption) ?_; try simp only [Act.put, List.setIfInBounds_toArray, List.set_cons_zero, List.set_cons_succ, Array.toArray_toList]
              refine wpAnyT_takeD 8 (some 97) [10] (v := (.agg R)) rfl rfl (by kernel_rfl) (by kernel_rfl) (by kernel_rfl) (by kernel_rfl) (fun _ _ _ h => h) (yieldsIf_calc rfl (fun w => by unfold execOp; go_simp)) (by assumption) ?_; try simp only [Act.put, List.setIfInBounds_toArray, List.set_cons_zero, List.set_cons_succ, Array.toArray_toList]
              refine wpAnyT_pureD 9 (some 98) (v := (.bool true)) rfl rfl (by kernel_rfl) (by kernel_rfl) (by kernel_rfl) (by decide) (fun _ _ _ h => h) (yieldsIf_calc rfl (fun w => by unfold execOp; go_simp)) (.inr s9) ?_; try simp only [Act.put, List.setIfInBounds_toArray, List.set_cons_zero, List.set_cons_succ, Array.toArray_toList]
              refine wpAnyT_one 10 rfl (by kernel_rfl) (fun K' hK' => ?_)
              refine ite_go rfl ?_
              refine wp_store_blk none rfl 48 _ _ rfl g7 0 6 R rfl rfl s9.1 row48 hRs.out (by rw [hCs.out]; exact Nat.le_refl 6) hR1.out ?_
              intro w10 hb10 ho10; rw [splice_full _ _ (by rw [hCs.out, hRs.out])] at hb10
              refine hK'.out _ _ (.inl (by kernel_rfl)) ?_; clear hK' K'; try simp only [Act.put, List.setIfInBounds_toArray, List.set_cons_zero, List.set_cons_succ, Array.toArray_toList]
              refine wpAnyT_one 11 rfl (by kernel_rfl) (fun K' hK' => ?_)
              go_simp
              refine hK'.out _ _ (.inl (by kernel_rfl)) ?_; clear hK' K'; try simp only [Act.put, List.setIfInBounds_toArray, List.set_cons_zero, List.set_cons_succ, Array.toArray_toList]
              refine wpAnyT_done (by kernel_rfl) ?_ _
              have hpr' : Pair w w10 b g7 v' u' M1 := Pair.next2 hM1.out hB7 DD.out hbw (by omega) (by omega) s9.1 ho10 (by rw [← HR.out]; exact hb10)
              have hpA : RowKit.Hid (Pair w w10 b g7 v' u' M1) := Lib.hid hpr'
              have hpB := Lib.hid (Pair.keep HO7.out DD.out HP7.out ho10 s9.1 (by omega) (by omega) (by omega) (by omega) hpr'.k)
              clear HO7
              clear hpr' DD hb10 ho10 s9 s0 HDO HP7 HR7 HST hB7 hbr hgl hg hAt HBY7
              by_cases hl3 : k < q3
              · go_wp2_with fail
                have hP := hpA.out
                have hP2 := hpB.out
                clear hpA hpB
                obtain ⟨g, o, rfl, hAt⟩ := hat3.out k (by rw [← hq3.out]; exact hl3)
                have hx1 := few_len HF3.out k (by rw [← hq3.out]; exact hl3)
                generalize l3[k]'(by rw [← hq3.out]; exact hl3) = x at *
                have hg := hAt.lt
                have hap : ∀ b, w.heap.size ≤ b → 0 < x.l.length → ∀ g o, x.a = some ⟨g, o, none⟩ → g ≠ b := fun b hb h0 g o e => by
                  obtain ⟨g', o', e', hl, _⟩ := hAt.by_ h0
                  rw [e] at e'
                  simp only [Option.some.injEq, Addr.mk.injEq] at e'
                  omega
                obtain ⟨c0, c1, c2, c3, hgl, hby, hnil⟩ := hAt.later hP2.k
                obtain ⟨kd, xa, xcap, xl, xt, xc⟩ := x
                dsimp only at c0 c1 c2 c3 hby hnil hx1 hap
                obtain ⟨xq, hxq⟩ : ∃ xq, xq = xl.length := ⟨_, rfl⟩
                rw [← hxq] at c1
                have hdo := fun W (h1 : HP W b2 v2 m2) (h2 : RP W u2 m2) (h3 : Byt W xa xl) => do_any b2 v2 u2 m2 hP2.ok kd xt xc xl xa xq xcap hxq W h1 h2 h3 hnil (by omega) (hap b2 hb2w)
                have hM1 := Lib.hid (okH_do hP2.ok kd xt xc xl (by omega))
                generalize hMM : doS kd xt xc xl m2 = M1 at hM1 hdo
                have hcc := hP2.c
                generalize hCC : cellsR u2 m2 = C at hdo hcc
                have hCs := Lib.hid (show C.size = 6 by rw [← hCC]; rfl)
                have HBY7 : RowKit.Hid (Byt w10.drew xa xl) := Lib.hid hby
                have HDO := Lib.hid (fun W h1 h2 => hdo W h1 h2)
                have hbr : b2 < w10.drew.heap.size := hP2.p.1.lt
                have hB7 : Below w.heap.size w w10.drew := hP2.k.drew
                have s0 : OpS g15 C g o k kd xa xq xcap xt xc w10.drew := ⟨hcc.drew, c0, c1, c2, c3⟩
                have HST := Lib.hid (fun w' h hk => OpS.but (w := w10.drew) (w' := w') (b := b2) (g7 := g15) (C := C) (kd := kd) (xa := xa) (xq := xq) (xcap := xcap) (xt := xt) (xc := xc) (g := g) (o := o) (k := k) (by omega) (by omega) hgl h hk)
                have HP7 := Lib.hid (drew_hp hP2.p)
                have HR7 := Lib.hid (drew_rp hP2.r)
                have HO7 := Lib.hid (Pair.drew hP)
                clear hdo hMM hCC hap hnil hx1 c0 c1 c2 c3 hby hxq hcc
                clear hP2 hP
                go_wp2_with fail
                refine wp_region_any (by kernel_rfl) ?_
                refine wpAny_of_till (S := fun W' => Blk W' g15 C 48 ∧ W'.cell? ⟨g, o + k * 4, none⟩ = some (.int .i64 kd) ∧ W'.cell? ⟨g, o + k * 4 + 1, none⟩ = some (.slice xa xq xcap) ∧ W'.cell? ⟨g, o + k * 4 + 2, none⟩ = some (.int .i64 xt) ∧ W'.cell? ⟨g, o + k * 4 + 3, none⟩ = some (.int .i64 xc)) (m := 10) _ _ _ _ ?_
                show wpAnyT _ _ _ _ _ _ _ _ _ w10.drew
                generalize w10.drew = W7 at *
                refine wpAnyT_takeD 0 (some 107) [6, 7, 8, 10] (v := (.pointer (some ⟨b2, 0, none⟩))) rfl rfl (by kernel_rfl) (by kernel_rfl) (by kernel_rfl) (by kernel_rfl) (fun _ _ _ h => h) (yieldsIf_calc rfl (fun w => by unfold execOp; go_simp)) (by assumption) ?_; try simp only [Act.put, List.setIfInBounds_toArray, List.set_cons_zero, List.set_cons_succ, Array.toArray_toList]
                refine wpAnyT_takeD 1 (some 108) [6, 7, 8, 10] (v := (.agg (C))) rfl rfl (by kernel_rfl) (by kernel_rfl) (by kernel_rfl) (by kernel_rfl) (fun _ _ _ h => h) (yieldsIf_load_blk rfl 48 _ rfl (g15) 6 (C) 48 rfl (fun _ h => h.1) row48 (hCs.out)) (by assumption) ?_; try simp only [Act.put, List.setIfInBounds_toArray, List.set_cons_zero, List.set_cons_succ, Array.toArray_toList]
                refine wpAnyT_takeD 2 (some 109) [4, 5, 6, 7, 8, 10] (v := (.slice (some ⟨g, o, none⟩) q3 cap3)) rfl rfl (by kernel_rfl) (by kernel_rfl) (by kernel_rfl) (by kernel_rfl) (fun _ _ _ h => h) (yieldsIf_calc rfl (fun w => by unfold execOp; go_simp)) (by assumption) ?_; try simp only [Act.put, List.setIfInBounds_toArray, List.set_cons_zero, List.set_cons_succ, Array.toArray_toList]
                refine wpAnyT_takeD 3 (some 110) [4, 5, 6, 7, 8, 10] (v := (.int .i64 (k : Nat))) rfl rfl (by kernel_rfl) (by kernel_rfl) (by kernel_rfl) (by kernel_rfl) (fun _ _ _ h => h) (yieldsIf_calc rfl (fun w => by unfold execOp; go_simp)) (by assumption) ?_; try simp only [Act.put, List.setIfInBounds_toArray, List.set_cons_zero, List.set_cons_succ, Array.toArray_toList]
                refine wpAnyT_takeD 4 (some 111) [5, 6, 7, 8, 10] (v := (.pointer (some ⟨g, o + k * 4, none⟩))) rfl rfl (by kernel_rfl) (by kernel_rfl) (by kernel_rfl) (by kernel_rfl) (fun _ _ _ h => h) (yieldsIf_calc rfl (fun w => by unfold execOp; go_simp)) (by assumption) ?_; try simp only [Act.put, List.setIfInBounds_toArray, List.set_cons_zero, List.set_cons_succ, Array.toArray_toList]
                refine wpAnyT_takeD 5 (some 112) [6, 7, 8, 10] (v := (.agg #[.int .i64 kd, .slice xa xq xcap, .int .i64 xt, .int .i64 xc])) rfl rfl (by kernel_rfl) (by kernel_rfl) (by kernel_rfl) (by kernel_rfl) (fun _ _ _ h => h) (.inl ⟨rfl, fun wS hSw => by obtain ⟨_, y0, y1, y2, y3⟩ := hSw; unfold execOp; go_simp⟩) (by assumption) ?_; try simp only [Act.put, List.setIfInBounds_toArray, List.set_cons_zero, List.set_cons_succ, Array.toArray_toList]
                refine wpAnyT_one 6 rfl (by kernel_rfl) (fun K' hK' => ?_)
                go_simp
                (go_at_call 19; (with_reducible refine (HDO.out _ HP7.out HR7.out HBY7.out).mono ?_); rintro e w9 ⟨v', u', rfl, hD9⟩; obtain ⟨R, hR⟩ : ∃ R, R = cellsR u' M1 := ⟨_, rfl⟩; rw [← hR]; have hRs := Lib.hid (show R.size = 6 by rw [hR]; rfl); have hR1 := Lib.hid (show R.all (·.oneCell') = true by rw [hR]; exact cellsR_one _ (own_slice hD9.r).2); have HR := Lib.hid hR; have DD := Lib.hid hD9; have s9 := HST.out _ s0 hD9.k; clear hD9 hR)
                go_wp2
                refine hK'.out _ _ (.inr s9) ?_; clear hK' K'; try simp only [Act.put, List.setIfInBounds_toArray, List.set_cons_zero, List.set_cons_succ, Array.toArray_toList]
                refine wpAnyT_takeD 7 (some 106) [8, 10] (v := (.tuple #[.agg R, .bool true])) rfl rfl (by kernel_rfl) (by kernel_rfl) (by kernel_rfl) (by kernel_rfl) (fun _ _ _ h => h) (yieldsIf_calc rfl (fun w => by unfold execOp; go_simp)) (by assumption) ?_; try simp only [Act.put, List.setIfInBounds_toArray, List.set_cons_zero, List.set_cons_succ, Array.toArray_toList]
                refine wpAnyT_takeD 8 (some 114) [10] (v := (.agg R)) rfl rfl (by kernel_rfl) (by kernel_rfl) (by kernel_rfl) (by kernel_rfl) (fun _ _ _ h => h) (yieldsIf_calc rfl (fun w => by unfold execOp; go_simp)) (by assumption) ?_; try simp only [Act.put, List.setIfInBounds_toArray, List.set_cons_zero, List.set_cons_succ, Array.toArray_toList]
                refine wpAnyT_pureD 9 (some 115) (v := (.bool true)) rfl rfl (by kernel_rfl) (by kernel_rfl) (by kernel_rfl) (by decide) (fun _ _ _ h => h) (yieldsIf_calc rfl (fun w => by unfold execOp; go_simp)) (.inr s9) ?_; try simp only [Act.put, List.setIfInBounds_toArray, List.set_cons_zero, List.set_cons_succ, Array.toArray_toList]
                refine wpAnyT_one 10 rfl (by kernel_rfl) (fun K' hK' => ?_)
                refine ite_go rfl ?_
                refine wp_store_blk none rfl 48 _ _ rfl g15 0 6 R rfl rfl s9.1 row48 hRs.out (by rw [hCs.out]; exact Nat.le_refl 6) hR1.out ?_
                intro w10 hb10 ho10; rw [splice_full _ _ (by rw [hCs.out, hRs.out])] at hb10
                refine hK'.out _ _ (.inl (by kernel_rfl)) ?_; clear hK' K'; try simp only [Act.put, List.setIfInBounds_toArray, List.set_cons_zero, List.set_cons_succ, Array.toArray_toList]
                refine wpAnyT_one 11 rfl (by kernel_rfl) (fun K' hK' => ?_)
                go_simp
                refine hK'.out _ _ (.inl (by kernel_rfl)) ?_; clear hK' K'; try simp only [Act.put, List.setIfInBounds_toArray, List.set_cons_zero, List.set_cons_succ, Array.toArray_toList]
                refine wpAnyT_done (by kernel_rfl) ?_ _
                have hpr' : Pair w w10 b2 g15 v' u' M1 := Pair.next2 hM1.out hB7 DD.out hb2w (by omega) (by omega) s9.1 ho10 (by rw [← HR.out]; exact hb10)
                have hpC : RowKit.Hid (Pair w w10 b2 g15 v' u' M1) := Lib.hid hpr'
                have hpD := Lib.hid (Pair.keep HO7.out DD.out HP7.out ho10 s9.1 (by omega) (by omega) (by omega) (by omega) hpr'.k)
                clear HO7
                clear hpr' DD hb10 ho10 s9 s0 HDO HP7 HR7 HST hB7 hbr hgl hg hAt HBY7
                go_wp2
                exact ⟨⟨k + 1, _, _, _, _, _, _, by omega, by go_num, rfl, hpD.out, hpC.out⟩, by simp [intOf]; omega⟩
              · go_wp2
                exact ⟨⟨k + 1, _, _, _, _, _, _, by omega, by go_num, rfl, hpA.out, hpB.out⟩, by simp [intOf]; omega⟩
            · have hl3 : k < q3 := hm5 k hlm hl2
              obtain ⟨g, o, rfl, hAt⟩ := hat3.out k (by rw [← hq3.out]; exact hl3)
              have hx1 := few_len HF3.out k (by rw [← hq3.out]; exact hl3)
              generalize l3[k]'(by rw [← hq3.out]; exact hl3) = x at *
              have hg := hAt.lt
              have hap : ∀ b, w.heap.size ≤ b → 0 < x.l.length → ∀ g o, x.a = some ⟨g, o, none⟩ → g ≠ b := fun b hb h0 g o e => by
                obtain ⟨g', o', e', hl, _⟩ := hAt.by_ h0
                rw [e] at e'
                simp only [Option.some.injEq, Addr.mk.injEq] at e'
                omega
              obtain ⟨c0, c1, c2, c3, hgl, hby, hnil⟩ := hAt.later hP2.k
              obtain ⟨kd, xa, xcap, xl, xt, xc⟩ := x
              dsimp only at c0 c1 c2 c3 hby hnil hx1 hap
              obtain ⟨xq, hxq⟩ : ∃ xq, xq = xl.length := ⟨_, rfl⟩
              rw [← hxq] at c1
              have hdo := fun W (h1 : HP W b2 v2 m2) (h2 : RP W u2 m2) (h3 : Byt W xa xl) => do_any b2 v2 u2 m2 hP2.ok kd xt xc xl xa xq xcap hxq W h1 h2 h3 hnil (by omega) (hap b2 hb2w)
              have hM1 := Lib.hid (okH_do hP2.ok kd xt xc xl (by omega))
              generalize hMM : doS kd xt xc xl m2 = M1 at hM1 hdo
              have hcc := hP2.c
              generalize hCC : cellsR u2 m2 = C at hdo hcc
              have hCs := Lib.hid (show C.size = 6 by rw [← hCC]; rfl)
              have HBY7 : RowKit.Hid (Byt wr2.drew xa xl) := Lib.hid hby
              have HDO := Lib.hid (fun W h1 h2 => hdo W h1 h2)
              have hbr : b2 < wr2.drew.heap.size := hP2.p.1.lt
              have hB7 : Below w.heap.size w wr2.drew := hP2.k.drew
              have s0 : OpS g15 C g o k kd xa xq xcap xt xc wr2.drew := ⟨hcc.drew, c0, c1, c2, c3⟩
              have HST := Lib.hid (fun w' h hk => OpS.but (w := wr2.drew) (w' := w') (b := b2) (g7 := g15) (C := C) (kd := kd) (xa := xa) (xq := xq) (xcap := xcap) (xt := xt) (xc := xc) (g := g) (o := o) (k := k) (by omega) (by omega) hgl h hk)
              have HP7 := Lib.hid (drew_hp hP2.p)
              have HR7 := Lib.hid (drew_rp hP2.r)
              have HO7 := Lib.hid (Pair.drew hP)
              clear hdo hMM hCC hap hnil hx1 c0 c1 c2 c3 hby hxq hcc
              clear hP2 hP
              go_wp2_with fail
              refine wp_region_any (by kernel_rfl) ?_
              refine wpAny_of_till (S := fun W' => Blk W' g15 C 48 ∧ W'.cell? ⟨g, o + k * 4, none⟩ = some (.int .i64 kd) ∧ W'.cell? ⟨g, o + k * 4 + 1, none⟩ = some (.slice xa xq xcap) ∧ W'.cell? ⟨g, o + k * 4 + 2, none⟩ = some (.int .i64 xt) ∧ W'.cell? ⟨g, o + k * 4 + 3, none⟩ = some (.int .i64 xc)) (m := 10) _ _ _ _ ?_
              show wpAnyT _ _ _ _ _ _ _ _ _ wr2.drew
              generalize wr2.drew = W7 at *
              refine wpAnyT_takeD 0 (some 107) [6, 7, 8, 10] (v := (.pointer (some ⟨b2, 0, none⟩))) rfl rfl (by kernel_rfl) (by kernel_rfl) (by kernel_rfl) (by kernel_rfl) (fun _ _ _ h => h) (yieldsIf_calc rfl (fun w => by unfold execOp; go_simp)) (by assumption) ?_; try simp only [Act.put, List.setIfInBounds_toArray, List.set_cons_zero, List.set_cons_succ, Array.toArray_toList]
              refine wpAnyT_takeD 1 (some 108) [6, 7, 8, 10] (v := (.agg (C))) rfl rfl (by kernel_rfl) (by kernel_rfl) (by kernel_rfl) (by kernel_rfl) (fun _ _ _ h => h) (yieldsIf_load_blk rfl 48 _ rfl (g15) 6 (C) 48 rfl (fun _ h => h.1) row48 (hCs.out)) (by assumption) ?_; try simp only [Act.put, List.setIfInBounds_toArray, List.set_cons_zero, List.set_cons_succ, Array.toArray_toList]
              refine wpAnyT_takeD 2 (some 109) [4, 5, 6, 7, 8, 10] (v := (.slice (some ⟨g, o, none⟩) q3 cap3)) rfl rfl (by kernel_rfl) (by kernel_rfl) (by kernel_rfl) (by kernel_rfl) (fun _ _ _ h => h) (yieldsIf_calc rfl (fun w => by unfold execOp; go_simp)) (by assumption) ?_; try simp only [Act.put, List.setIfInBounds_toArray, List.set_cons_zero, List.set_cons_succ, Array.toArray_toList]
              refine wpAnyT_takeD 3 (some 110) [4, 5, 6, 7, 8, 10] (v := (.int .i64 (k : Nat))) rfl rfl (by kernel_rfl) (by kernel_rfl) (by kernel_rfl) (by kernel_rfl) (fun _ _ _ h => h) (yieldsIf_calc rfl (fun w => by unfold execOp; go_simp)) (by assumption) ?_; try simp only [Act.put, List.setIfInBounds_toArray, List.set_cons_zero, List.set_cons_succ, Array.toArray_toList]
              refine wpAnyT_takeD 4 (some 111) [5, 6, 7, 8, 10] (v := (.pointer (some ⟨g, o + k * 4, none⟩))) rfl rfl (by kernel_rfl) (by kernel_rfl) (by kernel_rfl) (by kernel_rfl) (fun _ _ _ h => h) (yieldsIf_calc rfl (fun w => by unfold execOp; go_simp)) (by assumption) ?_; try simp only [Act.put, List.setIfInBounds_toArray, List.set_cons_zero, List.set_cons_succ, Array.toArray_toList]
              refine wpAnyT_takeD 5 (some 112) [6, 7, 8, 10] (v := (.agg #[.int .i64 kd, .slice xa xq xcap, .int .i64 xt, .int .i64 xc])) rfl rfl (by kernel_rfl) (by kernel_rfl) (by kernel_rfl) (by kernel_rfl) (fun _ _ _ h => h) (.inl ⟨rfl, fun wS hSw => by obtain ⟨_, y0, y1, y2, y3⟩ := hSw; unfold execOp; go_simp⟩) (by assumption) ?_; try simp only [Act.put, List.setIfInBounds_toArray, List.set_cons_zero, List.set_cons_succ, Array.toArray_toList]
              refine wpAnyT_one 6 rfl (by kernel_rfl) (fun K' hK' => ?_)
              go_simp
              (go_at_call 19; (with_reducible refine (HDO.out _ HP7.out HR7.out HBY7.out).mono ?_); rintro e w9 ⟨v', u', rfl, hD9⟩; obtain ⟨R, hR⟩ : ∃ R, R = cellsR u' M1 := ⟨_, rfl⟩; rw [← hR]; have hRs := Lib.hid (show R.size = 6 by rw [hR]; rfl); have hR1 := Lib.hid (show R.all (·.oneCell') = true by rw [hR]; exact cellsR_one _ (own_slice hD9.r).2); have HR := Lib.hid hR; have DD := Lib.hid hD9; have s9 := HST.out _ s0 hD9.k; clear hD9 hR)
              go_wp2
              refine hK'.out _ _ (.inr s9) ?_; clear hK' K'; try simp only [Act.put, List.setIfInBounds_toArray, List.set_cons_zero, List.set_cons_succ, Array.toArray_toList]
              refine wpAnyT_takeD 7 (some 106) [8, 10] (v := (.tuple #[.agg R, .bool true])) rfl rfl (by kernel_rfl) (by kernel_rfl) (by kernel_rfl) (by kernel_rfl) (fun _ _ _ h => h) (yieldsIf_calc rfl (fun w => by unfold execOp; go_simp)) (by assumption) ?_; try simp only [Act.put, List.setIfInBounds_toArray, List.set_cons_zero, List.set_cons_succ, Array.toArray_toList]
              refine wpAnyT_takeD 8 (some 114) [10] (v := (.agg R)) rfl rfl (by kernel_rfl) (by kernel_rfl) (by kernel_rfl) (by kernel_rfl) (fun _ _ _ h => h) (yieldsIf_calc rfl (fun w => by unfold execOp; go_simp)) (by assumption) ?_; try simp only [Act.put, List.setIfInBounds_toArray, List.set_cons_zero, List.set_cons_succ, Array.toArray_toList]
              refine wpAnyT_pureD 9 (some 115) (v := (.bool true)) rfl rfl (by kernel_rfl) (by kernel_rfl) (by kernel_rfl) (by decide) (fun _ _ _ h => h) (yieldsIf_calc rfl (fun w => by unfold execOp; go_simp)) (.inr s9) ?_; try simp only [Act.put, List.setIfInBounds_toArray, List.set_cons_zero, List.set_cons_succ, Array.toArray_toList]
              refine wpAnyT_one 10 rfl (by kernel_rfl) (fun K' hK' => ?_)
              refine ite_go rfl ?_
              refine wp_store_blk none rfl 48 _ _ rfl g15 0 6 R rfl rfl s9.1 row48 hRs.out (by rw [hCs.out]; exact Nat.le_refl 6) hR1.out ?_
              intro w10 hb10 ho10; rw [splice_full _ _ (by rw [hCs.out, hRs.out])] at hb10
              refine hK'.out _ _ (.inl (by kernel_rfl)) ?_; clear hK' K'; try simp only [Act.put, List.setIfInBounds_toArray, List.set_cons_zero, List.set_cons_succ, Array.toArray_toList]
              refine wpAnyT_one 11 rfl (by kernel_rfl) (fun K' hK' => ?_)
              go_simp
              refine hK'.out _ _ (.inl (by kernel_rfl)) ?_; clear hK' K'; try simp only [Act.put, List.setIfInBounds_toArray, List.set_cons_zero, List.set_cons_succ, Array.toArray_toList]
              refine wpAnyT_done (by kernel_rfl) ?_ _
              have hpr' : Pair w w10 b2 g15 v' u' M1 := Pair.next2 hM1.out hB7 DD.out hb2w (by omega) (by omega) s9.1 ho10 (by rw [← HR.out]; exact hb10)
              have hpC : RowKit.Hid (Pair w w10 b2 g15 v' u' M1) := Lib.hid hpr'
              have hpD := Lib.hid (Pair.keep HO7.out DD.out HP7.out ho10 s9.1 (by omega) (by omega) (by omega) (by omega) hpr'.k)
              clear HO7
              clear hpr' DD hb10 ho10 s9 s0 HDO HP7 HR7 HST hB7 hbr hgl hg hAt HBY7
              go_wp2
              exact ⟨⟨k + 1, _, _, _, _, _, _, by omega, by go_num, rfl, hpD.out, hpC.out⟩, by simp [intOf]; omega⟩
          · obtain rfl : k = mx := by omega
            have hB := hP.k
            have hag1 : ∀ W, Blk W b (cellsH v m) 64 → Calls Try.prog 18 #[.pointer (some ⟨b, 0, none⟩), .agg #[.int .i64 (m.lim : Nat), .int .i64 (m.st : Nat), u, .int .i64 (m.num : Nat), .int .i64 (m.now : Nat), .int .i64 (m.sent : Nat)]] W fun e w' => e = .returned (.bool true) ∧ Below W.heap.size W w' := fun W h => agrees_any b v u m hP.ok W h
            have hag2 : ∀ W, Blk W b2 (cellsH v2 m2) 64 → Calls Try.prog 18 #[.pointer (some ⟨b2, 0, none⟩), .agg #[.int .i64 (m2.lim : Nat), .int .i64 (m2.st : Nat), u2, .int .i64 (m2.num : Nat), .int .i64 (m2.now : Nat), .int .i64 (m2.sent : Nat)]] W fun e w' => e = .returned (.bool true) ∧ Below W.heap.size W w' := fun W h => agrees_any b2 v2 u2 m2 hP2.ok W h
            have c0 : wr2.cell? ⟨g7, 0, none⟩ = some (.int .i64 (m.lim : Nat)) := hP.c.cell 0
            have c1 : wr2.cell? ⟨g7, 1, none⟩ = some (.int .i64 (m.st : Nat)) := hP.c.cell 1
            have c2 : wr2.cell? ⟨g7, 2, none⟩ = some u := hP.c.cell 2
            have c3 : wr2.cell? ⟨g7, 3, none⟩ = some (.int .i64 (m.num : Nat)) := hP.c.cell 3
            have c4 : wr2.cell? ⟨g7, 4, none⟩ = some (.int .i64 (m.now : Nat)) := hP.c.cell 4
            have c5 : wr2.cell? ⟨g7, 5, none⟩ = some (.int .i64 (m.sent : Nat)) := hP.c.cell 5
            have HP1 := Lib.hid hP
            have HP2 := Lib.hid hP2
            replace hag1 := Lib.hid hag1
            replace hag2 := Lib.hid hag2
            clear hP hP2
            go_wp2_with (first
              | (go_at_call 18; (with_reducible refine (hag1.out _ HP1.out.p.1).mono ?_); rintro e wX ⟨rfl, hBX⟩; have HBX := Lib.hid hBX; have hC := HP2.out.c.below hBX HP2.out.c.lt
                 have d0 : wX.cell? ⟨g15, 0, none⟩ = some (.int .i64 (m2.lim : Nat)) := hC.cell 0
                 have d1 : wX.cell? ⟨g15, 1, none⟩ = some (.int .i64 (m2.st : Nat)) := hC.cell 1
                 have d2 : wX.cell? ⟨g15, 2, none⟩ = some u2 := hC.cell 2
                 have d3 : wX.cell? ⟨g15, 3, none⟩ = some (.int .i64 (m2.num : Nat)) := hC.cell 3
                 have d4 : wX.cell? ⟨g15, 4, none⟩ = some (.int .i64 (m2.now : Nat)) := hC.cell 4
                 have d5 : wX.cell? ⟨g15, 5, none⟩ = some (.int .i64 (m2.sent : Nat)) := hC.cell 5
                 clear hBX hC c0 c1 c2 c3 c4 c5)
              | (go_at_call 18; (with_reducible refine (hag2.out _ (HP2.out.p.1.below HBX.out HP2.out.p.1.lt)).mono ?_); rintro e wY ⟨rfl, hBY⟩; have HBY := Lib.hid hBY; clear hBY d0 d1 d2 d3 d4 d5)
              | (go_at_call 9; (with_reducible refine (hk _).mono ?_); rintro e w9 ⟨rfl, hw9⟩))
            all_goals (go_ret; exact ⟨rfl, bnext (bnext (bnext hB HBX.out) HBY.out) hw9⟩)
        
end Go.Proofs.Ythbpmofabcilhaa
