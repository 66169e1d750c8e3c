/-
  Bit strings, runs: the reference's lists.
-/
import Derived.Test.YtflmbghbgmkdeaaBitS
import Derived.Deep.AppendLies
import Derived.OneCell
import Derived.Deep.RegionHeld3
import Derived.StillTail
import Derived.Test.YtflmbghbgmkdeaaHeld
namespace Go.Proofs.Ytflmbghbgmkdeaa
open Go.RowKit

def I64 (n : Nat) : Value := .int .i64 n
/-- The runs of the first k elements, the last one open. -/
def opR (l : List UInt8) : Nat → List (Nat × UInt8)
  | 0 => []
  | i + 1 => runsF l i ++ [(i + 1 - fromF l i, gd l i)]
theorem opR_end (l : List UInt8) : opR l l.length = runsF l l.length := by
  cases h : l.length with
  | zero => rfl
  | succ i =>
    have : cont l i = false := by unfold cont; rw [decide_eq_false (by omega)]; rfl
    rw [opR, runsF, this]; rfl
theorem opR_new (l : List UInt8) (k : Nat) (hk : k < l.length) (h : k = 0 ∨ ∃ j, k = j + 1 ∧ gd l k ≠ gd l j) : opR l (k + 1) = opR l k ++ [(1, gd l k)] := by
  rcases h with rfl | ⟨j, rfl, h⟩
  · rfl
  · have : cont l j = false := by unfold cont; rw [decide_eq_false h, Bool.and_false]
    rw [opR, opR, runsF, fromF, this]
    simp
theorem opR_old (l : List UInt8) (j : Nat) (hk : j + 1 < l.length) (h : gd l (j + 1) = gd l j) : opR l (j + 1) = runsF l j ++ [(j + 1 - fromF l j, gd l j)] ∧ opR l (j + 1 + 1) = runsF l j ++ [(j + 1 - fromF l j + 1, gd l j)] := by
  have hc : cont l j = true := by unfold cont; rw [decide_eq_true h, decide_eq_true hk]; rfl
  have := fromF_le l j
  refine ⟨rfl, ?_⟩
  rw [opR, runsF, fromF, hc, if_pos rfl, if_pos rfl, h, show j + 1 + 1 - fromF l j = j + 1 - fromF l j + 1 by omega]
theorem opR_length (l : List UInt8) : ∀ k, (opR l k).length ≤ k
  | 0 => Nat.le_refl _
  | i + 1 => by rw [opR]; have := runsF_length l i; simp; omega
def nsL (R : List (Nat × UInt8)) : List Value := R.map fun p => I64 p.1
def csL (R : List (Nat × UInt8)) : List Value := R.map fun p => B p.2
theorem info3 : (Try.prog.info? 3).map (fun i => (i.zero, i.size, i.bytes)) = some (some (.int .i64 0), 1, 8) := by kernel_rfl

/-- The two lists in memory. -/
structure TwoR (base : Nat) (R : List (Nat × UInt8)) (u v : Value) (w : World) : Prop where
  ns : w.ownsRow base 3 1 u R.length (nsL R)
  cs : w.ownsRow base 5 1 v R.length (csL R)
  ne : ∀ g, u.ownBlock = some g → v.ownBlock ≠ some g
theorem nil3 (w : World) : ∀ (base : Nat), TwoR base [] (.slice none 0 0) (.slice none 0 0) w := fun base => ⟨World.ownsRow_nil _ _ _ _, World.ownsRow_nil _ _ _ _, fun g h => by cases h⟩

theorem ne_row {u v : Value} (h : ∀ g, u.ownBlock = some g → v.ownBlock ≠ some g) : v.ownBlock = none ∨ v.ownBlock ≠ u.ownBlock := by
  cases hv : v.ownBlock with
  | none => exact .inl rfl
  | some g => exact .inr (fun e => h g e.symm hv)
theorem sep_of {base : Nat} {R : List (Nat × UInt8)} {u v : Value} {w : World} {g : Nat} (h : TwoR base R u v w) (hl : u.ownBlock = some g ∨ g = w.heap.size + 1) : v.ownBlock ≠ some g := by
  rcases hl with hl | rfl
  · exact h.ne g hl
  · intro e; have := (h.cs.lt _ e).2; omega
theorem last_get (xs : List Value) (v : Value) (n : Nat) (h : RowKit.Hid (n = xs.length)) : (xs ++ [v])[n]? = some v := by
  rw [h.out]; simp
theorem ite_go {b : Bool} {A C : Prop} (hb : b = true) (h : A) : if b = true then A else C := by rw [if_pos hb]; exact h
theorem wpAnyH_takeD {P : Program} {md : Region.Mode} {ops : Array Oper} {Q : Exit → Act → World → Prop} {S : World → Prop} (i : Nat) (d : Option Tmp) {oi : Oper} {v : Value} {fuel : Nat} {listed : Array Bool} {a : Act} {w : World} (hi : ops[i]? = some oi) (hd : oi.dst = d)
    (hs : Region.noSelect ops = true) (hf : Region.free md ops listed i = true) (hr : (Region.ready md ops listed).contains i = true)
    (hQ : ∀ c a w, Q (.panic c) (a.put oi.dst v) w → Q (.panic c) a w) (hy : YieldsIf P ops S oi v a) (hS : S w)
    (h : wpAnyH P md ops Q S fuel (listed.setIfInBounds i true) (a.put d v) w) : wpAnyH P md ops Q S (fuel + 1) listed a w := by
  subst hd; exact wpAnyH_take hi hs hf hr hQ hy hS h
theorem yieldsIf_calc {P : Program} {ops : Array Oper} {S : World → Prop} {op : Oper} {a : Act} {v : Value} (hw : Region.wanted op (yielded ops a.tmps) = true) (h : ∀ w, (execOp a.eval op).run P w = .ok (.value v) w) : YieldsIf P ops S op v a := .inl ⟨hw, fun w _ => h w⟩
theorem set_last (xs : List Value) (v u : Value) (n : Nat) (h : RowKit.Hid (n = xs.length)) : (xs ++ [v]).set n u = xs ++ [u] := by
  rw [h.out]; simp
theorem two_of {base L g1 g2 cap1 cap2 : Nat} {R : List (Nat × UInt8)} {x : UInt8} {w : World} (hL : L = R.length) (o3 : w.ownsRow base 3 1 (.slice (some ⟨g1, 0, none⟩) (L + 1) cap1) (L + 1) (nsL R ++ [.int .i64 0])) (o2 : w.ownsRow base 5 1 (.slice (some ⟨g2, 0, none⟩) (L + 1) cap2) (L + 1) (csL R ++ [B x])) (hne : g1 ≠ g2) :
    TwoR base (R ++ [(0, x)]) (.slice (some ⟨g1, 0, none⟩) (L + 1) cap1) (.slice (some ⟨g2, 0, none⟩) (L + 1) cap2) w := by
  subst hL
  refine ⟨?_, ?_, fun g e => ?_⟩
  · have e1 : nsL (R ++ [(0, x)]) = nsL R ++ [.int .i64 0] := by simp [nsL, I64]
    rw [List.length_append, e1]; exact o3
  · have e1 : csL (R ++ [(0, x)]) = csL R ++ [B x] := by simp [csL]
    rw [List.length_append, e1]; exact o2
  · have e1 : g1 = g := by simpa [Value.ownBlock] using e
    subst e1
    intro e2
    have e3 : g2 = g1 := by simpa [Value.ownBlock] using e2
    exact hne e3.symm
theorem two_set {base r n : Nat} {R : List (Nat × UInt8)} {x : UInt8} {u v : Value} {w : World} (h : TwoR base (R ++ [(r, x)]) u v w) (g cap : Nat) (hu : u = .slice (some ⟨g, 0, none⟩) (R.length + 1) cap) (L : Nat) (hL : L = R.length) (z : Int) (hz : z = n) :
    TwoR base (R ++ [(n, x)]) u v (w.setCell ⟨g, L, none⟩ (.int .i64 z)) := by
  subst hu hL hz
  have h1 := h.ns
  rw [List.length_append] at h1
  have h2 := (World.ownsRow.stored h1 R.length (.int .i64 (n : Nat))).1
  refine ⟨?_, ?_, h.ne⟩
  · rw [List.length_append]
    have e1 : (nsL (R ++ [(r, x)])).set R.length (.int .i64 (n : Nat)) = nsL (R ++ [(n, x)]) := by simp [nsL, I64]
    rw [e1] at h2; exact h2
  · have h3 := h.cs
    have e1 : csL (R ++ [(r, x)]) = csL (R ++ [(n, x)]) := by simp [csL]
    rw [e1] at h3
    rw [List.length_append] at h3 ⊢
    exact ownsRow_setCell_other h3 (h.ne g rfl) _
set_option maxRecDepth 100000 in
set_option maxHeartbeats 4000000 in
theorem rruns_any (l : List UInt8) (v : Value) (w : World) (hv : Bsl w v l) (hlen : l.length ≤ 10000) :
    Calls Try.prog 30 #[v] w fun e w' => ∃ p q, e = .returned (.tuple #[p, q]) ∧ TwoR w.heap.size (runsF l l.length) p q w' ∧ Below w.heap.size w w' := by
  obtain ⟨i0, hi, hz0, hz1, hz2⟩ := info_parts info5
  obtain ⟨i3, hj, hy0, hy1, hy2⟩ := info_parts info3
  obtain ⟨a, cap, rfl, q1, q2, q3, q4⟩ := hv
  have Q1 := Lib.hid q1
  have Q2 := Lib.hid q2
  have Q3 := Lib.hid q3
  have Q4 := Lib.hid q4
  obtain ⟨q, hq⟩ : ∃ q, q = l.length := ⟨_, rfl⟩
  rw [← hq]
  have hq10 : q ≤ 10000 := by omega
  have HQ := Lib.hid hq
  clear q1 q2 q3 q4 hlen hq
  go_enter Try.func30, Try.ntmps30
  go_wp2
  go_loopw [4, 5, 6] (fun t4 t5 t6 wr => ∃ k : Nat, k ≤ q ∧ t6 = .int .i64 k ∧ TwoR w.heap.size (opR l k) t4 t5 wr ∧ Below w.heap.size w wr) (fun _ _ t _ => q - (intOf t).toNat)
  case atStart => exact ⟨0, by omega, rfl, nil3 _ _, Below.refl _ _⟩
  case round =>
    obtain ⟨k, hk, rfl, hR, hB⟩ := hrel
    by_cases hlt : k < q
    · have hlt' : k < l.length := by rw [← HQ.out]; exact hlt
      obtain ⟨b, o, rfl, hbl, hc⟩ := Q4.out (by omega)
      have c1 : wr.cell? ⟨b, o + k, none⟩ = some (.int .u8 (gd l k).toNat) := (hB.cell (p := ⟨b, o + k, none⟩) hbl).trans (hc k hlt')
      have hcx := hc
      have HC := Lib.hid hc
      have hopl := opR_length l k
      obtain ⟨x1, hx1⟩ : ∃ x, x = (gd l k).toNat := ⟨_, rfl⟩
      rw [← hx1] at c1
      by_cases hnew : k = 0 ∨ ∃ j, k = j + 1 ∧ gd l k ≠ gd l j
      · have hop := Lib.hid (opR_new l k hlt' hnew)
        obtain ⟨L, hL⟩ : ∃ L, L = (opR l k).length := ⟨_, rfl⟩
        have hns := hR.ns.drew
        have hcs := hR.cs.drew
        have hLn : L = (nsL (opR l k)).length := by rw [hL]; simp [nsL]
        rw [← hL] at hns hcs hopl
        replace hL := Lib.hid hL
        replace hLn := Lib.hid hLn
        have hB0 := hB.drew
        have hBsz := hB.size
        have hc2 : ∀ w1, Below w.heap.size w w1 → w1.cell? ⟨b, o + k, none⟩ = some (.int .u8 (x1 : Nat)) := fun w1 h => by rw [hx1]; exact (h.cell (p := ⟨b, o + k, none⟩) hbl).trans (HC.out k hlt')
        have HC2 := Lib.hid hc2
        have c1d : wr.drew.cell? ⟨b, o + k, none⟩ = some (.int .u8 (x1 : Nat)) := c1
        have hxb : (Value.int .u8 (x1 : Nat)) = B (gd l k) := by rw [hx1]; rfl
        have HXB := Lib.hid hxb
        have HX1 := Lib.hid hx1
        clear hc hcx hc2 hx1 hxb hlt'
        rcases hnew with hk0 | ⟨j, hkj, hne⟩
        · have hk1 : ((k : Int) == 0) = true := by rw [hk0]; rfl
          replace hk0 := Lib.hid hk0
          go_wp2_with fail
          refine wp_region_held_drew (S := fun _ => True) (by kernel_rfl) trivial (fun hHeld => ?_)
          refine wpAnyH_takeD 0 (some 13) (v := (.int .i64 (k : Nat))) rfl rfl (by kernel_rfl) (by kernel_rfl) (by kernel_rfl) (fun _ _ _ h => h) (yieldsIf_calc rfl (fun w => by unfold execOp; go_simp)) (by assumption) ?_; try simp only [Act.put, List.setIfInBounds_toArray, List.set_cons_zero, List.set_cons_succ, Array.toArray_toList]
          refine wpAnyH_takeD 1 (some 14) (v := (.bool true)) rfl rfl (by kernel_rfl) (by kernel_rfl) (by kernel_rfl) (fun _ _ _ h => h) (yieldsIf_calc rfl (fun w => by unfold execOp; go_simp)) (by assumption) ?_; try simp only [Act.put, List.setIfInBounds_toArray, List.set_cons_zero, List.set_cons_succ, Array.toArray_toList]
          refine wpAnyH_takeD 2 (some 15) (v := (.bool true)) rfl rfl (by kernel_rfl) (by kernel_rfl) (by kernel_rfl) (fun _ _ _ h => h) (yieldsIf_calc rfl (fun w => by unfold execOp; go_simp)) (by assumption) ?_; try simp only [Act.put, List.setIfInBounds_toArray, List.set_cons_zero, List.set_cons_succ, Array.toArray_toList]
          refine wpAnyH_takeD 3 (some 16) (v := undef) rfl rfl (by kernel_rfl) (by kernel_rfl) (by kernel_rfl) (fun _ _ _ h => h) (.inr ⟨rfl, rfl⟩) (by assumption) ?_; try simp only [Act.put, List.setIfInBounds_toArray, List.set_cons_zero, List.set_cons_succ, Array.toArray_toList]
          refine wpAnyH_takeD 4 (some 17) (v := undef) rfl rfl (by kernel_rfl) (by kernel_rfl) (by kernel_rfl) (fun _ _ _ h => h) (.inr ⟨rfl, rfl⟩) (by assumption) ?_; try simp only [Act.put, List.setIfInBounds_toArray, List.set_cons_zero, List.set_cons_succ, Array.toArray_toList]
          refine wpAnyH_takeD 5 (some 18) (v := undef) rfl rfl (by kernel_rfl) (by kernel_rfl) (by kernel_rfl) (fun _ _ _ h => h) (.inr ⟨rfl, rfl⟩) (by assumption) ?_; try simp only [Act.put, List.setIfInBounds_toArray, List.set_cons_zero, List.set_cons_succ, Array.toArray_toList]
          refine wpAnyH_takeD 6 (some 19) (v := undef) rfl rfl (by kernel_rfl) (by kernel_rfl) (by kernel_rfl) (fun _ _ _ h => h) (.inr ⟨rfl, rfl⟩) (by assumption) ?_; try simp only [Act.put, List.setIfInBounds_toArray, List.set_cons_zero, List.set_cons_succ, Array.toArray_toList]
          refine wpAnyH_takeD 7 (some 20) (v := undef) rfl rfl (by kernel_rfl) (by kernel_rfl) (by kernel_rfl) (fun _ _ _ h => h) (.inr ⟨rfl, rfl⟩) (by assumption) ?_; try simp only [Act.put, List.setIfInBounds_toArray, List.set_cons_zero, List.set_cons_succ, Array.toArray_toList]
          refine wpAnyH_takeD 8 (some 21) (v := undef) rfl rfl (by kernel_rfl) (by kernel_rfl) (by kernel_rfl) (fun _ _ _ h => h) (.inr ⟨rfl, rfl⟩) (by assumption) ?_; try simp only [Act.put, List.setIfInBounds_toArray, List.set_cons_zero, List.set_cons_succ, Array.toArray_toList]
          refine wpAnyH_takeD 9 (some 22) (v := undef) rfl rfl (by kernel_rfl) (by kernel_rfl) (by kernel_rfl) (fun _ _ _ h => h) (.inr ⟨rfl, rfl⟩) (by assumption) ?_; try simp only [Act.put, List.setIfInBounds_toArray, List.set_cons_zero, List.set_cons_succ, Array.toArray_toList]
          refine wpAnyH_takeD 10 (some 23) (v := undef) rfl rfl (by kernel_rfl) (by kernel_rfl) (by kernel_rfl) (fun _ _ _ h => h) (.inr ⟨rfl, rfl⟩) (by assumption) ?_; try simp only [Act.put, List.setIfInBounds_toArray, List.set_cons_zero, List.set_cons_succ, Array.toArray_toList]
          refine wpAnyH_takeD 11 (some 24) (v := undef) rfl rfl (by kernel_rfl) (by kernel_rfl) (by kernel_rfl) (fun _ _ _ h => h) (.inr ⟨rfl, rfl⟩) (by assumption) ?_; try simp only [Act.put, List.setIfInBounds_toArray, List.set_cons_zero, List.set_cons_succ, Array.toArray_toList]
          refine wpAnyH_takeD 12 (some 25) (v := undef) rfl rfl (by kernel_rfl) (by kernel_rfl) (by kernel_rfl) (fun _ _ _ h => h) (.inr ⟨rfl, rfl⟩) (by assumption) ?_; try simp only [Act.put, List.setIfInBounds_toArray, List.set_cons_zero, List.set_cons_succ, Array.toArray_toList]
          refine wpAnyH_takeD 13 (some 26) (v := (.bool true)) rfl rfl (by kernel_rfl) (by kernel_rfl) (by kernel_rfl) (fun _ _ _ h => h) (yieldsIf_calc rfl (fun w => by unfold execOp; go_simp)) (by assumption) ?_; try simp only [Act.put, List.setIfInBounds_toArray, List.set_cons_zero, List.set_cons_succ, Array.toArray_toList]
          refine wpAnyH_done (by kernel_rfl) ?_ _
          clear hk1
          go_wp2_with (first
            | (at_builtin; refine wpList_append_lies _ rfl (.tmp 27) (.tmp 28) 54 rfl w.heap.size 3 i3 (.int .i64 0) 1 8 Try.underlying54 hj hy0 hy1 hy2 rfl (by decide) _ L _ rfl (hns.alloc _) ⟨wr.heap.size, 0, none⟩ 1 1 [.int .i64 0] rfl rfl (one_new _ _ _) (one_one _ _) (by decide) ?_ ?_ ?_ (wr.heap.size + 1) ?_ ?_; (unfold maxLen; omega); (omega); (simp; omega); (simp); intro g1 cap1 w1 o1 gr1 hl1 hg1; have hB1 := (hB0.alloc hB0.size _).grown gr1 (le_alloc hB0.size _) (own_ge hR.ns); have hcs1 := (hcs.alloc _).kept gr1 (ne_row hR.ne); have sep1 : u5.ownBlock ≠ some g1 := sep_of hR hl1; have c2 := HC2.out _ hB1; clear hns hcs)
            | (at_builtin; refine wpList_append_lies _ rfl (.tmp 30) (.tmp 35) 23 rfl w.heap.size 5 i0 (.int .u8 0) 1 1 Try.underlying23 hi hz0 hz1 hz2 rfl (by decide) _ L _ rfl (hcs1.alloc _) ⟨w1.heap.size, 0, none⟩ 1 1 [.int .u8 (x1 : Nat)] rfl rfl (one_new _ _ _) (one_one _ _) (by decide) ?_ ?_ ?_ (w1.heap.size + 1) ?_ ?_; (unfold maxLen; omega); (omega); (exact le_alloc hB1.size _); (simp); intro g2 cap2 w2 o2 gr2 hl2 hg2; have hB2 := (hB1.alloc hB1.size _).grown gr2 (le_alloc hB1.size _) (own_ge hcs1); have o3 := (o1.alloc _).kept gr2 (.inr (fun e => sep1 e.symm)); have sep2 : g1 ≠ g2 := (by rcases hl2 with h | h; exact fun e => sep1 (by rw [e]; exact h); omega); have c3 : w2.cell? ⟨g1, L, none⟩ = some (.int .i64 0) := (by rw [o3.cellAt L (by omega)]; exact last_get _ _ _ hLn); have c3f : w2.frozen? ⟨g1, L, none⟩ = false := o3.frozenAt L)
            | fail)
          have ht2 : TwoR w.heap.size (opR l k ++ [(0, gd l k)]) (.slice (some ⟨g1, 0, none⟩) (L + 1) cap1) (.slice (some ⟨g2, 0, none⟩) (L + 1) cap2) w2 := two_of hL.out o3 (by rw [← HXB.out]; exact o2) sep2
          have ht3 := two_set ht2 (n := 1) g1 cap1 (by rw [hL.out]) L hL.out 1 rfl
          exact ⟨⟨k + 1, by omega, by go_num, by rw [hop.out]; exact ht3, hB2.setCell (p := ⟨g1, L, none⟩) (own_ge o3 g1 rfl) _⟩, by simp [intOf]; omega⟩
        · have hk1 : ((k : Int) == 0) = false := by simp; omega
          obtain ⟨x0, hx0⟩ : ∃ x, x = (gd l j).toNat := ⟨_, rfl⟩
          have hxn : ((x1 : Int) != (x0 : Int)) = true := by
            have : x1 ≠ x0 := fun e => hne (UInt8.toNat_inj.1 (by rw [← HX1.out, ← hx0]; exact e))
            simp; omega
          have hsub : (k : Int) - 1 = (j : Int) := by omega
          have hwr : IntKind.i64.wrap ((k : Int) - 1) = (j : Int) := by rw [hsub]; exact IntWalk.i64_in _ (by omega)
          have hwr2 : IntKind.i64.wrap (j : Int) = (j : Int) := IntWalk.i64_in _ (by omega)
          have hjq : j < q := by omega
          have s0 : wr.drew.cell? ⟨b, o + k, none⟩ = some (.int .u8 (x1 : Nat)) ∧ wr.drew.cell? ⟨b, o + j, none⟩ = some (.int .u8 (x0 : Nat)) := ⟨c1, by rw [hx0]; exact (hB0.cell (p := ⟨b, o + j, none⟩) hbl).trans (HC.out j (by rw [← HQ.out]; omega))⟩
          replace hkj := Lib.hid hkj
          replace hx0 := Lib.hid hx0
          replace hne := Lib.hid hne
          go_wp2_with fail
          refine wp_region_held_drew (S := fun W' => W'.cell? ⟨b, o + k, none⟩ = some (.int .u8 (x1 : Nat)) ∧ W'.cell? ⟨b, o + j, none⟩ = some (.int .u8 (x0 : Nat))) (by kernel_rfl) s0 (fun hHeld => ?_)
          refine wpAnyH_takeD 0 (some 13) (v := (.int .i64 (k : Nat))) rfl rfl (by kernel_rfl) (by kernel_rfl) (by kernel_rfl) (fun _ _ _ h => h) (yieldsIf_calc rfl (fun w => by unfold execOp; go_simp)) (by assumption) ?_; try simp only [Act.put, List.setIfInBounds_toArray, List.set_cons_zero, List.set_cons_succ, Array.toArray_toList]
          refine wpAnyH_takeD 1 (some 14) (v := (.bool false)) rfl rfl (by kernel_rfl) (by kernel_rfl) (by kernel_rfl) (fun _ _ _ h => h) (yieldsIf_calc rfl (fun w => by unfold execOp; go_simp)) (by assumption) ?_; try simp only [Act.put, List.setIfInBounds_toArray, List.set_cons_zero, List.set_cons_succ, Array.toArray_toList]
          refine wpAnyH_takeD 2 (some 15) (v := (.bool false)) rfl rfl (by kernel_rfl) (by kernel_rfl) (by kernel_rfl) (fun _ _ _ h => h) (yieldsIf_calc rfl (fun w => by unfold execOp; go_simp)) (by assumption) ?_; try simp only [Act.put, List.setIfInBounds_toArray, List.set_cons_zero, List.set_cons_succ, Array.toArray_toList]
          refine wpAnyH_takeD 3 (some 16) (v := (.slice (some ⟨b, o, none⟩) q cap)) rfl rfl (by kernel_rfl) (by kernel_rfl) (by kernel_rfl) (fun _ _ _ h => h) (yieldsIf_calc rfl (fun w => by unfold execOp; go_simp)) (by assumption) ?_; try simp only [Act.put, List.setIfInBounds_toArray, List.set_cons_zero, List.set_cons_succ, Array.toArray_toList]
          refine wpAnyH_takeD 4 (some 17) (v := (.int .i64 (k : Nat))) rfl rfl (by kernel_rfl) (by kernel_rfl) (by kernel_rfl) (fun _ _ _ h => h) (yieldsIf_calc rfl (fun w => by unfold execOp; go_simp)) (by assumption) ?_; try simp only [Act.put, List.setIfInBounds_toArray, List.set_cons_zero, List.set_cons_succ, Array.toArray_toList]
          refine wpAnyH_takeD 5 (some 18) (v := (.pointer (some ⟨b, o + k, none⟩))) rfl rfl (by kernel_rfl) (by kernel_rfl) (by kernel_rfl) (fun _ _ _ h => h) (yieldsIf_calc rfl (fun w => by unfold execOp; go_simp)) (by assumption) ?_; try simp only [Act.put, List.setIfInBounds_toArray, List.set_cons_zero, List.set_cons_succ, Array.toArray_toList]
          refine wpAnyH_takeD 6 (some 19) (v := (.int .u8 (x1 : Nat))) rfl rfl (by kernel_rfl) (by kernel_rfl) (by kernel_rfl) (fun _ _ _ h => h) (.inl ⟨rfl, fun wS hSw => by obtain ⟨y0, y1⟩ := hSw; unfold execOp; go_simp⟩) (by assumption) ?_; try simp only [Act.put, List.setIfInBounds_toArray, List.set_cons_zero, List.set_cons_succ, Array.toArray_toList]
          refine wpAnyH_takeD 7 (some 20) (v := (.slice (some ⟨b, o, none⟩) q cap)) rfl rfl (by kernel_rfl) (by kernel_rfl) (by kernel_rfl) (fun _ _ _ h => h) (yieldsIf_calc rfl (fun w => by unfold execOp; go_simp)) (by assumption) ?_; try simp only [Act.put, List.setIfInBounds_toArray, List.set_cons_zero, List.set_cons_succ, Array.toArray_toList]
          refine wpAnyH_takeD 8 (some 21) (v := (.int .i64 (k : Nat))) rfl rfl (by kernel_rfl) (by kernel_rfl) (by kernel_rfl) (fun _ _ _ h => h) (yieldsIf_calc rfl (fun w => by unfold execOp; go_simp)) (by assumption) ?_; try simp only [Act.put, List.setIfInBounds_toArray, List.set_cons_zero, List.set_cons_succ, Array.toArray_toList]
          refine wpAnyH_takeD 9 (some 22) (v := (.int .i64 (j : Nat))) rfl rfl (by kernel_rfl) (by kernel_rfl) (by kernel_rfl) (fun _ _ _ h => h) (yieldsIf_calc rfl (fun w => by unfold execOp; go_simp)) (by assumption) ?_; try simp only [Act.put, List.setIfInBounds_toArray, List.set_cons_zero, List.set_cons_succ, Array.toArray_toList]
          refine wpAnyH_takeD 10 (some 23) (v := (.pointer (some ⟨b, o + j, none⟩))) rfl rfl (by kernel_rfl) (by kernel_rfl) (by kernel_rfl) (fun _ _ _ h => h) (yieldsIf_calc rfl (fun w => by unfold execOp; go_simp)) (by assumption) ?_; try simp only [Act.put, List.setIfInBounds_toArray, List.set_cons_zero, List.set_cons_succ, Array.toArray_toList]
          refine wpAnyH_takeD 11 (some 24) (v := (.int .u8 (x0 : Nat))) rfl rfl (by kernel_rfl) (by kernel_rfl) (by kernel_rfl) (fun _ _ _ h => h) (.inl ⟨rfl, fun wS hSw => by obtain ⟨y0, y1⟩ := hSw; unfold execOp; go_simp⟩) (by assumption) ?_; try simp only [Act.put, List.setIfInBounds_toArray, List.set_cons_zero, List.set_cons_succ, Array.toArray_toList]
          refine wpAnyH_takeD 12 (some 25) (v := (.bool true)) rfl rfl (by kernel_rfl) (by kernel_rfl) (by kernel_rfl) (fun _ _ _ h => h) (yieldsIf_calc rfl (fun w => by unfold execOp; go_simp)) (by assumption) ?_; try simp only [Act.put, List.setIfInBounds_toArray, List.set_cons_zero, List.set_cons_succ, Array.toArray_toList]
          refine wpAnyH_takeD 13 (some 26) (v := (.bool true)) rfl rfl (by kernel_rfl) (by kernel_rfl) (by kernel_rfl) (fun _ _ _ h => h) (yieldsIf_calc rfl (fun w => by unfold execOp; go_simp)) (by assumption) ?_; try simp only [Act.put, List.setIfInBounds_toArray, List.set_cons_zero, List.set_cons_succ, Array.toArray_toList]
          refine wpAnyH_done (by kernel_rfl) ?_ _
          clear hk1 hxn hsub hwr s0
          go_wp2_with (first
            | (at_builtin; refine wpList_append_lies _ rfl (.tmp 27) (.tmp 28) 54 rfl w.heap.size 3 i3 (.int .i64 0) 1 8 Try.underlying54 hj hy0 hy1 hy2 rfl (by decide) _ L _ rfl (hns.alloc _) ⟨wr.heap.size, 0, none⟩ 1 1 [.int .i64 0] rfl rfl (one_new _ _ _) (one_one _ _) (by decide) ?_ ?_ ?_ (wr.heap.size + 1) ?_ ?_; (unfold maxLen; omega); (omega); (simp; omega); (simp); intro g1 cap1 w1 o1 gr1 hl1 hg1; have hB1 := (hB0.alloc hB0.size _).grown gr1 (le_alloc hB0.size _) (own_ge hR.ns); have hcs1 := (hcs.alloc _).kept gr1 (ne_row hR.ne); have sep1 : u5.ownBlock ≠ some g1 := sep_of hR hl1; have c2 := HC2.out _ hB1; clear hns hcs)
            | (at_builtin; refine wpList_append_lies _ rfl (.tmp 30) (.tmp 35) 23 rfl w.heap.size 5 i0 (.int .u8 0) 1 1 Try.underlying23 hi hz0 hz1 hz2 rfl (by decide) _ L _ rfl (hcs1.alloc _) ⟨w1.heap.size, 0, none⟩ 1 1 [.int .u8 (x1 : Nat)] rfl rfl (one_new _ _ _) (one_one _ _) (by decide) ?_ ?_ ?_ (w1.heap.size + 1) ?_ ?_; (unfold maxLen; omega); (omega); (exact le_alloc hB1.size _); (simp); intro g2 cap2 w2 o2 gr2 hl2 hg2; have hB2 := (hB1.alloc hB1.size _).grown gr2 (le_alloc hB1.size _) (own_ge hcs1); have o3 := (o1.alloc _).kept gr2 (.inr (fun e => sep1 e.symm)); have sep2 : g1 ≠ g2 := (by rcases hl2 with h | h; exact fun e => sep1 (by rw [e]; exact h); omega); have c3 : w2.cell? ⟨g1, L, none⟩ = some (.int .i64 0) := (by rw [o3.cellAt L (by omega)]; exact last_get _ _ _ hLn); have c3f : w2.frozen? ⟨g1, L, none⟩ = false := o3.frozenAt L)
            | fail)
          have ht2 : TwoR w.heap.size (opR l k ++ [(0, gd l k)]) (.slice (some ⟨g1, 0, none⟩) (L + 1) cap1) (.slice (some ⟨g2, 0, none⟩) (L + 1) cap2) w2 := two_of hL.out o3 (by rw [← HXB.out]; exact o2) sep2
          have ht3 := two_set ht2 (n := 1) g1 cap1 (by rw [hL.out]) L hL.out 1 rfl
          exact ⟨⟨k + 1, by omega, by go_num, by rw [hop.out]; exact ht3, hB2.setCell (p := ⟨g1, L, none⟩) (own_ge o3 g1 rfl) _⟩, by simp [intOf]; omega⟩
      · obtain ⟨j, hkj⟩ : ∃ j, k = j + 1 := ⟨k - 1, by omega⟩
        have hge : gd l k = gd l j := Decidable.byContradiction fun h => hnew (.inr ⟨j, hkj, h⟩)
        have hold := opR_old l j (by omega) (by rw [← hkj]; exact hge)
        rw [← hkj] at hold
        obtain ⟨R, hRR⟩ : ∃ R, R = runsF l j := ⟨_, rfl⟩
        obtain ⟨r, hr⟩ : ∃ r, r = k - fromF l j := ⟨_, rfl⟩
        have hr1 : r ≤ 10000 := by omega
        have hRl := runsF_length l j
        rw [← hRR, ← hr] at hold
        rw [← hRR] at hRl
        obtain ⟨L, hL⟩ : ∃ L, L = R.length := ⟨_, rfl⟩
        have hop := Lib.hid hold.2
        have hT := hR
        rw [hold.1] at hT
        have hTd : TwoR w.heap.size (R ++ [(r, gd l j)]) u4 u5 wr.drew := ⟨hT.ns.drew, hT.cs.drew, hT.ne⟩
        have hns := hTd.ns
        simp only [List.length_append, List.length_singleton] at hns
        rw [← hL] at hns hRl
        obtain ⟨g1, cap1, rfl, hg1, hg2⟩ := World.ownsRow.form hns (by omega)
        have c3 : wr.drew.cell? ⟨g1, L, none⟩ = some (.int .i64 (r : Nat)) := by
          rw [hns.cellAt L (by omega)]
          simp [nsL, I64, hL]
        have c3f : wr.drew.frozen? ⟨g1, L, none⟩ = false := hns.frozenAt L
        obtain ⟨x0, hx0⟩ : ∃ x, x = (gd l j).toNat := ⟨_, rfl⟩
        have hB0 := hB.drew
        have hxn : ((x1 : Int) != (x0 : Int)) = false := by
          rw [hx1, hx0, hge]; simp
        have hk1 : ((k : Int) == 0) = false := by simp; omega
        have hsub : (k : Int) - 1 = (j : Int) := by omega
        have hwr : IntKind.i64.wrap ((k : Int) - 1) = (j : Int) := by rw [hsub]; exact IntWalk.i64_in _ (by omega)
        have hwr2 : IntKind.i64.wrap (j : Int) = (j : Int) := IntWalk.i64_in _ (by omega)
        have hjq : j < q := by omega
        have s0 : wr.drew.cell? ⟨b, o + k, none⟩ = some (.int .u8 (x1 : Nat)) ∧ wr.drew.cell? ⟨b, o + j, none⟩ = some (.int .u8 (x0 : Nat)) := ⟨c1, by rw [hx0]; exact (hB0.cell (p := ⟨b, o + j, none⟩) hbl).trans (HC.out j (by rw [← HQ.out]; omega))⟩
        have HTD := Lib.hid hTd
        replace hL := Lib.hid hL
        replace hkj := Lib.hid hkj
        replace hx0 := Lib.hid hx0
        replace hr := Lib.hid hr
        replace hRR := Lib.hid hRR
        clear hold hnew hT hTd hns hR hge hc hcx hx1 hlt' hopl
        go_wp2_with fail
        refine wp_region_held_drew (S := fun W' => W'.cell? ⟨b, o + k, none⟩ = some (.int .u8 (x1 : Nat)) ∧ W'.cell? ⟨b, o + j, none⟩ = some (.int .u8 (x0 : Nat))) (by kernel_rfl) s0 (fun hHeld => ?_)
        refine wpAnyH_takeD 0 (some 13) (v := (.int .i64 (k : Nat))) rfl rfl (by kernel_rfl) (by kernel_rfl) (by kernel_rfl) (fun _ _ _ h => h) (yieldsIf_calc rfl (fun w => by unfold execOp; go_simp)) (by assumption) ?_; try simp only [Act.put, List.setIfInBounds_toArray, List.set_cons_zero, List.set_cons_succ, Array.toArray_toList]
        refine wpAnyH_takeD 1 (some 14) (v := (.bool false)) rfl rfl (by kernel_rfl) (by kernel_rfl) (by kernel_rfl) (fun _ _ _ h => h) (yieldsIf_calc rfl (fun w => by unfold execOp; go_simp)) (by assumption) ?_; try simp only [Act.put, List.setIfInBounds_toArray, List.set_cons_zero, List.set_cons_succ, Array.toArray_toList]
        refine wpAnyH_takeD 2 (some 15) (v := (.bool false)) rfl rfl (by kernel_rfl) (by kernel_rfl) (by kernel_rfl) (fun _ _ _ h => h) (yieldsIf_calc rfl (fun w => by unfold execOp; go_simp)) (by assumption) ?_; try simp only [Act.put, List.setIfInBounds_toArray, List.set_cons_zero, List.set_cons_succ, Array.toArray_toList]
        refine wpAnyH_takeD 3 (some 16) (v := (.slice (some ⟨b, o, none⟩) q cap)) rfl rfl (by kernel_rfl) (by kernel_rfl) (by kernel_rfl) (fun _ _ _ h => h) (yieldsIf_calc rfl (fun w => by unfold execOp; go_simp)) (by assumption) ?_; try simp only [Act.put, List.setIfInBounds_toArray, List.set_cons_zero, List.set_cons_succ, Array.toArray_toList]
        refine wpAnyH_takeD 4 (some 17) (v := (.int .i64 (k : Nat))) rfl rfl (by kernel_rfl) (by kernel_rfl) (by kernel_rfl) (fun _ _ _ h => h) (yieldsIf_calc rfl (fun w => by unfold execOp; go_simp)) (by assumption) ?_; try simp only [Act.put, List.setIfInBounds_toArray, List.set_cons_zero, List.set_cons_succ, Array.toArray_toList]
        refine wpAnyH_takeD 5 (some 18) (v := (.pointer (some ⟨b, o + k, none⟩))) rfl rfl (by kernel_rfl) (by kernel_rfl) (by kernel_rfl) (fun _ _ _ h => h) (yieldsIf_calc rfl (fun w => by unfold execOp; go_simp)) (by assumption) ?_; try simp only [Act.put, List.setIfInBounds_toArray, List.set_cons_zero, List.set_cons_succ, Array.toArray_toList]
        refine wpAnyH_takeD 6 (some 19) (v := (.int .u8 (x1 : Nat))) rfl rfl (by kernel_rfl) (by kernel_rfl) (by kernel_rfl) (fun _ _ _ h => h) (.inl ⟨rfl, fun wS hSw => by obtain ⟨y0, y1⟩ := hSw; unfold execOp; go_simp⟩) (by assumption) ?_; try simp only [Act.put, List.setIfInBounds_toArray, List.set_cons_zero, List.set_cons_succ, Array.toArray_toList]
        refine wpAnyH_takeD 7 (some 20) (v := (.slice (some ⟨b, o, none⟩) q cap)) rfl rfl (by kernel_rfl) (by kernel_rfl) (by kernel_rfl) (fun _ _ _ h => h) (yieldsIf_calc rfl (fun w => by unfold execOp; go_simp)) (by assumption) ?_; try simp only [Act.put, List.setIfInBounds_toArray, List.set_cons_zero, List.set_cons_succ, Array.toArray_toList]
        refine wpAnyH_takeD 8 (some 21) (v := (.int .i64 (k : Nat))) rfl rfl (by kernel_rfl) (by kernel_rfl) (by kernel_rfl) (fun _ _ _ h => h) (yieldsIf_calc rfl (fun w => by unfold execOp; go_simp)) (by assumption) ?_; try simp only [Act.put, List.setIfInBounds_toArray, List.set_cons_zero, List.set_cons_succ, Array.toArray_toList]
        refine wpAnyH_takeD 9 (some 22) (v := (.int .i64 (j : Nat))) rfl rfl (by kernel_rfl) (by kernel_rfl) (by kernel_rfl) (fun _ _ _ h => h) (yieldsIf_calc rfl (fun w => by unfold execOp; go_simp)) (by assumption) ?_; try simp only [Act.put, List.setIfInBounds_toArray, List.set_cons_zero, List.set_cons_succ, Array.toArray_toList]
        refine wpAnyH_takeD 10 (some 23) (v := (.pointer (some ⟨b, o + j, none⟩))) rfl rfl (by kernel_rfl) (by kernel_rfl) (by kernel_rfl) (fun _ _ _ h => h) (yieldsIf_calc rfl (fun w => by unfold execOp; go_simp)) (by assumption) ?_; try simp only [Act.put, List.setIfInBounds_toArray, List.set_cons_zero, List.set_cons_succ, Array.toArray_toList]
        refine wpAnyH_takeD 11 (some 24) (v := (.int .u8 (x0 : Nat))) rfl rfl (by kernel_rfl) (by kernel_rfl) (by kernel_rfl) (fun _ _ _ h => h) (.inl ⟨rfl, fun wS hSw => by obtain ⟨y0, y1⟩ := hSw; unfold execOp; go_simp⟩) (by assumption) ?_; try simp only [Act.put, List.setIfInBounds_toArray, List.set_cons_zero, List.set_cons_succ, Array.toArray_toList]
        refine wpAnyH_takeD 12 (some 25) (v := (.bool false)) rfl rfl (by kernel_rfl) (by kernel_rfl) (by kernel_rfl) (fun _ _ _ h => h) (yieldsIf_calc rfl (fun w => by unfold execOp; go_simp)) (by assumption) ?_; try simp only [Act.put, List.setIfInBounds_toArray, List.set_cons_zero, List.set_cons_succ, Array.toArray_toList]
        refine wpAnyH_takeD 13 (some 26) (v := (.bool false)) rfl rfl (by kernel_rfl) (by kernel_rfl) (by kernel_rfl) (fun _ _ _ h => h) (yieldsIf_calc rfl (fun w => by unfold execOp; go_simp)) (by assumption) ?_; try simp only [Act.put, List.setIfInBounds_toArray, List.set_cons_zero, List.set_cons_succ, Array.toArray_toList]
        refine wpAnyH_done (by kernel_rfl) ?_ _
        clear hk1 hxn hsub hwr s0
        go_wp2
        exact ⟨⟨k + 1, by omega, by go_num, by rw [hop.out]; exact two_set HTD.out (n := r + 1) g1 cap1 (by rw [hL.out]) L hL.out _ (by go_num), hB0.setCell (p := ⟨g1, L, none⟩) hg1 _⟩, by simp [intOf]; omega⟩
    · obtain rfl : q = k := by omega
      have he := opR_end l
      rw [← HQ.out] at he
      rw [he] at hR
      replace he := Lib.hid he
      go_wp2
      go_ret2
      exact ⟨_, _, rfl, hR, hB⟩
end Go.Proofs.Ytflmbghbgmkdeaa
