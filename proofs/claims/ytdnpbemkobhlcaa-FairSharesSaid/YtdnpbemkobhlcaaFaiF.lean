/-
  The scheduler: the loop over the users with a rate, its frame; rows of whole numbers of the call's own.
-/
import Derived.Test.YtdnpbemkobhlcaaFaiC
import Derived.Test.YtdnpbemkobhlcaaRatU
import Derived.Test.YtdnpbemkobhlcaaFit
import Derived.Test.YtdnpbemkobhlcaaFsp
set_option linter.unusedSimpArgs false
set_option linter.unusedVariables false
/-! The scheduler: the loop over the users with a rate: its frame, what lies between two rounds. -/
namespace Go.Proofs.Ytdnpbemkobhlcaa
open Go.RowKit
attribute [-go_sem] Instr.build
attribute [local go_sem] Oper.semAt_some

/-- The frame of a round: the user, a block with the metric. -/
def setFr (t : Array Value) (p p' q q' : Tmp) (v v' : Value) (g : Nat) : Array Value := (((t.setIfInBounds p v).setIfInBounds p' v').setIfInBounds q v).setIfInBounds q' (.pointer (some ⟨g, 0, none⟩))
section
variable {F : Fence} {n : Nat} {P : Program}
theorem wpIn_rangeFunc_frac {α : Type} {f : Operand} {p p' q q' : Tmp} {t : TypeId} {e : α → Value} {c : α → Array Value} {assign body : Code} {Q : Exit → Act → World → Prop} {a : Act} {w : World}
    (hro : F.round = none) (h1 : 1 ≤ n) {gf : Nat} {lb : Array Value} (hg : a.eval f = .func (.func gf) #[] lb) (hFg : F.fn gf) (eg : ∀ args w, (callFunc gf args).run P w = .ok (.enter gf args) w)
    {K : Nat → Prop} {R : List α → α → Prop} {S : List α → Prop} {w0 : World} (hseq : SeqK F (n - 1) P gf lb (fun x => #[e x, .agg (c x)]) K R S w0)
    (hb0 : Below w0.heap.size w0 w) (hKw : ∀ k, K k → k < w.heap.size)
    (I : List α → World → Prop) (Ix : Code → List α → World → Prop) (hI : ∀ s A A', I s A → KeepsP (fun k => k ≠ w.heap.size + 1) A A' → I s A') (hIx : ∀ c s A A', Ix c s A → KeepsP (fun k => k ≠ w.heap.size + 1) A A' → Ix c s A') (h0 : I [] w)
    (hassign : ∀ (l : Nat) (pre : List α) (x : α) (W : World) (C : Act → World → Prop), R pre x → (∀ g W', W.heap.size ≤ g → Blk W' g (c x) t → Below W.heap.size W W' → C { tmps := setFr a.tmps p p' q q' (e x) (.agg (c x)) g, defers := [] } W') →
      assign.wpIn (F.inRound l) (n - 1 - 1) P (Exit.then C (fun _ _ _ => False)) { tmps := (a.tmps.setIfInBounds p (e x)).setIfInBounds p' (.agg (c x)), defers := [] } W)
    (hbody : ∀ (l : Nat) (pre : List α) (x : α) (g : Nat) (W0 W : World), w.heap.size + 2 ≤ W0.heap.size → I pre W0 → KeepsP (fun k => k ≠ w.heap.size + 1) W0 W → R pre x → W0.heap.size ≤ g → Blk W g (c x) t →
      body.wpIn (F.inRound l) (n - 1 - 1) P (ownPostK (fun k => K k ∨ k = w.heap.size ∨ k = w.heap.size + 1) I Ix (pre ++ [x]) W) { tmps := setFr a.tmps p p' q q' (e x) (.agg (c x)) g, defers := [] } W)
    (hdone : ∀ (D : Nat) (xs : List α) (W : World), w.heap.size ≤ D → S xs → I xs W → W.heap[D]? = some (.deferred (some [])) → Q .normal { a with defers := { target := .collected D, args := #[] } :: a.defers } W)
    (hstop : ∀ (D : Nat) (c : Code) (pre : List α) (W : World), w.heap.size ≤ D → Ix c pre W → W.heap[D]? = some (.deferred (some [])) → c.wpIn F n P Q { a with defers := { target := .collected D, args := #[] } :: a.defers } W) :
    (Code.rangeFunc f #[p, p'] assign body).wpIn F n P Q a w :=
  wpIn_rangeFunc_keep hro h1 hg hFg eg hseq hb0 hKw (fun _ => rfl) I Ix hI hIx h0 (fun x N a' A => ∃ g, N ≤ g ∧ Blk A g (c x) t ∧ a' = { tmps := setFr a.tmps p p' q q' (e x) (.agg (c x)) g, defers := [] })
    (fun x N a' A A' hN ⟨g, h1, h2, h3⟩ hk => ⟨g, h1, h2.keepsP hk (by omega), h3⟩)
    (fun l pre x W C _ _ hR hC => by have := hassign l pre x W C hR (fun g W' h1 h2 h3 => hC _ _ h3 ⟨g, h1, h2, rfl⟩); simpa using this)
    (fun l pre x a' W0 W hN hi hk hr ⟨g, h1, h2, ha⟩ => by subst ha; exact hbody l pre x g W0 W hN hi hk hr h1 h2) hdone hstop
end
theorem own_keepsP {K : Nat → Prop} {W W' : World} {base size n : Nat} {e : TypeId} {v : Value} {xs : List Value} (h : W.ownsRow base e size v n xs) (k : KeepsP K W W') (hb : ∀ g, v.ownBlock = some g → K g) : W'.ownsRow base e size v n xs := by
  obtain ⟨hl, ⟨rfl, h0⟩ | ⟨g, cap, cur, rfl, hb', hh, h1, h2, h3, h4⟩⟩ := h
  · exact ⟨hl, .inl ⟨rfl, h0⟩⟩
  · exact ⟨hl, .inr ⟨g, cap, cur, rfl, hb', (k.same g (lt_of_block hh) (hb g rfl)).trans hh, h1, h2, h3, h4⟩⟩
/-- The users, the metrics of a list. -/
def usersL (l : List (Nat × (Nat × Nat))) : List Value := l.map fun x => .int .i64 (x.1 : Nat)
def fracsL (l : List (Nat × (Nat × Nat))) : List (Nat × Nat) := l.map (·.2)
theorem usersL_next (l : List (Nat × (Nat × Nat))) (x : Nat × (Nat × Nat)) : usersL (l ++ [x]) = usersL l ++ [.int .i64 (x.1 : Nat)] := by simp [usersL]
theorem fcells_app : ∀ (l m : List (Nat × Nat)), fcells (l ++ m) = fcells l ++ fcells m
  | [], m => rfl
  | p :: l, m => by simp [fcells, fcells_app l m]
theorem fracsL_next (l : List (Nat × (Nat × Nat))) (x : Nat × (Nat × Nat)) : fcells (fracsL (l ++ [x])) = fcells (fracsL l) ++ [.int .u64 (x.2.1 : Nat), .int .u64 (x.2.2 : Nat)] := by
  rw [show fracsL (l ++ [x]) = fracsL l ++ [x.2] by simp [fracsL], fcells_app]; rfl
/-- What lies between two rounds: the two variables' blocks, the two rows of the call's own; base is behind the loop's own records. -/
structure OrdI (w0 : World) (E ku km base : Nat) (pre : List (Nat × (Nat × Nat))) (W : World) : Prop where
  rows : ∃ vu vm, Blk W ku #[vu] 28 ∧ Blk W km #[vm] 62 ∧ W.ownsRow base 3 1 vu pre.length (usersL pre) ∧ W.ownsRow base 56 2 vm pre.length (fcells (fracsL pre)) ∧ (∀ g, vu.ownBlock = some g → vm.ownBlock ≠ some g)
  below : Below E w0 W
theorem OrdI.keeps {w0 W W' : World} {E ku km base : Nat} {pre : List (Nat × (Nat × Nat))} (h : OrdI w0 E ku km base pre W) {K : Nat → Prop} (k : KeepsP K W W') (hu : K ku) (hm : K km) (hb : ∀ g, base ≤ g → K g) (hE : ∀ g, g < E → K g) (hs : E ≤ w0.heap.size) : OrdI w0 E ku km base pre W' := by
  obtain ⟨⟨vu, vm, h1, h2, h3, h4, h5⟩, hB⟩ := h
  exact ⟨⟨vu, vm, h1.keepsP k hu, h2.keepsP k hm, own_keepsP h3 k fun g hg => hb g (h3.lt g hg).1, own_keepsP h4 k fun g hg => hb g (h4.lt g hg).1, h5⟩, hB.trans ⟨k.os, k.tape, k.output, k.size, fun i hi => k.same i (by have := hB.size; omega) (hE i hi)⟩⟩
theorem own_heap {W : World} {base size n : Nat} {e : TypeId} {v : Value} {xs : List Value} (h : W.ownsRow base e size v n xs) (k : Nat) (hk : v.ownBlock = some k) : ∃ cur, W.heap[k]? = some (.cells cur e (0, 0)) := by
  obtain ⟨_, ⟨rfl, _⟩ | ⟨g, cap, cur, rfl, _, hh, _⟩⟩ := h
  · cases hk
  · have : g = k := by simpa [Value.ownBlock] using hk
    subst this
    exact ⟨cur, hh⟩
/-- Rows of different elements never share a block. -/
theorem own_apart {W : World} {b1 s1 n1 b2 s2 n2 : Nat} {e1 e2 : TypeId} {v1 v2 : Value} {x1 x2 : List Value} (he : e1 ≠ e2) (h1 : W.ownsRow b1 e1 s1 v1 n1 x1) (h2 : W.ownsRow b2 e2 s2 v2 n2 x2) (k : Nat) (hk : v1.ownBlock = some k) : v2.ownBlock ≠ some k := by
  intro h
  obtain ⟨c1, p1⟩ := own_heap h1 k hk
  obtain ⟨c2, p2⟩ := own_heap h2 k h
  rw [p1] at p2
  simp only [Option.some.injEq, Obj.cells.injEq] at p2
  exact he p2.2.1
theorem own_blk_apart {W : World} {b1 s1 n1 b : Nat} {e1 t : TypeId} {v1 : Value} {x1 : List Value} {C : Array Value} (he : e1 ≠ t) (h1 : W.ownsRow b1 e1 s1 v1 n1 x1) (hb : Blk W b C t) (k : Nat) (hk : v1.ownBlock = some k) : k ≠ b := by
  rintro rfl
  obtain ⟨c1, p1⟩ := own_heap h1 k hk
  unfold Blk at hb
  rw [p1] at hb
  simp only [Option.some.injEq, Obj.cells.injEq] at hb
  exact he hb.2.1
theorem own_grown_apart {W V : World} {b1 s1 n1 : Nat} {e1 : TypeId} {v1 : Value} {x1 : List Value} {row : Option Nat} (h1 : W.ownsRow b1 e1 s1 v1 n1 x1) (k : W.grownBy V row) (hn : ∀ g, row = some g → v1.ownBlock ≠ some g) : V.ownsRow b1 e1 s1 v1 n1 x1 :=
  own_keepsP h1 (K := fun g => row ≠ some g) ⟨k.os, k.tape, k.output, k.size, fun i hi h => k.block i hi (fun e => h e.symm)⟩ (fun g hg e => hn g e hg)
theorem own_alloc {W : World} {b1 s1 n1 : Nat} {e1 : TypeId} {v1 : Value} {x1 : List Value} (h1 : W.ownsRow b1 e1 s1 v1 n1 x1) (o : Obj) : (W.alloc o).ownsRow b1 e1 s1 v1 n1 x1 :=
  own_keepsP h1 (KeepsP.below ((Below.refl W.heap.size W).alloc (Nat.le_refl _) o) (fun _ => True)) fun _ _ => trivial
/-- What lies while a round's body goes on: the two variables, the metric's block; what must be kept is kept. -/
structure RegS (Kb : Nat → Prop) (ku km g base : Nat) (vu vm : Value) (fn fd : Nat) (w W V : World) : Prop where
  bu : Blk V ku #[vu] 28
  bm : Blk V km #[vm] 62
  bg : Blk V g #[.int .u64 fn, .int .u64 fd] 56
  keep : KeepsP Kb W V
  below : Below ku w V
section
variable {Kb : Nat → Prop} {ku km g base fn fd : Nat} {vu vm : Value} {w W V V' : World}
theorem RegS.st (h : RegS Kb ku km g base vu vm fn fd w W V) : Blk V ku #[vu] 28 ∧ Blk V km #[vm] 62 ∧ Blk V g #[.int .u64 (fn : Nat), .int .u64 (fd : Nat)] 56 := ⟨h.bu, h.bm, h.bg⟩
theorem RegS.alloc (h : RegS Kb ku km g base vu vm fn fd w W V) (o : Obj) (hw : ku ≤ w.heap.size) : RegS Kb ku km g base vu vm fn fd w W (V.alloc o) :=
  ⟨h.bu.alloc o, h.bm.alloc o, h.bg.alloc o, h.keep.trans (KeepsP.below ((Below.refl _ _).alloc (Nat.le_refl _) o) _), h.below.alloc (Nat.le_trans hw h.below.size) o⟩
theorem RegS.grown (h : RegS Kb ku km g base vu vm fn fd w W V) {row : Option Nat} (k : V.grownBy V' row) (hb : ∀ b, row = some b → base ≤ b ∧ b ≠ g) (h1 : ku < base) (h2 : km < base) (hK : ∀ b, Kb b → b < base) (hw : ku ≤ w.heap.size) : RegS Kb ku km g base vu vm fn fd w W V' := by
  have hs := h.below.size
  refine ⟨h.bu.grown k (fun e => ?_), h.bm.grown k (fun e => ?_), h.bg.grown k (fun e => ?_), h.keep.grown k (fun b e hk => ?_), h.below.trans ⟨k.os, k.tape, k.output, k.size, fun i hi => k.block i (by omega) (fun e => ?_)⟩⟩
  · have := (hb _ e.symm).1; omega
  · have := (hb _ e.symm).1; omega
  · exact (hb _ e.symm).2 rfl
  · have := (hb _ e).1; have := hK b hk; omega
  · have := (hb _ e.symm).1; omega
end
end Go.Proofs.Ytdnpbemkobhlcaa

/-! Rows of whole numbers of the call's own: read, appended to, cut. -/
namespace Go.Proofs.Ytdnpbemkobhlcaa
open Go.RowKit
attribute [-go_sem] Instr.build

def iv (l : List Nat) : List Value := l.map fun (x : Nat) => Value.int .i64 (x : Nat)
theorem iv_length (l : List Nat) : (iv l).length = l.length := by simp [iv]
theorem iv_append (l m : List Nat) : iv (l ++ m) = iv l ++ iv m := by simp [iv]
theorem iv_get (l : List Nat) (i : Nat) (h : i < l.length) : (iv l)[i]? = some (.int .i64 (l.getD i 0 : Nat)) := by simp [iv, h]
theorem iv_one (l : List Nat) : ∀ v ∈ iv l, v.oneCell' = true := by
  intro v hv
  simp only [iv, List.mem_map] at hv
  obtain ⟨x, _, rfl⟩ := hv
  rfl
/-- An own row of whole numbers. -/
def OwnI (w : World) (base : Nat) (v : Value) (l : List Nat) : Prop := w.ownsRow base 3 1 v l.length (iv l)
theorem OwnI.nil (w : World) (base : Nat) : OwnI w base (.slice none 0 0) [] := World.ownsRow_nil _ _ _ _
theorem OwnI.drew {w : World} {base : Nat} {v : Value} {l : List Nat} (h : OwnI w base v l) : OwnI w.drew base v l := h
theorem OwnI.below {w w' : World} {base : Nat} {v : Value} {l : List Nat} (h : OwnI w base v l) (k : Below w.heap.size w w') : OwnI w' base v l := own_below h k
theorem OwnI.grown {w w' : World} {base : Nat} {v : Value} {l : List Nat} {row : Option Nat} (h : OwnI w base v l) (k : w.grownBy w' row) (hn : ∀ g, row = some g → v.ownBlock ≠ some g) : OwnI w' base v l := own_grown_apart h k hn
/-- An own row's form, its cells. -/
theorem OwnI.form {w : World} {base : Nat} {v : Value} {l : List Nat} (h : OwnI w base v l) : (v = .slice none 0 0 ∧ l = []) ∨
    ∃ g cap, v = .slice (some ⟨g, 0, none⟩) l.length cap ∧ base ≤ g ∧ g < w.heap.size ∧ l.length ≤ cap ∧ cap ≤ maxLen ∧ (∀ i, i < l.length → w.cell? ⟨g, i, none⟩ = some (.int .i64 (l.getD i 0 : Nat))) ∧ (∀ i, w.frozen? ⟨g, i, none⟩ = false) := by
  obtain ⟨_, ⟨rfl, h0⟩ | ⟨g, cap, cur, rfl, hb, hh, hl, hm, hs, ht⟩⟩ := h
  · exact .inl ⟨rfl, List.length_eq_zero_iff.1 h0⟩
  · rw [Nat.mul_one] at ht hs
    refine .inr ⟨g, cap, rfl, hb, lt_of_block hh, hl, hm, fun i hi => ?_, fun i => by simp [World.frozen?, hh]⟩
    have e1 : w.cell? ⟨g, i, none⟩ = cur[i]? := by simp [World.cell?, hh]
    rw [e1, ← Array.getElem?_toList, ← List.getElem?_take_of_lt hi, ht]
    exact iv_get l i hi
theorem OwnI.ints {w : World} {base : Nat} {v : Value} {l : List Nat} (h : OwnI w base v l) : ∃ a cap, v = .slice a l.length cap ∧ Ints w a (l.map fun (x : Nat) => (x : Int)) ∧ (a = none → l = [] ∧ cap = 0) ∧ (∀ b o, a = some ⟨b, o, none⟩ → base ≤ b) ∧ l.length ≤ cap ∧ cap ≤ maxLen := by
  rcases h.form with ⟨rfl, rfl⟩ | ⟨g, cap, rfl, hb, hl, hc, hm, hcell, _⟩
  · exact ⟨none, 0, rfl, Ints.nil _ _, fun _ => ⟨rfl, rfl⟩, (fun _ _ e => nomatch e), Nat.le_refl _, Nat.zero_le _⟩
  · refine ⟨_, cap, rfl, fun _ => ⟨g, 0, rfl, hl, fun i hi => ?_⟩, (fun e => nomatch e), fun b o e => ?_, hc, hm⟩
    · rw [List.length_map] at hi
      rw [Nat.zero_add, hcell i hi]
      simp [hi]
    · simp only [Option.some.injEq, Addr.mk.injEq] at e
      omega
/-- Whole numbers appended. -/
theorem wp_append_ints {o : Oper} {a : Act} {K : Act → World → Prop} {Q : Exit → Act → World → Prop} (dd : Option Tmp) (hdd : o.dst = dd) (w : World) (s x : Operand)
    (ho : o.op = .call { callee := .builtin .append, args := #[s, x], argTypes := #[28, 28] })
    (base : Nat) (v : Value) (l : List Nat) (hs : a.eval s = v) (hown : OwnI w base v l)
    (ad : Option Addr) (m : List Nat) (n c : Nat) (hn : n = m.length) (hx : a.eval x = .slice ad n c) (h0 : ad = none → c = 0 ∧ m = []) (hc : ∀ p, ad = some p → ∀ j, j < m.length → w.cell? (p.add j) = some (.int .i64 (m.getD j 0 : Nat)))
    (hlen : l.length + m.length ≤ 100000) (hbase : base ≤ w.heap.size)
    (h : ∀ v' w', OwnI w' base v' (l ++ m) → w.grownBy w' v.ownBlock → K (a.put dd v') w') : o.wp Try.prog a w K Q := by
  subst hdd
  subst hn
  obtain ⟨i3, hi3, hz3⟩ := Option.map_eq_some_iff.1 info3
  simp only [Prod.mk.injEq] at hz3
  obtain ⟨hz30, hz31, hz32⟩ := hz3
  cases ad with
  | none =>
    obtain ⟨rfl, rfl⟩ := h0 rfl
    have hrun := run_append_owned_none (P := Try.prog) (w := w) base 28 o.type 3 i3 1 elem28 hi3 v l.length (iv l) hown
    unfold Oper.wp
    simp [execOp, ho, resolve, invoke, builtin, hs, hx, hrun, Result.andThen]
    exact h v w (by simpa using hown) ⟨rfl, rfl, rfl, Nat.le_refl _, fun _ _ _ => rfl⟩
  | some p =>
    refine wp_append_own w s x 28 ho base 3 i3 (.int .i64 0) 1 8 elem28 hi3 hz30 hz31 hz32 rfl (by decide) v l.length (iv l) hs hown p m.length c (iv m) hx (by rw [iv_length, Nat.mul_one]) (fun j u hj => ?_) (iv_one m) (by unfold maxLen; omega) (by omega) hbase (fun v' w' h1 h2 _ => h v' w' ?_ h2)
    · have hj' : j < m.length := by
        have := (List.getElem?_eq_some_iff.1 hj).1
        rwa [iv_length] at this
      rw [hc p rfl j hj', ← iv_get m j hj', hj]
    · unfold OwnI
      rw [List.length_append, iv_append]; exact h1
theorem wpAnyH_two {P : Program} {md : Region.Mode} {ops : Array Oper} {Q : Exit → Act → World → Prop} {S : World → Prop} {fuel : Nat} {listed : Array Bool} {a : Act} {w : World} (i j : Nat) {oi oj : Oper} (hoi : ops[i]? = some oi) (hoj : ops[j]? = some oj) (hr : Region.ready md ops listed = [i, j])
    (h1 : ∀ K' : Act → World → Prop, Shut (∀ a w, S w → wpAnyH P md ops Q S fuel (listed.setIfInBounds i true) a w → K' a w) → if Region.wanted oi (yielded ops a.tmps) = true then Oper.wp P oi a w K' Q else K' (a.put oi.dst undef) w)
    (h2 : ∀ K' : Act → World → Prop, Shut (∀ a w, S w → wpAnyH P md ops Q S fuel (listed.setIfInBounds j true) a w → K' a w) → if Region.wanted oj (yielded ops a.tmps) = true then Oper.wp P oj a w K' Q else K' (a.put oj.dst undef) w) : wpAnyH P md ops Q S (fuel + 1) listed a w :=
  wpAnyH_ready hr (by simp) (AllReadyH.cons hoi (fun K hK => h1 K (fun a w hS hW => hK.out a w hS (fun _ => hW))) (AllReadyH.cons hoj (fun K hK => h2 K (fun a w hS hW => hK.out a w hS (fun _ => hW))) AllReadyH.nil))
end Go.Proofs.Ytdnpbemkobhlcaa
