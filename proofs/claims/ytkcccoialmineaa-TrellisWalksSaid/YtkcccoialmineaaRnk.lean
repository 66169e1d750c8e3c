/-
  A range over a function: an own law for an iterator without state of its own, whose body may write wherever the iterator does not read: what is kept is told by one predicate on blocks.
-/
import Derived.Test.YtkcccoialmineaaRng
import Derived.Laws.AppendOwn
namespace Go.Proofs.Ytkcccoialmineaa
open Go.RowKit

/-- Each block in K lies as it lay. -/
structure KeepsP (K : Nat → Prop) (W W' : World) : Prop where
  os : W'.os = W.os
  tape : W'.tape = W.tape
  output : W'.output = W.output
  size : W.heap.size ≤ W'.heap.size
  same : ∀ k, k < W.heap.size → K k → W'.heap[k]? = W.heap[k]?
section
variable {K : Nat → Prop} {W W' W'' : World}
theorem KeepsP.refl (K : Nat → Prop) (W : World) : KeepsP K W W := ⟨rfl, rfl, rfl, Nat.le_refl _, fun _ _ _ => rfl⟩
theorem KeepsP.trans (h : KeepsP K W W') (k : KeepsP K W' W'') : KeepsP K W W'' :=
  ⟨k.os.trans h.os, k.tape.trans h.tape, k.output.trans h.output, Nat.le_trans h.size k.size, fun i hi hk => (k.same i (Nat.lt_of_lt_of_le hi h.size) hk).trans (h.same i hi hk)⟩
theorem KeepsP.below (h : Below W.heap.size W W') (K : Nat → Prop) : KeepsP K W W' := ⟨h.os, h.tape, h.output, h.size, fun k hk _ => h.block k hk⟩
theorem KeepsP.mono {K' : Nat → Prop} (h : KeepsP K W W') (hK : ∀ k, k < W.heap.size → K' k → K k) : KeepsP K' W W' := ⟨h.os, h.tape, h.output, h.size, fun k hk hi => h.same k hk (hK k hk hi)⟩
theorem KeepsP.only {b : Nat} (h : KeepsP K W W') (k : Only b W' W'') (hb : ¬ K b) : KeepsP K W W'' :=
  h.trans ⟨k.os, k.tape, k.output, Nat.le_of_eq k.size.symm, fun i _ hi => k.block i (fun e => hb (e ▸ hi))⟩
theorem KeepsP.grown {row : Option Nat} (h : KeepsP K W W') (k : W'.grownBy W'' row) (hb : ∀ b, row = some b → ¬ K b) : KeepsP K W W'' :=
  h.trans ⟨k.os, k.tape, k.output, k.size, fun i hi hk => k.block i hi (fun e => hb i e.symm hk)⟩
theorem Blk.keepsP {b : Nat} {C : Array Value} {t : TypeId} (h : Blk W b C t) (k : KeepsP K W W') (hb : K b) : Blk W' b C t := by
  have hl := h.lt
  unfold Blk at h ⊢
  rw [k.same b hl hb]; exact h
theorem cell_keepsP {p : Addr} {v : Value} (h : W.cell? p = some v) (k : KeepsP K W W') (hl : p.block < W.heap.size) (hb : K p.block) : W'.cell? p = some v := by
  rw [← h]; unfold World.cell?; rw [k.same p.block hl hb]
end

/-- The contract of an iterator's value, of one that keeps no state: from whatever world in which what lay in w lies as it lay. -/
def SeqK {α : Type} (F : Fence) (n : Nat) (P : Program) (g : Nat) (lb : Array Value) (encs : α → Array Value) (K : Nat → Prop) (R : List α → α → Prop) (S : List α → Prop) (w : World) : Prop :=
  ∀ (l : Nat) (J Jx : List α → World → Prop) (W : World), Below w.heap.size w W → (∀ s A A', J s A → Below A.heap.size A A' → J s A') →
    (∀ pre x W1, J pre W1 → R pre x → YieldAt F (n - 1) P l (encs x) W1 fun e W' =>
      (e = .returned (.bool true) ∧ J (pre ++ [x]) W' ∧ KeepsP K W1 W') ∨ (e = .returned (.bool false) ∧ Jx (pre ++ [x]) W' ∧ KeepsP K W1 W')) →
    J [] W →
    CallsIn F n P g (#[.func (.yield l) #[] #[]] ++ lb) W fun e W' => (∃ v, e = .returned v) ∧ ((∃ xs, S xs ∧ J xs W') ∨ ∃ pre, Jx pre W')

section
variable {F : Fence} {n : Nat} {P : Program}
/-- How the body of a round may be left. -/
def ownPostK {α : Type} (K : Nat → Prop) (I : List α → World → Prop) (Ix : Code → List α → World → Prop) (xs : List α) (W : World) : Exit → Act → World → Prop
  | .normal, _, W' => KeepsP K W W' ∧ I xs W'
  | .ret, _, W' => KeepsP K W W' ∧ Ix .ret xs W'
  | .exit id, _, W' => KeepsP K W W' ∧ Ix (.exit id) xs W'
  | .goto t, _, W' => KeepsP K W W' ∧ Ix (.goto t) xs W'
  | .panic _, _, _ => False
  | .outgrown, _, _ => False
theorem keepsP_put (W : World) (l : Nat) (o : Obj) : KeepsP (fun k => k ≠ l) W (W.putObj l o) :=
  ⟨rfl, rfl, rfl, by simp, fun k _ hk => World.putObj_heap_other hk⟩
theorem wpIn_rangeFunc_keep {α : Type} {g : Operand} {ps : Array Tmp} {assign body : Code} {Q : Exit → Act → World → Prop} {a : Act} {w : World}
    (hro : F.round = none) (h1 : 1 ≤ n) {gf : Nat} {lb : Array Value} (hg : a.eval g = .func (.func gf) #[] lb) (hFg : F.fn gf) (eg : ∀ args w, (callFunc gf args).run P w = .ok (.enter gf args) w)
    {encs : α → Array Value} {K : Nat → Prop} {R : List α → α → Prop} {S : List α → Prop} {w0 : World} (hseq : SeqK F (n - 1) P gf lb encs K R S w0)
    (hb0 : Below w0.heap.size w0 w) (hKw : ∀ k, K k → k < w.heap.size) (hps : ∀ x, (encs x).size = ps.size)
    (I : List α → World → Prop) (Ix : Code → List α → World → Prop) (hI : ∀ s A A', I s A → KeepsP (fun k => k ≠ w.heap.size + 1) A A' → I s A') (hIx : ∀ c s A A', Ix c s A → KeepsP (fun k => k ≠ w.heap.size + 1) A A' → Ix c s A') (h0 : I [] w)
    (Ax : α → Nat → Act → World → Prop) (hAx : ∀ x N a' A A', w.heap.size + 2 ≤ N → Ax x N a' A → KeepsP (fun k => k ≠ w.heap.size + 1) A A' → Ax x N a' A')
    (hassign : ∀ (l : Nat) (pre : List α) (x : α) (W : World) (C : Act → World → Prop), w.heap.size + 2 ≤ W.heap.size → I pre W → R pre x → (∀ a' W', Below W.heap.size W W' → Ax x W.heap.size a' W' → C a' W') →
      assign.wpIn (F.inRound l) (n - 1 - 1) P (Exit.then C (fun _ _ _ => False)) { tmps := (ps.zip (encs x)).foldl (fun t (p, v) => t.setIfInBounds p v) a.tmps, defers := [] } W)
    (hbody : ∀ (l : Nat) (pre : List α) (x : α) (a' : Act) (W0 W : World), w.heap.size + 2 ≤ W0.heap.size → I pre W0 → KeepsP (fun k => k ≠ w.heap.size + 1) W0 W → R pre x → Ax x W0.heap.size a' W → body.wpIn (F.inRound l) (n - 1 - 1) P (ownPostK (fun k => K k ∨ k = w.heap.size ∨ k = w.heap.size + 1) I Ix (pre ++ [x]) W) a' W)
    (hdone : ∀ (D : Nat) (xs : List α) (W : World), w.heap.size ≤ D → S xs → I xs W → W.heap[D]? = some (.deferred (some [])) → Q .normal { a with defers := { target := .collected D, args := #[] } :: a.defers } W)
    (hstop : ∀ (D : Nat) (c : Code) (pre : List α) (W : World), w.heap.size ≤ D → Ix c pre W → W.heap[D]? = some (.deferred (some [])) → c.wpIn F n P Q { a with defers := { target := .collected D, args := #[] } :: a.defers } W) :
    (Code.rangeFunc g ps assign body).wpIn F n P Q a w := by
  refine wpIn_rangeFunc fun fn hfn => ?_
  rw [hro]
  obtain ⟨rec, hrec⟩ : ∃ rec, rec = bookRec a ps assign body fn w.heap.size := ⟨_, rfl⟩
  have hst : ∀ st pe, (rec st pe).state = st := fun st pe => by rw [hrec]; rfl
  obtain ⟨W1, hW1⟩ : ∃ W1, W1 = (w.alloc (.deferred (some []))).alloc (.loop (rec .ready none)) := ⟨_, rfl⟩
  have hL1 : W1.heap[w.heap.size + 1]? = some (.loop (rec .ready none)) := by
    have := World.alloc_heap_new (w.alloc (.deferred (some []))) (.loop (rec .ready none))
    rw [World.size_alloc] at this
    rw [hW1]; exact this
  have hK1 : W1.heap[w.heap.size]? = some (.deferred (some [])) := by
    rw [hW1]; exact (Below.heap_alloc _ _ _ (by simp)).trans (World.alloc_heap_new w _)
  have hbW : Below w.heap.size w W1 := by rw [hW1]; exact ((Below.refl _ w).alloc (Nat.le_refl _) _).alloc (by simp) _
  have hI1 : I [] W1 := hI _ _ _ h0 (KeepsP.below hbW _)
  have hb1 : Below w0.heap.size w0 W1 := hb0.trans (hbW.mono hb0.size)
  have hsz : W1.heap.size = w.heap.size + 2 := by rw [hW1]; simp
  refine ⟨w.heap.size + 1, [{ target := .collected w.heap.size, args := #[] }], W1, { target := .fn (.func gf) lb, args := #[.func (.yield (w.heap.size + 1)) #[] #[]] }, W1, gf, #[.func (.yield (w.heap.size + 1)) #[] #[]] ++ lb, W1, ?_, ?_, ?_, ?_, fun _ => h1, ?_⟩
  · rw [hW1, hrec]; exact run_enterLoop_outer _ _ _ _ _
  · simp only [resolve, hg]
    simp [go_sem]
  · intro f' hf'; simp [Target.leads] at hf'; subst hf'; exact hFg
  · simp [invoke, go_sem, eg]
  · refine (hseq (w.heap.size + 1)
      (fun pre W => (I pre W ∧ w.heap.size + 2 ≤ W.heap.size) ∧ W.heap[w.heap.size + 1]? = some (.loop (rec .ready none)) ∧ W.heap[w.heap.size]? = some (.deferred (some [])))
      (fun pre W => ∃ c, Ix c pre W ∧ W.heap[w.heap.size + 1]? = some (.loop (rec .done (some c))) ∧ W.heap[w.heap.size]? = some (.deferred (some [])))
      W1 hb1 (fun s A A' hs hb => ⟨⟨hI _ _ _ hs.1.1 (KeepsP.below hb _), Nat.le_trans hs.1.2 hb.size⟩, (hb.block _ (by omega)).trans hs.2.1, (hb.block _ (by omega)).trans hs.2.2⟩)
      ?_ ⟨⟨hI1, by omega⟩, hL1, hK1⟩).mono ?_
    · rintro pre x W ⟨⟨hi, hsW⟩, hl, hk⟩ hR
      have hy := run_yield (P := P) (args := encs x) hl (by rw [hrec]; exact hps x)
      rw [hrec] at hy
      refine ⟨fn, _, assign, body, hy, roundIn_of_wpIn hfn (hassign _ pre x W _ hsW hi hR ?_)⟩
      intro a' Wa hba hax
      replace hl := (hba.block _ (Array.getElem?_eq_some_iff.1 hl).1).trans hl
      replace hk := (hba.block _ (Array.getElem?_eq_some_iff.1 hk).1).trans hk
      have hsa : w.heap.size + 2 ≤ Wa.heap.size := Nat.le_trans hsW hba.size
      have hlt : w.heap.size + 1 < Wa.heap.size := by omega
      refine ⟨_, run_beginRound hl (hst _ _), ?_⟩
      obtain ⟨Wb, hWb⟩ : ∃ Wb, Wb = Wa.putObj (w.heap.size + 1) (.loop { rec .ready none with state := .busy }) := ⟨_, rfl⟩
      have hl2 : Wb.heap[w.heap.size + 1]? = some (.loop { rec .ready none with state := .busy }) := by rw [hWb]; exact World.putObj_heap_same hlt
      have hk2 : Wb.heap[w.heap.size]? = some (.deferred (some [])) := by rw [hWb]; exact (World.putObj_heap_other (by omega)).trans hk
      have hpb : KeepsP (fun k => k ≠ w.heap.size + 1) Wa Wb := by rw [hWb]; exact keepsP_put _ _ _
      have hsb : Wb.heap.size = Wa.heap.size := by rw [hWb]; simp
      have hxb : Ax x W.heap.size a' Wb := hAx x _ a' Wa Wb hsW hax hpb
      rw [← hWb]
      refine wpIn_mono (hbody _ pre x a' W _ hsW hi ((KeepsP.below hba _).trans hpb) hR hxb) ?_
      have fin : ∀ (jump : Option Code) (W3 : World), KeepsP (fun k => K k ∨ k = w.heap.size ∨ k = w.heap.size + 1) Wb W3 →
          (Instr.endRound (w.heap.size + 1) jump).run P W3 = .ok (.bool jump.isNone) (W3.putObj (w.heap.size + 1) (.loop (rec (if jump.isNone then .ready else .done) jump))) ∧
          (W3.putObj (w.heap.size + 1) (.loop (rec (if jump.isNone then .ready else .done) jump))).heap[w.heap.size + 1]? = some (.loop (rec (if jump.isNone then .ready else .done) jump)) ∧
          (W3.putObj (w.heap.size + 1) (.loop (rec (if jump.isNone then .ready else .done) jump))).heap[w.heap.size]? = some (.deferred (some [])) ∧
          w.heap.size + 2 ≤ W3.heap.size ∧
          KeepsP K W (W3.putObj (w.heap.size + 1) (.loop (rec (if jump.isNone then .ready else .done) jump))) := fun jump W3 hk3 => by
        have hl3 := (hk3.same _ (by omega) (.inr (.inr rfl))).trans hl2
        have hd3 := (hk3.same _ (by omega) (.inr (.inl rfl))).trans hk2
        have hr3 := run_endRound (P := P) jump hl3
        have hs3 := hk3.size
        have hsWa := hba.size
        refine ⟨by rw [hrec] at hr3 ⊢; exact hr3, World.putObj_heap_same (by omega), (World.putObj_heap_other (by omega)).trans hd3, by omega, ?_⟩
        have e1 : KeepsP K W Wa := KeepsP.below hba K
        have e2 : KeepsP K Wa Wb := hpb.mono fun k _ h => by have := hKw k h; omega
        have e3 : KeepsP K Wb W3 := hk3.mono fun k _ h => .inl h
        exact e1.trans (e2.trans (e3.trans ((keepsP_put W3 (w.heap.size + 1) _).mono fun k _ h => by have := hKw k h; omega)))
      have left : ∀ (c : Code) (W3 : World), KeepsP (fun k => K k ∨ k = w.heap.size ∨ k = w.heap.size + 1) Wb W3 → Ix c (pre ++ [x]) W3 → ∃ v W4, (Instr.endRound (w.heap.size + 1) (some c)).run P W3 = .ok v W4 ∧
          ((Ending.returned v = .returned (.bool true) ∧ ((I (pre ++ [x]) W4 ∧ w.heap.size + 2 ≤ W4.heap.size) ∧ W4.heap[w.heap.size + 1]? = some (.loop (rec .ready none)) ∧ W4.heap[w.heap.size]? = some (.deferred (some []))) ∧ KeepsP K W W4) ∨
          (Ending.returned v = .returned (.bool false) ∧ (∃ c, Ix c (pre ++ [x]) W4 ∧ W4.heap[w.heap.size + 1]? = some (.loop (rec .done (some c))) ∧ W4.heap[w.heap.size]? = some (.deferred (some []))) ∧ KeepsP K W W4)) := fun c W3 hk3 hi3 => by
        obtain ⟨hr, hl4, hk4, _, hkp⟩ := fin (some c) W3 hk3
        exact ⟨_, _, hr, .inr ⟨rfl, ⟨c, hIx _ _ _ _ hi3 (keepsP_put _ _ _), hl4, hk4⟩, hkp⟩⟩
      rintro e a3 W3 hp
      cases e with
      | normal =>
        obtain ⟨hk3, hi3⟩ := hp
        obtain ⟨hr, hl4, hk4, hs4, hkp⟩ := fin none W3 hk3
        exact ⟨_, _, hr, .inl ⟨rfl, ⟨⟨hI _ _ _ hi3 (keepsP_put _ _ _), by simp; omega⟩, hl4, hk4⟩, hkp⟩⟩
      | ret => exact left .ret W3 hp.1 hp.2
      | exit id => exact left (.exit id) W3 hp.1 hp.2
      | goto t => exact left (.goto t) W3 hp.1 hp.2
      | panic ch => exact hp.elim
      | outgrown => exact hp.elim
    · rintro e W2 ⟨⟨v, rfl⟩, ⟨xs, hS, ⟨hi, _⟩, hl, hk⟩ | ⟨pre, c, hi, hl, hk⟩⟩
      · have he := run_endLoop (P := P) hl (by rw [hst]; simp)
        have hp : (rec .ready none).pending = none := by rw [hrec]; rfl
        rw [hp] at he
        exact ⟨none, _, he, hdone _ xs _ (Nat.le_refl _) hS (hI _ _ _ hi (keepsP_put _ _ _)) ((World.putObj_heap_other (by omega)).trans hk)⟩
      · have he := run_endLoop (P := P) hl (by rw [hst]; simp)
        have hp : (rec .done (some c)).pending = some c := by rw [hrec]; rfl
        rw [hp] at he
        exact ⟨some c, _, he, hstop _ c pre _ (Nat.le_refl _) (hIx _ _ _ _ hi (keepsP_put _ _ _)) ((World.putObj_heap_other (by omega)).trans hk)⟩
end
end Go.Proofs.Ytkcccoialmineaa
