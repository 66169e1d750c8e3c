/-
  A range over a function: an own law. The iterator may keep state in cells of its own; what it hands over next is known to the body (R); an iterator without an end is left by the body (G). The caller's invariant speaks of what lay when the loop began.
-/
import Derived.RangeFuncNested
import Derived.RangeFuncBound
import Derived.RangeFuncCalls
import Derived.RangeFuncLeaves
import Derived.Test.YtdgmahgidmjniaaBase
namespace Go.Proofs.Ytdgmahgidmjniaa
open Go.RowKit

/-- What a round keeps: each block from B on, each block in K. -/
structure Keeps (B : Nat) (K : Nat → Prop) (W W' : World) : Prop where
  os : W'.os = W.os
  tape : W'.tape = W.tape
  output : W'.output = W.output
  size : W.heap.size ≤ W'.heap.size
  same : ∀ k, k < W.heap.size → (B ≤ k ∨ K k) → W'.heap[k]? = W.heap[k]?
section
variable {B : Nat} {K : Nat → Prop} {W W' W'' : World}
theorem Keeps.refl (B : Nat) (K : Nat → Prop) (W : World) : Keeps B K W W := ⟨rfl, rfl, rfl, Nat.le_refl _, fun _ _ _ => rfl⟩
theorem Keeps.trans (h : Keeps B K W W') (k : Keeps B K W' W'') : Keeps B K W W'' :=
  ⟨k.os.trans h.os, k.tape.trans h.tape, k.output.trans h.output, Nat.le_trans h.size k.size, fun i hi hk => (k.same i (Nat.lt_of_lt_of_le hi h.size) hk).trans (h.same i hi hk)⟩
theorem Keeps.below (h : Below W.heap.size W W') (B : Nat) (K : Nat → Prop) : Keeps B K W W' := ⟨h.os, h.tape, h.output, h.size, fun k hk _ => h.block k hk⟩
theorem Keeps.next (h : Keeps B K W W') (k : Below W'.heap.size W' W'') : Keeps B K W W'' := h.trans (Keeps.below k B K)
theorem Keeps.only {b : Nat} (h : Keeps B K W W') (k : Only b W' W'') (hb : b < B) (hK : ¬ K b) : Keeps B K W W'' :=
  h.trans ⟨k.os, k.tape, k.output, Nat.le_of_eq k.size.symm, fun i _ hi => k.block i (by rintro rfl; rcases hi with h | h; omega; exact hK h)⟩
theorem Keeps.setCell {b : Nat} (h : Keeps B K W W') (o : Nat) (v : Value) (hb : b < B) (hK : ¬ K b) : Keeps B K W (W'.setCell ⟨b, o, none⟩ v) := h.only (Only.setCell W' o v) hb hK
theorem Keeps.mono {B' : Nat} {K' : Nat → Prop} (h : Keeps B K W W') (hB : ∀ k, k < W.heap.size → (B' ≤ k ∨ K' k) → (B ≤ k ∨ K k)) : Keeps B' K' W W' := ⟨h.os, h.tape, h.output, h.size, fun k hk hi => h.same k hk (hB k hk hi)⟩
theorem Blk.keeps {b : Nat} {C : Array Value} {t : TypeId} (h : Blk W b C t) (k : Keeps B K W W') (hb : B ≤ b ∨ K b) : Blk W' b C t := by
  have hl := h.lt
  unfold Blk at h ⊢
  rw [k.same b hl hb]; exact h
theorem cell_keeps {p : Addr} {v : Value} (h : W.cell? p = some v) (k : Keeps B K W W') (hl : p.block < W.heap.size) (hb : B ≤ p.block ∨ K p.block) : W'.cell? p = some v := by
  rw [← h]; unfold World.cell?; rw [k.same p.block hl hb]
end

/-- The contract of an iterator's value: from whatever world in which what lay in w lies as it lay. -/
def SeqAt {α : Type} (F : Fence) (n : Nat) (P : Program) (g : Nat) (lb : Array Value) (encs : α → Array Value) (K : Nat → Prop) (G : List α → Prop) (R : List α → α → Prop) (S : List α → Prop) (w : World) : Prop :=
  ∀ (l : Nat) (J Jx : List α → World → Prop) (W : World), Below w.heap.size w W → (∀ s A A', J s A → Below W.heap.size A A' → J s A') → (∀ s A A', Jx s A → Below W.heap.size A A' → Jx s A') → (∀ pre A, J pre A → G pre) →
    (∀ pre x W1, J pre W1 → R pre x → YieldAt F (n - 1) P l (encs x) W1 fun e W' =>
      (e = .returned (.bool true) ∧ J (pre ++ [x]) W' ∧ Keeps W.heap.size K W1 W') ∨ (e = .returned (.bool false) ∧ Jx (pre ++ [x]) W' ∧ Keeps W.heap.size K W1 W')) →
    J [] W →
    CallsIn F n P g (#[.func (.yield l) #[] #[]] ++ lb) W fun e W' => (∃ v, e = .returned v) ∧ ((∃ xs, S xs ∧ J xs W') ∨ ∃ pre, Jx pre W')
theorem SeqAt.inRound {α : Type} {F : Fence} {n : Nat} {P : Program} {g : Nat} {lb : Array Value} {encs : α → Array Value} {K : Nat → Prop} {G : List α → Prop} {R : List α → α → Prop} {S : List α → Prop} {w : World} (l : Nat)
    (h : SeqAt F n P g lb encs K G R S w) : SeqAt (F.inRound l) n P g lb encs K G R S w := h

section
variable {F : Fence} {n : Nat} {P : Program}
/-- How the body of a round may be left. -/
def ownPostA {α : Type} (B : Nat) (K : Nat → Prop) (I : List α → World → Prop) (Ix : Code → List α → World → Prop) (xs : List α) (W : World) : Exit → Act → World → Prop
  | .normal, _, W' => Keeps B K W W' ∧ I xs W'
  | .ret, _, W' => Keeps B K W W' ∧ Ix .ret xs W'
  | .exit id, _, W' => Keeps B K W W' ∧ Ix (.exit id) xs W'
  | .goto t, _, W' => Keeps B K W W' ∧ Ix (.goto t) xs W'
  | .panic _, _, _ => False
  | .outgrown, _, _ => False
/-- The record that such a loop lays. -/
def bookRec (a : Act) (ps : Array Tmp) (assign body : Code) (fn : FuncId) (d : Nat) (st : LoopState) (pe : Option Code) : Loop :=
  { state := st, pending := pe, fn, tmps := a.tmps, params := ps, assign, body, defers := d }
theorem below_put {B : Nat} (W : World) (l : Nat) (o : Obj) (h : B ≤ l) : Below B W (W.putObj l o) :=
  ⟨rfl, rfl, rfl, by simp, fun k hk => World.putObj_heap_other (by omega)⟩
theorem wpIn_rangeFunc_at {α : Type} {g : Operand} {ps : Array Tmp} {assign body : Code} {Q : Exit → Act → World → Prop} {a : Act} {w : World}
    (hro : F.round = none) (h1 : 1 ≤ n) {gf : Nat} {lb : Array Value} (hg : a.eval g = .func (.func gf) #[] lb) (hFg : F.fn gf) (eg : ∀ args w, (callFunc gf args).run P w = .ok (.enter gf args) w)
    {encs : α → Array Value} {K : Nat → Prop} {G : List α → Prop} {R : List α → α → Prop} {S : List α → Prop} {w0 : World} (hseq : SeqAt F (n - 1) P gf lb encs K G R S w0)
    (hb0 : Below w0.heap.size w0 w) (hKw : ∀ k, K k → k < w.heap.size) (hps : ∀ x, (encs x).size = ps.size)
    (I : List α → World → Prop) (Ix : Code → List α → World → Prop) (hI : ∀ s A A', I s A → Below w.heap.size A A' → I s A') (hIx : ∀ c s A A', Ix c s A → Below w.heap.size A A' → Ix c s A') (hG : ∀ pre W, I pre W → G pre) (h0 : I [] w)
    (Ax : α → Act → World → Prop) (hAx : ∀ x a' A A', w.heap.size ≤ A.heap.size → Ax x a' A → Keeps (A.heap.size) (fun k => w.heap.size + 2 ≤ k) A A' → Ax x a' A')
    (hassign : ∀ (l : Nat) (pre : List α) (x : α) (W : World) (C : Act → World → Prop), w.heap.size + 2 ≤ W.heap.size → I pre W → (∀ a' W', Below W.heap.size W W' → Ax x a' W' → C a' W') →
      assign.wpIn (F.inRound l) (n - 1 - 1) P (Exit.then C (fun _ _ _ => False)) { tmps := (ps.zip (encs x)).foldl (fun t (p, v) => t.setIfInBounds p v) a.tmps, defers := [] } W)
    (hbody : ∀ (l : Nat) (pre : List α) (x : α) (a' : Act) (W : World), w.heap.size + 2 ≤ W.heap.size → I pre W → R pre x → Ax x a' W → body.wpIn (F.inRound l) (n - 1 - 1) P (ownPostA w.heap.size K I Ix (pre ++ [x]) W) a' W)
    (hdone : ∀ (D : Nat) (xs : List α) (W : World), w.heap.size ≤ D → S xs → I xs W → W.heap[D]? = some (.deferred (some [])) → Q .normal { a with defers := { target := .collected D, args := #[] } :: a.defers } W)
    (hstop : ∀ (D : Nat) (c : Code) (pre : List α) (W : World), w.heap.size ≤ D → Ix c pre W → W.heap[D]? = some (.deferred (some [])) → c.wpIn F n P Q { a with defers := { target := .collected D, args := #[] } :: a.defers } W) :
    (Code.rangeFunc g ps assign body).wpIn F n P Q a w := by
  refine wpIn_rangeFunc fun fn hfn => ?_
  rw [hro]
  obtain ⟨rec, hrec⟩ : ∃ rec, rec = bookRec a ps assign body fn w.heap.size := ⟨_, rfl⟩
  have hst : ∀ st pe, (rec st pe).state = st := fun st pe => by rw [hrec]; rfl
  obtain ⟨W1, hW1⟩ : ∃ W1, W1 = (w.alloc (.deferred (some []))).alloc (.loop (rec .ready none)) := ⟨_, rfl⟩
  have hL1 : W1.heap[w.heap.size + 1]? = some (.loop (rec .ready none)) := by
    have := World.alloc_heap_new (w.alloc (.deferred (some []))) (.loop (rec .ready none))
    rw [World.size_alloc] at this
    rw [hW1]; exact this
  have hK1 : W1.heap[w.heap.size]? = some (.deferred (some [])) := by
    rw [hW1]; exact (Below.heap_alloc _ _ _ (by simp)).trans (World.alloc_heap_new w _)
  have hbW : Below w.heap.size w W1 := by rw [hW1]; exact ((Below.refl _ w).alloc (Nat.le_refl _) _).alloc (by simp) _
  have hI1 : I [] W1 := hI _ _ _ h0 hbW
  have hb1 : Below w0.heap.size w0 W1 := hb0.trans (hbW.mono hb0.size)
  have hsz : W1.heap.size = w.heap.size + 2 := by rw [hW1]; simp
  refine ⟨w.heap.size + 1, [{ target := .collected w.heap.size, args := #[] }], W1, { target := .fn (.func gf) lb, args := #[.func (.yield (w.heap.size + 1)) #[] #[]] }, W1, gf, #[.func (.yield (w.heap.size + 1)) #[] #[]] ++ lb, W1, ?_, ?_, ?_, ?_, fun _ => h1, ?_⟩
  · rw [hW1, hrec]; exact run_enterLoop_outer _ _ _ _ _
  · simp only [resolve, hg]
    simp [go_sem]
  · intro f' hf'; simp [Target.leads] at hf'; subst hf'; exact hFg
  · simp [invoke, go_sem, eg]
  · refine (hseq (w.heap.size + 1)
      (fun pre W => (I pre W ∧ w.heap.size + 2 ≤ W.heap.size) ∧ W.heap[w.heap.size + 1]? = some (.loop (rec .ready none)) ∧ W.heap[w.heap.size]? = some (.deferred (some [])))
      (fun pre W => ∃ c, Ix c pre W ∧ W.heap[w.heap.size + 1]? = some (.loop (rec .done (some c))) ∧ W.heap[w.heap.size]? = some (.deferred (some [])))
      W1 hb1 (fun s A A' hs hb => ⟨⟨hI _ _ _ hs.1.1 (hb.mono (by omega)), Nat.le_trans hs.1.2 hb.size⟩, (hb.block _ (by omega)).trans hs.2.1, (hb.block _ (by omega)).trans hs.2.2⟩)
      (fun s A A' ⟨c, hc, hl, hk⟩ hb => ⟨c, hIx _ _ _ _ hc (hb.mono (by omega)), (hb.block _ (by omega)).trans hl, (hb.block _ (by omega)).trans hk⟩) (fun pre W h => hG pre W h.1.1) ?_ ⟨⟨hI1, by omega⟩, hL1, hK1⟩).mono ?_
    · rintro pre x W ⟨⟨hi, hsW⟩, hl, hk⟩ hR
      have hy := run_yield (P := P) (args := encs x) hl (by rw [hrec]; exact hps x)
      rw [hrec] at hy
      refine ⟨fn, _, assign, body, hy, roundIn_of_wpIn hfn (hassign _ pre x W _ hsW hi ?_)⟩
      intro a' Wa hba hax
      replace hl := (hba.block _ (Array.getElem?_eq_some_iff.1 hl).1).trans hl
      replace hk := (hba.block _ (Array.getElem?_eq_some_iff.1 hk).1).trans hk
      have hsa : w.heap.size + 2 ≤ Wa.heap.size := Nat.le_trans hsW hba.size
      have hia : I pre Wa := hI _ _ _ hi (hba.mono (by omega))
      have hlt : w.heap.size + 1 < Wa.heap.size := by omega
      refine ⟨_, run_beginRound hl (hst _ _), ?_⟩
      obtain ⟨Wb, hWb⟩ : ∃ Wb, Wb = Wa.putObj (w.heap.size + 1) (.loop { rec .ready none with state := .busy }) := ⟨_, rfl⟩
      have hl2 : Wb.heap[w.heap.size + 1]? = some (.loop { rec .ready none with state := .busy }) := by rw [hWb]; exact World.putObj_heap_same hlt
      have hk2 : Wb.heap[w.heap.size]? = some (.deferred (some [])) := by rw [hWb]; exact (World.putObj_heap_other (by omega)).trans hk
      have hib : I pre Wb := by rw [hWb]; exact hI _ _ _ hia (below_put _ _ _ (by omega))
      have hsb : Wb.heap.size = Wa.heap.size := by rw [hWb]; simp
      have hkb : ∀ k, k ≠ w.heap.size + 1 → Wb.heap[k]? = Wa.heap[k]? := fun k hk => by rw [hWb]; exact World.putObj_heap_other hk
      have hxb : Ax x a' Wb := hAx x a' Wa Wb (by omega) hax ⟨by rw [hWb]; rfl, by rw [hWb]; rfl, by rw [hWb]; rfl, by omega, fun k hk h => hkb k (by omega)⟩
      have hob : Wb.os = Wa.os ∧ Wb.tape = Wa.tape ∧ Wb.output = Wa.output := by rw [hWb]; exact ⟨rfl, rfl, rfl⟩
      rw [← hWb]
      refine wpIn_mono (hbody _ pre x a' _ (by omega) hib hR hxb) ?_
      have fin : ∀ (jump : Option Code) (W3 : World), Keeps w.heap.size K Wb W3 →
          (Instr.endRound (w.heap.size + 1) jump).run P W3 = .ok (.bool jump.isNone) (W3.putObj (w.heap.size + 1) (.loop (rec (if jump.isNone then .ready else .done) jump))) ∧
          (W3.putObj (w.heap.size + 1) (.loop (rec (if jump.isNone then .ready else .done) jump))).heap[w.heap.size + 1]? = some (.loop (rec (if jump.isNone then .ready else .done) jump)) ∧
          (W3.putObj (w.heap.size + 1) (.loop (rec (if jump.isNone then .ready else .done) jump))).heap[w.heap.size]? = some (.deferred (some [])) ∧
          Below w.heap.size W3 (W3.putObj (w.heap.size + 1) (.loop (rec (if jump.isNone then .ready else .done) jump))) ∧ w.heap.size + 2 ≤ W3.heap.size ∧
          Keeps W1.heap.size K W (W3.putObj (w.heap.size + 1) (.loop (rec (if jump.isNone then .ready else .done) jump))) := fun jump W3 hk3 => by
        have hl3 := (hk3.same _ (by omega) (.inl (by omega))).trans hl2
        have hd3 := (hk3.same _ (by omega) (.inl (Nat.le_refl _))).trans hk2
        have hr3 := run_endRound (P := P) jump hl3
        have hs3 := hk3.size
        have hsWa := hba.size
        refine ⟨by rw [hrec] at hr3 ⊢; exact hr3, World.putObj_heap_same (by omega), (World.putObj_heap_other (by omega)).trans hd3, below_put _ _ _ (by omega), by omega, ?_⟩
        refine ⟨?_, ?_, ?_, by simp; omega, fun k hk hi => ?_⟩
        · exact hk3.os.trans (hob.1.trans hba.os)
        · exact hk3.tape.trans (hob.2.1.trans hba.tape)
        · exact hk3.output.trans (hob.2.2.trans hba.output)
        · have hne : k ≠ w.heap.size + 1 := by
            rcases hi with h | h
            · omega
            · have := hKw k h; omega
          refine (World.putObj_heap_other hne).trans ((hk3.same k (by omega) ?_).trans ((hkb k hne).trans (hba.block k hk)))
          rcases hi with h | h
          · exact .inl (by omega)
          · exact .inr h
      have left : ∀ (c : Code) (W3 : World), Keeps w.heap.size K Wb W3 → Ix c (pre ++ [x]) W3 → ∃ v W4, (Instr.endRound (w.heap.size + 1) (some c)).run P W3 = .ok v W4 ∧
          ((Ending.returned v = .returned (.bool true) ∧ ((I (pre ++ [x]) W4 ∧ w.heap.size + 2 ≤ W4.heap.size) ∧ W4.heap[w.heap.size + 1]? = some (.loop (rec .ready none)) ∧ W4.heap[w.heap.size]? = some (.deferred (some []))) ∧ Keeps W1.heap.size K W W4) ∨
          (Ending.returned v = .returned (.bool false) ∧ (∃ c, Ix c (pre ++ [x]) W4 ∧ W4.heap[w.heap.size + 1]? = some (.loop (rec .done (some c))) ∧ W4.heap[w.heap.size]? = some (.deferred (some []))) ∧ Keeps W1.heap.size K W W4)) := fun c W3 hk3 hi3 => by
        obtain ⟨hr, hl4, hk4, hb4, _, hkp⟩ := fin (some c) W3 hk3
        exact ⟨_, _, hr, .inr ⟨rfl, ⟨c, hIx _ _ _ _ hi3 hb4, hl4, hk4⟩, hkp⟩⟩
      rintro e a3 W3 hp
      cases e with
      | normal =>
        obtain ⟨hk3, hi3⟩ := hp
        obtain ⟨hr, hl4, hk4, hb4, hs4, hkp⟩ := fin none W3 hk3
        exact ⟨_, _, hr, .inl ⟨rfl, ⟨⟨hI _ _ _ hi3 hb4, by simp; omega⟩, hl4, hk4⟩, hkp⟩⟩
      | ret => exact left .ret W3 hp.1 hp.2
      | exit id => exact left (.exit id) W3 hp.1 hp.2
      | goto t => exact left (.goto t) W3 hp.1 hp.2
      | panic ch => exact hp.elim
      | outgrown => exact hp.elim
    · rintro e W2 ⟨⟨v, rfl⟩, ⟨xs, hS, ⟨hi, _⟩, hl, hk⟩ | ⟨pre, c, hi, hl, hk⟩⟩
      · have he := run_endLoop (P := P) hl (by rw [hst]; simp)
        have hp : (rec .ready none).pending = none := by rw [hrec]; rfl
        rw [hp] at he
        exact ⟨none, _, he, hdone _ xs _ (Nat.le_refl _) hS (hI _ _ _ hi (below_put _ _ _ (by omega))) ((World.putObj_heap_other (by omega)).trans hk)⟩
      · have he := run_endLoop (P := P) hl (by rw [hst]; simp)
        have hp : (rec .done (some c)).pending = some c := by rw [hrec]; rfl
        rw [hp] at he
        exact ⟨some c, _, he, hstop _ c pre _ (Nat.le_refl _) (hIx _ _ _ _ hi (below_put _ _ _ (by omega))) ((World.putObj_heap_other (by omega)).trans hk)⟩
end
end Go.Proofs.Ytdgmahgidmjniaa
