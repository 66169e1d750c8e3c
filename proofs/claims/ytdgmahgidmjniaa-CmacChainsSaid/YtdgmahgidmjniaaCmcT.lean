/-
  Ranges over functions, once more; regions that go into a round; two helps for regions.
-/
import Derived.Test.YtdgmahgidmjniaaRng
import Derived.Test.YtdgmahgidmjniaaCalm
/-! A range over a function: the own law once more, for a body that writes into what this round's assignment has laid. -/
namespace Go.Proofs.Ytdgmahgidmjniaa
open Go.RowKit

/-- What a round keeps, of what lay when the round began. -/
structure KeepsN (N B : Nat) (K : Nat → Prop) (W W' : World) : Prop where
  os : W'.os = W.os
  tape : W'.tape = W.tape
  output : W'.output = W.output
  size : W.heap.size ≤ W'.heap.size
  same : ∀ k, k < N → (B ≤ k ∨ K k) → W'.heap[k]? = W.heap[k]?
section
variable {N B : Nat} {K : Nat → Prop} {W W' W'' : World}
theorem KeepsN.refl (N B : Nat) (K : Nat → Prop) (W : World) : KeepsN N B K W W := ⟨rfl, rfl, rfl, Nat.le_refl _, fun _ _ _ => rfl⟩
theorem KeepsN.trans (h : KeepsN N B K W W') (k : KeepsN N B K W' W'') : KeepsN N B K W W'' :=
  ⟨k.os.trans h.os, k.tape.trans h.tape, k.output.trans h.output, Nat.le_trans h.size k.size, fun i hi hk => (k.same i hi hk).trans (h.same i hi hk)⟩
theorem KeepsN.next (h : KeepsN N B K W W') (hN : N ≤ W'.heap.size) (k : Below W'.heap.size W' W'') : KeepsN N B K W W'' :=
  h.trans ⟨k.os, k.tape, k.output, k.size, fun i hi _ => k.block i (by omega)⟩
theorem KeepsN.only {b : Nat} (h : KeepsN N B K W W') (k : Only b W' W'') (hb : N ≤ b ∨ (b < B ∧ ¬ K b)) : KeepsN N B K W W'' :=
  h.trans ⟨k.os, k.tape, k.output, Nat.le_of_eq k.size.symm, fun i hi hik => k.block i (by
    rintro rfl
    rcases hb with h | ⟨h1, h2⟩
    · omega
    · rcases hik with h | h
      · omega
      · exact h2 h)⟩
end

section
variable {F : Fence} {n : Nat} {P : Program}
/-- How the body of a round may be left: blocks from N on were laid in this round. -/
def ownPostN {α : Type} (N B : Nat) (K : Nat → Prop) (I : List α → World → Prop) (Ix : Code → List α → World → Prop) (xs : List α) (W : World) : Exit → Act → World → Prop
  | .normal, _, W' => KeepsN N B K W W' ∧ I xs W'
  | .ret, _, W' => KeepsN N B K W W' ∧ Ix .ret xs W'
  | .exit id, _, W' => KeepsN N B K W W' ∧ Ix (.exit id) xs W'
  | .goto t, _, W' => KeepsN N B K W W' ∧ Ix (.goto t) xs W'
  | .panic _, _, _ => False
  | .outgrown, _, _ => False
theorem wpIn_rangeFunc_new {α : Type} {g : Operand} {ps : Array Tmp} {assign body : Code} {Q : Exit → Act → World → Prop} {a : Act} {w : World}
    (hro : F.round = none) (h1 : 1 ≤ n) {gf : Nat} {lb : Array Value} (hg : a.eval g = .func (.func gf) #[] lb) (hFg : F.fn gf) (eg : ∀ args w, (callFunc gf args).run P w = .ok (.enter gf args) w)
    {encs : α → Array Value} {K : Nat → Prop} {G : List α → Prop} {R : List α → α → Prop} {S : List α → Prop} {w0 : World} (hseq : SeqAt F (n - 1) P gf lb encs K G R S w0)
    (hb0 : Below w0.heap.size w0 w) (hKw : ∀ k, K k → k < w.heap.size) (hps : ∀ x, (encs x).size = ps.size)
    (I : List α → World → Prop) (Ix : Code → List α → World → Prop) (hI : ∀ s A A', I s A → Below w.heap.size A A' → I s A') (hIx : ∀ c s A A', Ix c s A → Below w.heap.size A A' → Ix c s A') (hG : ∀ pre W, I pre W → G pre) (h0 : I [] w)
    (Ax : α → Nat → Act → World → Prop) (hAx : ∀ x N a' A A', w.heap.size + 2 ≤ N → Ax x N a' A → Keeps (A.heap.size) (fun k => w.heap.size + 2 ≤ k) A A' → Ax x N a' A')
    (hassign : ∀ (l : Nat) (pre : List α) (x : α) (W : World) (C : Act → World → Prop), w.heap.size + 2 ≤ W.heap.size → I pre W → R pre x → (∀ a' W', Below W.heap.size W W' → Ax x W.heap.size a' W' → C a' W') →
      assign.wpIn (F.inRound l) (n - 1 - 1) P (Exit.then C (fun _ _ _ => False)) { tmps := (ps.zip (encs x)).foldl (fun t (p, v) => t.setIfInBounds p v) a.tmps, defers := [] } W)
    (hbody : ∀ (l : Nat) (pre : List α) (x : α) (N : Nat) (a' : Act) (W : World), w.heap.size + 2 ≤ N → N ≤ W.heap.size → I pre W → R pre x → Ax x N a' W → body.wpIn (F.inRound l) (n - 1 - 1) P (ownPostN N w.heap.size K I Ix (pre ++ [x]) W) a' W)
    (hdone : ∀ (D : Nat) (xs : List α) (W : World), w.heap.size ≤ D → S xs → I xs W → W.heap[D]? = some (.deferred (some [])) → Q .normal { a with defers := { target := .collected D, args := #[] } :: a.defers } W)
    (hstop : ∀ (D : Nat) (c : Code) (pre : List α) (W : World), w.heap.size ≤ D → Ix c pre W → W.heap[D]? = some (.deferred (some [])) → c.wpIn F n P Q { a with defers := { target := .collected D, args := #[] } :: a.defers } W) :
    (Code.rangeFunc g ps assign body).wpIn F n P Q a w := by
  refine wpIn_rangeFunc fun fn hfn => ?_
  rw [hro]
  obtain ⟨rec, hrec⟩ : ∃ rec, rec = bookRec a ps assign body fn w.heap.size := ⟨_, rfl⟩
  have hst : ∀ st pe, (rec st pe).state = st := fun st pe => by rw [hrec]; rfl
  obtain ⟨W1, hW1⟩ : ∃ W1, W1 = (w.alloc (.deferred (some []))).alloc (.loop (rec .ready none)) := ⟨_, rfl⟩
  have hL1 : W1.heap[w.heap.size + 1]? = some (.loop (rec .ready none)) := by
    have := World.alloc_heap_new (w.alloc (.deferred (some []))) (.loop (rec .ready none))
    rw [World.size_alloc] at this
    rw [hW1]; exact this
  have hK1 : W1.heap[w.heap.size]? = some (.deferred (some [])) := by
    rw [hW1]; exact (Below.heap_alloc _ _ _ (by simp)).trans (World.alloc_heap_new w _)
  have hbW : Below w.heap.size w W1 := by rw [hW1]; exact ((Below.refl _ w).alloc (Nat.le_refl _) _).alloc (by simp) _
  have hI1 : I [] W1 := hI _ _ _ h0 hbW
  have hb1 : Below w0.heap.size w0 W1 := hb0.trans (hbW.mono hb0.size)
  have hsz : W1.heap.size = w.heap.size + 2 := by rw [hW1]; simp
  refine ⟨w.heap.size + 1, [{ target := .collected w.heap.size, args := #[] }], W1, { target := .fn (.func gf) lb, args := #[.func (.yield (w.heap.size + 1)) #[] #[]] }, W1, gf, #[.func (.yield (w.heap.size + 1)) #[] #[]] ++ lb, W1, ?_, ?_, ?_, ?_, fun _ => h1, ?_⟩
  · rw [hW1, hrec]; exact run_enterLoop_outer _ _ _ _ _
  · simp only [resolve, hg]
    simp [go_sem]
  · intro f' hf'; simp [Target.leads] at hf'; subst hf'; exact hFg
  · simp [invoke, go_sem, eg]
  · refine (hseq (w.heap.size + 1)
      (fun pre W => (I pre W ∧ w.heap.size + 2 ≤ W.heap.size) ∧ W.heap[w.heap.size + 1]? = some (.loop (rec .ready none)) ∧ W.heap[w.heap.size]? = some (.deferred (some [])))
      (fun pre W => ∃ c, Ix c pre W ∧ W.heap[w.heap.size + 1]? = some (.loop (rec .done (some c))) ∧ W.heap[w.heap.size]? = some (.deferred (some [])))
      W1 hb1 (fun s A A' hs hb => ⟨⟨hI _ _ _ hs.1.1 (hb.mono (by omega)), Nat.le_trans hs.1.2 hb.size⟩, (hb.block _ (by omega)).trans hs.2.1, (hb.block _ (by omega)).trans hs.2.2⟩)
      (fun s A A' ⟨c, hc, hl, hk⟩ hb => ⟨c, hIx _ _ _ _ hc (hb.mono (by omega)), (hb.block _ (by omega)).trans hl, (hb.block _ (by omega)).trans hk⟩) (fun pre W h => hG pre W h.1.1) ?_ ⟨⟨hI1, by omega⟩, hL1, hK1⟩).mono ?_
    · rintro pre x W ⟨⟨hi, hsW⟩, hl, hk⟩ hR
      have hy := run_yield (P := P) (args := encs x) hl (by rw [hrec]; exact hps x)
      rw [hrec] at hy
      refine ⟨fn, _, assign, body, hy, roundIn_of_wpIn hfn (hassign _ pre x W _ hsW hi hR ?_)⟩
      intro a' Wa hba hax
      replace hl := (hba.block _ (Array.getElem?_eq_some_iff.1 hl).1).trans hl
      replace hk := (hba.block _ (Array.getElem?_eq_some_iff.1 hk).1).trans hk
      have hsa : w.heap.size + 2 ≤ Wa.heap.size := Nat.le_trans hsW hba.size
      have hia : I pre Wa := hI _ _ _ hi (hba.mono (by omega))
      have hlt : w.heap.size + 1 < Wa.heap.size := by omega
      refine ⟨_, run_beginRound hl (hst _ _), ?_⟩
      obtain ⟨Wb, hWb⟩ : ∃ Wb, Wb = Wa.putObj (w.heap.size + 1) (.loop { rec .ready none with state := .busy }) := ⟨_, rfl⟩
      have hl2 : Wb.heap[w.heap.size + 1]? = some (.loop { rec .ready none with state := .busy }) := by rw [hWb]; exact World.putObj_heap_same hlt
      have hk2 : Wb.heap[w.heap.size]? = some (.deferred (some [])) := by rw [hWb]; exact (World.putObj_heap_other (by omega)).trans hk
      have hib : I pre Wb := by rw [hWb]; exact hI _ _ _ hia (below_put _ _ _ (by omega))
      have hsb : Wb.heap.size = Wa.heap.size := by rw [hWb]; simp
      have hkb : ∀ k, k ≠ w.heap.size + 1 → Wb.heap[k]? = Wa.heap[k]? := fun k hk => by rw [hWb]; exact World.putObj_heap_other hk
      have hxb : Ax x W.heap.size a' Wb := hAx x _ a' Wa Wb hsW hax ⟨by rw [hWb]; rfl, by rw [hWb]; rfl, by rw [hWb]; rfl, by omega, fun k hk h => hkb k (by omega)⟩
      have hob : Wb.os = Wa.os ∧ Wb.tape = Wa.tape ∧ Wb.output = Wa.output := by rw [hWb]; exact ⟨rfl, rfl, rfl⟩
      rw [← hWb]
      refine wpIn_mono (hbody _ pre x W.heap.size a' _ hsW (by have := hba.size; omega) hib hR hxb) ?_
      have fin : ∀ (jump : Option Code) (W3 : World), KeepsN W.heap.size w.heap.size K Wb W3 →
          (Instr.endRound (w.heap.size + 1) jump).run P W3 = .ok (.bool jump.isNone) (W3.putObj (w.heap.size + 1) (.loop (rec (if jump.isNone then .ready else .done) jump))) ∧
          (W3.putObj (w.heap.size + 1) (.loop (rec (if jump.isNone then .ready else .done) jump))).heap[w.heap.size + 1]? = some (.loop (rec (if jump.isNone then .ready else .done) jump)) ∧
          (W3.putObj (w.heap.size + 1) (.loop (rec (if jump.isNone then .ready else .done) jump))).heap[w.heap.size]? = some (.deferred (some [])) ∧
          Below w.heap.size W3 (W3.putObj (w.heap.size + 1) (.loop (rec (if jump.isNone then .ready else .done) jump))) ∧ w.heap.size + 2 ≤ W3.heap.size ∧
          Keeps W1.heap.size K W (W3.putObj (w.heap.size + 1) (.loop (rec (if jump.isNone then .ready else .done) jump))) := fun jump W3 hk3 => by
        have hl3 := (hk3.same _ (by omega) (.inl (by omega))).trans hl2
        have hd3 := (hk3.same _ (by omega) (.inl (Nat.le_refl _))).trans hk2
        have hr3 := run_endRound (P := P) jump hl3
        have hs3 := hk3.size
        have hsWa := hba.size
        refine ⟨by rw [hrec] at hr3 ⊢; exact hr3, World.putObj_heap_same (by omega), (World.putObj_heap_other (by omega)).trans hd3, below_put _ _ _ (by omega), by omega, ?_⟩
        refine ⟨?_, ?_, ?_, by simp; omega, fun k hk hi => ?_⟩
        · exact hk3.os.trans (hob.1.trans hba.os)
        · exact hk3.tape.trans (hob.2.1.trans hba.tape)
        · exact hk3.output.trans (hob.2.2.trans hba.output)
        · have hne : k ≠ w.heap.size + 1 := by
            rcases hi with h | h
            · omega
            · have := hKw k h; omega
          refine (World.putObj_heap_other hne).trans ((hk3.same k (by omega) ?_).trans ((hkb k hne).trans (hba.block k hk)))
          rcases hi with h | h
          · exact .inl (by omega)
          · exact .inr h
      have left : ∀ (c : Code) (W3 : World), KeepsN W.heap.size w.heap.size K Wb W3 → Ix c (pre ++ [x]) W3 → ∃ v W4, (Instr.endRound (w.heap.size + 1) (some c)).run P W3 = .ok v W4 ∧
          ((Ending.returned v = .returned (.bool true) ∧ ((I (pre ++ [x]) W4 ∧ w.heap.size + 2 ≤ W4.heap.size) ∧ W4.heap[w.heap.size + 1]? = some (.loop (rec .ready none)) ∧ W4.heap[w.heap.size]? = some (.deferred (some []))) ∧ Keeps W1.heap.size K W W4) ∨
          (Ending.returned v = .returned (.bool false) ∧ (∃ c, Ix c (pre ++ [x]) W4 ∧ W4.heap[w.heap.size + 1]? = some (.loop (rec .done (some c))) ∧ W4.heap[w.heap.size]? = some (.deferred (some []))) ∧ Keeps W1.heap.size K W W4)) := fun c W3 hk3 hi3 => by
        obtain ⟨hr, hl4, hk4, hb4, _, hkp⟩ := fin (some c) W3 hk3
        exact ⟨_, _, hr, .inr ⟨rfl, ⟨c, hIx _ _ _ _ hi3 hb4, hl4, hk4⟩, hkp⟩⟩
      rintro e a3 W3 hp
      cases e with
      | normal =>
        obtain ⟨hk3, hi3⟩ := hp
        obtain ⟨hr, hl4, hk4, hb4, hs4, hkp⟩ := fin none W3 hk3
        exact ⟨_, _, hr, .inl ⟨rfl, ⟨⟨hI _ _ _ hi3 hb4, by simp; omega⟩, hl4, hk4⟩, hkp⟩⟩
      | ret => exact left .ret W3 hp.1 hp.2
      | exit id => exact left (.exit id) W3 hp.1 hp.2
      | goto t => exact left (.goto t) W3 hp.1 hp.2
      | panic ch => exact hp.elim
      | outgrown => exact hp.elim
    · rintro e W2 ⟨⟨v, rfl⟩, ⟨xs, hS, ⟨hi, _⟩, hl, hk⟩ | ⟨pre, c, hi, hl, hk⟩⟩
      · have he := run_endLoop (P := P) hl (by rw [hst]; simp)
        have hp : (rec .ready none).pending = none := by rw [hrec]; rfl
        rw [hp] at he
        exact ⟨none, _, he, hdone _ xs _ (Nat.le_refl _) hS (hI _ _ _ hi (below_put _ _ _ (by omega))) ((World.putObj_heap_other (by omega)).trans hk)⟩
      · have he := run_endLoop (P := P) hl (by rw [hst]; simp)
        have hp : (rec .done (some c)).pending = some c := by rw [hrec]; rfl
        rw [hp] at he
        exact ⟨some c, _, he, hstop _ c pre _ (Nat.le_refl _) (hIx _ _ _ _ hi (below_put _ _ _ (by omega))) ((World.putObj_heap_other (by omega)).trans hk)⟩
end
end Go.Proofs.Ytdgmahgidmjniaa

/-! A range over a function with two variables, which no closure holds. -/
namespace Go.Proofs.Ytdgmahgidmjniaa
open Go.RowKit
section
variable {F : Fence} {n : Nat} {P : Program}
def setTwo (t : Array Value) (p p' q q' : Tmp) (v v' : Value) : Array Value := (((t.setIfInBounds p v).setIfInBounds p' v').setIfInBounds q v).setIfInBounds q' v'
theorem wpIn_rangeFunc_two {α : Type} {g : Operand} {p p' q q' : Tmp} {e e' : α → Value} {assign body : Code} {Q : Exit → Act → World → Prop} {a : Act} {w : World}
    (hro : F.round = none) (h1 : 1 ≤ n) {gf : Nat} {lb : Array Value} (hg : a.eval g = .func (.func gf) #[] lb) (hFg : F.fn gf) (eg : ∀ args w, (callFunc gf args).run P w = .ok (.enter gf args) w)
    {K : Nat → Prop} {G : List α → Prop} {R : List α → α → Prop} {S : List α → Prop} {w0 : World} (hseq : SeqAt F (n - 1) P gf lb (fun x => #[e x, e' x]) K G R S w0)
    (hb0 : Below w0.heap.size w0 w) (hKw : ∀ k, K k → k < w.heap.size)
    (I : List α → World → Prop) (Ix : Code → List α → World → Prop) (hI : ∀ s A A', I s A → Below w.heap.size A A' → I s A') (hIx : ∀ c s A A', Ix c s A → Below w.heap.size A A' → Ix c s A') (hG : ∀ pre W, I pre W → G pre) (h0 : I [] w)
    (hassign : ∀ (l : Nat) (x : α) (W : World) (C : Act → World → Prop), C { tmps := setTwo a.tmps p p' q q' (e x) (e' x), defers := [] } W → assign.wpIn (F.inRound l) (n - 1 - 1) P (Exit.then C (fun _ _ _ => False)) { tmps := (a.tmps.setIfInBounds p (e x)).setIfInBounds p' (e' x), defers := [] } W)
    (hbody : ∀ (l : Nat) (pre : List α) (x : α) (W : World), w.heap.size + 2 ≤ W.heap.size → I pre W → R pre x → body.wpIn (F.inRound l) (n - 1 - 1) P (ownPostA w.heap.size K I Ix (pre ++ [x]) W) { tmps := setTwo a.tmps p p' q q' (e x) (e' x), defers := [] } W)
    (hdone : ∀ (D : Nat) (xs : List α) (W : World), w.heap.size ≤ D → S xs → I xs W → W.heap[D]? = some (.deferred (some [])) → Q .normal { a with defers := { target := .collected D, args := #[] } :: a.defers } W)
    (hstop : ∀ (D : Nat) (c : Code) (pre : List α) (W : World), w.heap.size ≤ D → Ix c pre W → W.heap[D]? = some (.deferred (some [])) → c.wpIn F n P Q { a with defers := { target := .collected D, args := #[] } :: a.defers } W) :
    (Code.rangeFunc g #[p, p'] assign body).wpIn F n P Q a w :=
  wpIn_rangeFunc_at hro h1 hg hFg eg hseq hb0 hKw (fun _ => rfl) I Ix hI hIx hG h0 (fun x a' _ => a' = { tmps := setTwo a.tmps p p' q q' (e x) (e' x), defers := [] }) (fun _ _ _ _ _ h _ => h)
    (fun l _ x W C _ _ hC => by have := hassign l x W C (hC _ _ (Below.refl _ _) rfl); simpa using this) (fun l pre x a' W hs hi hr ha => by subst ha; exact hbody l pre x W hs hi hr) hdone hstop
end
theorem roundIn_wide {m m' l' : Nat} {P : Program} {l : Nat} {f : FuncId} {tmps : Array Value} {assign body : Code} {w : World} {R : Ending → World → Prop} (h : RoundIn Fence.wide m P l f tmps assign body w R) : RoundIn (Fence.wide.inRound l') m' P l f tmps assign body w R :=
  ⟨h.1, fun c cs _ => h.2 c cs (room_wide _)⟩
end Go.Proofs.Ytdgmahgidmjniaa

/-! A region goes into a round of the wide fence from its plain walk: calls of functions too. -/
namespace Go.Proofs.Ytdgmahgidmjniaa
open Go.RowKit
section
variable {n : Nat} {P : Program} {ops : Array Oper} {Q : Exit → Act → World → Prop} {md : Region.Mode} {r : Nat}
theorem rowsIn_wide {row : String} {args : Array Value} {w : World} {R : Value → World → Prop} (h : Rows P row args w R) : RowsIn Fence.wide n P row args w R :=
  fun c cs _ => let ⟨v, w', q, s⟩ := h c cs; ⟨v, w', q, stepsIn_wide.2 s⟩
theorem wpIn_of_wp {o : Oper} (hd : ∀ c, o.op ≠ .defer c) {a : Act} {w : World} {K : Act → World → Prop} (h : o.wp P a w K Q) : o.wpIn (Fence.wide.inRound r) n P a w K Q := by
  unfold Oper.wp at h
  unfold Oper.wpIn
  rw [Oper.semAt_eq _ _ _ hd]
  refine ⟨fun _ _ => trivial, ?_⟩
  revert h
  generalize (execOp a.eval o).run P w = x
  intro h
  rcases x with ⟨x, w'⟩ | ⟨x, w'⟩
  · cases x with
    | value v => exact h
    | skip => exact h
    | defer d => exact h
    | enter f args => exact ⟨fun h0 => (by cases h0), callsIn_wide.2 h⟩
    | row s args => exact ⟨fun h0 => (by cases h0), rowsIn_wide h⟩
    | round l f t as b => exact h.elim
    | _ => exact h.elim
  · cases x <;> first | exact h | exact h.elim
/-- No operation lays a deferred call. -/
def noDefer (ops : Array Oper) : Bool := ops.all fun o => match o.op with | .defer _ => false | _ => true
theorem noDefer_at {i : Nat} {o : Oper} (hc : noDefer ops = true) (ho : ops[i]? = some o) : ∀ c, o.op ≠ .defer c := by
  obtain ⟨hi, rfl⟩ := Array.getElem?_eq_some_iff.1 ho
  have := (Array.all_eq_true.1 hc) i hi
  intro c e
  rw [e] at this
  cases this
theorem wpOpIn_of_wp {i : Nat} {a : Act} {w : World} {K : Act → World → Prop} (hc : noDefer ops = true) (hq : ¬ LetsOut Q) (h : wpOp P ops Q i K a w) : wpOpIn (Fence.wide.inRound r) n P ops Q i K a w := by
  unfold wpOp at h
  unfold wpOpIn
  cases ho : ops[i]? with
  | none => rw [ho] at h; exact h
  | some o =>
    rw [ho] at h
    have hco := noDefer_at hc ho
    simp only at h ⊢
    split
    · rename_i hw; rw [if_pos hw] at h; exact wpIn_of_wp hco (h.resolve_right fun x => hq x.2)
    · rename_i hw; rw [if_neg hw] at h; exact ⟨fun _ _ => trivial, h⟩
theorem wpAnyIn_of_wp (hc : noDefer ops = true) (hq : ¬ LetsOut Q) : ∀ (fuel : Nat) (listed : Array Bool) (a : Act) (w : World), wpAny P md ops Q fuel listed a w → wpAnyIn (Fence.wide.inRound r) n P md ops Q fuel listed a w
  | 0, _, _, _, h => h
  | fuel + 1, _, _, _, h => ⟨h.1, fun i hi => wpOpIn_of_wp hc hq (wpOp_mono (fun a w h' => wpAnyIn_of_wp hc hq fuel _ a w h') (h.2 i hi))⟩
/-- A region that draws. -/
theorem wpIn_draw_fit {id : Nat} {a : Act} {w : World} (hm : P.follows .mixedOrders = true) (hc : noDefer ops = true) (hq : ¬ LetsOut Q)
    (h : wpAny P .any ops Q ops.size (Array.replicate ops.size false) a w.drew) : (Code.region id ops true).wpIn (Fence.wide.inRound r) n P Q a w :=
  wpIn_region_any hm (wpAnyIn_of_wp hc hq _ _ _ _ h)
theorem wpOpsIn_of_wp (hc : noDefer ops = true) (hq : ¬ LetsOut Q) : ∀ (l : List Nat) (a : Act) (w : World), wpOps P ops Q l a w → wpOpsIn (Fence.wide.inRound r) n P ops Q l a w
  | [], _, _, h => h
  | i :: rest, a, w, h => by
    rw [wpOpsIn_cons]
    rw [wpOps_cons] at h
    exact wpOpIn_of_wp hc hq (wpOp_mono (fun a w h' => wpOpsIn_of_wp hc hq rest a w h') h)
/-- A region that does not draw. -/
theorem wpIn_fit {id : Nat} {l : List Oper} {a : Act} {w : World} (hc : noDefer l.toArray = true) (hq : ¬ LetsOut Q) (h : wpList P l.toArray Q l a w) : (Code.region id l.toArray false).wpIn (Fence.wide.inRound r) n P Q a w :=
  wpIn_region (by
    rw [List.range_eq_range', ← Array.length_toList]
    refine wpOpsIn_of_wp hc hq _ _ _ ?_
    rw [wpOps_eq_wpList l.toArray.toList 0 (by simp)]; exact h)
end
end Go.Proofs.Ytdgmahgidmjniaa
namespace Go.Proofs.Ytdgmahgidmjniaa
open Go.RowKit
theorem wpAnyH_takeD {P : Program} {md : Region.Mode} {ops : Array Oper} {Q : Exit → Act → World → Prop} {S : World → Prop} (i : Nat) (d : Option Tmp) {oi : Oper} {v : Value} {fuel : Nat} {listed : Array Bool} {a : Act} {w : World} (hi : ops[i]? = some oi) (hd : oi.dst = d)
    (hs : Region.noSelect ops = true) (hf : Region.free md ops listed i = true) (hr : (Region.ready md ops listed).contains i = true)
    (hQ : ∀ c a w, Q (.panic c) (a.put oi.dst v) w → Q (.panic c) a w) (hy : YieldsIf P ops S oi v a) (hS : S w)
    (h : wpAnyH P md ops Q S fuel (listed.setIfInBounds i true) (a.put d v) w) : wpAnyH P md ops Q S (fuel + 1) listed a w := by
  subst hd; exact wpAnyH_take hi hs hf hr hQ hy hS h
theorem yieldsIf_calc {P : Program} {ops : Array Oper} {S : World → Prop} {op : Oper} {a : Act} {v : Value} (hw : Region.wanted op (yielded ops a.tmps) = true) (h : ∀ w, (execOp a.eval op).run P w = .ok (.value v) w) : YieldsIf P ops S op v a := .inl ⟨hw, fun w _ => h w⟩
end Go.Proofs.Ytdgmahgidmjniaa
