/-
  Rows that the call itself made: how they are kept, how they are read.
-/
import Derived.Test.YtdgmahgidmjniaaCopy
import Derived.Test.YtdgmahgidmjniaaSli
import Derived.OwnWalk
namespace Go.Proofs.Ytdgmahgidmjniaa
open Go.RowKit

/-- Below base w' is w but for block b. -/
structure But (b base : Nat) (w w' : World) : Prop where
  os : w'.os = w.os
  tape : w'.tape = w.tape
  output : w'.output = w.output
  size : w.heap.size ≤ w'.heap.size
  block : ∀ k, k < base → k ≠ b → w'.heap[k]? = w.heap[k]?
theorem But.refl (b base : Nat) (w : World) : But b base w w := ⟨rfl, rfl, rfl, Nat.le_refl _, fun _ _ _ => rfl⟩
theorem But.trans {b base : Nat} {w1 w2 w3 : World} (h : But b base w1 w2) (k : But b base w2 w3) : But b base w1 w3 :=
  ⟨k.os.trans h.os, k.tape.trans h.tape, k.output.trans h.output, Nat.le_trans h.size k.size, fun i hi hn => (k.block i hi hn).trans (h.block i hi hn)⟩
theorem But.below {b base : Nat} {w1 w2 w3 : World} (h : But b base w1 w2) (k : Below w2.heap.size w2 w3) (hb : base ≤ w2.heap.size) : But b base w1 w3 :=
  h.trans ⟨k.os, k.tape, k.output, k.size, fun i hi _ => k.block i (by omega)⟩
theorem But.alloc {b base : Nat} {w1 w2 : World} (h : But b base w1 w2) (hb : base ≤ w2.heap.size) (o : Obj) : But b base w1 (w2.alloc o) :=
  h.below ((Below.refl _ _).alloc (Nat.le_refl _) _) hb
theorem But.only {b b' base : Nat} {w1 w2 w3 : World} (h : But b base w1 w2) (k : Only b' w2 w3) (hb : b' = b ∨ base ≤ b') : But b base w1 w3 :=
  h.trans ⟨k.os, k.tape, k.output, Nat.le_of_eq k.size.symm, fun i hi hn => k.block i (by omega)⟩
theorem But.grown {b base : Nat} {w1 w2 w3 : World} {row : Option Nat} (h : But b base w1 w2) (k : w2.grownBy w3 row) (hs : base ≤ w2.heap.size) (hb : ∀ k, row = some k → base ≤ k) : But b base w1 w3 :=
  h.trans ⟨k.os, k.tape, k.output, k.size, fun i hi _ => k.block i (by omega) (fun e => by have := hb i e.symm; omega)⟩
theorem Blk.but {b b' base : Nat} {w w' : World} {C : Array Value} {t : TypeId} (h : Blk w b' C t) (k : But b base w w') (h1 : b' < base) (h2 : b' ≠ b) : Blk w' b' C t := by
  unfold Blk at h ⊢; rw [k.block b' h1 h2]; exact h
theorem below_but {B b base : Nat} {a w w' : World} (h : Below B a w) (k : But b base w w') (h1 : B ≤ b) (h2 : B ≤ base) : Below B a w' :=
  h.trans ⟨k.os, k.tape, k.output, k.size, fun i hi => k.block i (by omega) (by omega)⟩
theorem Blk.grown {b : Nat} {w w' : World} {row : Option Nat} {C : Array Value} {t : TypeId} (h : Blk w b C t) (k : w.grownBy w' row) (hb : some b ≠ row) : Blk w' b C t := by
  have := h.lt
  unfold Blk at h ⊢; rw [k.block b this hb]; exact h

section
variable {w w' : World} {base : Nat} {e : TypeId} {v : Value} {n size : Nat} {xs : List Value}
theorem own_grown_none (h : w.ownsRow base e size v n xs) (k : w.grownBy w' none) : w'.ownsRow base e size v n xs :=
  h.kept k (by cases hq : v.ownBlock <;> simp)
theorem own_below (h : w.ownsRow base e size v n xs) (k : Below w.heap.size w w') : w'.ownsRow base e size v n xs :=
  own_grown_none h ⟨k.os, k.tape, k.output, k.size, fun i hi _ => k.block i hi⟩
theorem own_only {b : Nat} (h : w.ownsRow base e size v n xs) (k : Only b w w') (hb : ∀ g, v.ownBlock = some g → g ≠ b) : w'.ownsRow base e size v n xs :=
  h.kept (row := some b) ⟨k.os, k.tape, k.output, Nat.le_of_eq k.size.symm, fun i _ hn => k.block i (fun e => hn (by rw [e]))⟩ (by
    cases hq : v.ownBlock with
    | none => exact .inl rfl
    | some g => exact .inr (fun e => hb g hq (by simpa using e)))
theorem own_only_lt {b : Nat} (h : w.ownsRow base e size v n xs) (k : Only b w w') (hb : b < base) : w'.ownsRow base e size v n xs :=
  own_only h k (fun g hg => by have := (h.lt g hg).1; omega)
theorem own_only_ge {b : Nat} {o : Obj} (h : w.ownsRow base e size v n xs) (k : Only b (w.alloc o) w') (hb : w.heap.size ≤ b) : w'.ownsRow base e size v n xs :=
  own_only (h.alloc o) k (fun g hg => by have := (h.lt g hg).2; omega)
theorem own_slice (h : w.ownsRow base e size v n xs) : v.cells = #[v] ∧ v.oneCell' = true := by
  rcases h with ⟨_, ⟨rfl, _⟩ | ⟨g, cap, cur, rfl, _⟩⟩ <;> exact ⟨rfl, rfl⟩
theorem own_blk (h : w.ownsRow base e size v n xs) (k : v.ownBlock = none ∨ ∃ g, v.ownBlock = some g ∧ base ≤ g) : ∀ g, v.ownBlock = some g → base ≤ g := fun g hg => (h.lt g hg).1
/-- A row of bytes that the call owns, as a slice of bytes. -/
theorem bsl_own {l : List UInt8} (h : w.ownsRow base e 1 v l.length (l.map B)) : Bsl w v l := by
  obtain ⟨_, ⟨rfl, h0⟩ | ⟨g, cap, cur, rfl, _, hh, hl, hm, hs, ht⟩⟩ := h
  · have : l = [] := List.length_eq_zero_iff.1 h0
    subst this
    exact ⟨none, 0, rfl, Nat.le_refl _, Nat.zero_le _, fun _ => rfl, Byt.nil _ _⟩
  · refine ⟨_, cap, rfl, hl, hm, (fun h => nomatch h), fun _ => ⟨g, 0, rfl, ?_, fun i hi => ?_⟩⟩
    · apply Decidable.byContradiction
      intro hn
      rw [Array.getElem?_eq_none (by omega)] at hh
      cases hh
    · have e1 : w.cell? ⟨g, 0 + i, none⟩ = cur[i]? := by simp [World.cell?, hh]
      rw [e1, ← Array.getElem?_toList, ← List.getElem?_take_of_lt (show i < l.length * 1 by omega), ht, List.getElem?_map]
      simp [hi, gd, B]
end

section
variable {P : Program}
/-- A store of a value of one cell: the world behind it is known by its blocks. -/
theorem wpList_store_one {w : World} {ops : Array Oper} {rest : List Oper} {op : Oper} {a : Act} {Q : Exit → Act → World → Prop} (hgd : op.guard = none) (ty : TypeId) (x y : Operand) (ho : op.op = .store ty x y)
    (b o : Nat) (v : Value) (hx : a.eval x = .pointer (some ⟨b, o, none⟩)) (hy : a.eval y = v) (hv : v.cells = #[v] ∧ v.oneCell' = true) {C : Array Value} {t : TypeId} (hb : Blk w b C t) (hs : (P.info? ty).map (·.size) = some 1) (hlt : o < C.size)
    (h : ∀ w', Blk w' b (C.setIfInBounds o v) t → Only b w w' → wpList P ops Q rest (a.put op.dst undef) w') : wpList P ops Q (op :: rest) a w := by
  have hst := run_storeCells_cells (P := P) b o [v] 0 w (fun j hj => by
      have : j = 0 := by simpa using hj
      subst this
      rw [Nat.add_zero, hb.cell, Array.getElem?_eq_getElem hlt]; rfl) (fun j _ => hb.frozen _) (fun u hu => by
      have : u = v := by simpa using hu
      subst this; exact hv.2)
  have hrun : (storeVar ty ⟨b, o, none⟩ v).run P w = .ok () (w.setCell ⟨b, o, none⟩ v) := by
    cases hq : P.info? ty with
    | none => simp [hq] at hs
    | some i =>
      have hi : i.size = 1 := by simpa [hq] using hs
      simp [storeVar, sizeOf, typeInfo, hq, hi, hv.1, hst, World.setCells]
  refine wpList_plain hgd fun K hK => ?_
  unfold Oper.wp execOp
  simp only [ho, hx, hy, Instr.storeAt, Instr.sureAddr, Sem.run_bind, Sem.run_pure, Result.andThen_ok, hrun]
  exact hK _ _ (h _ (hb.set o _) (Only.setCell w o _))
end
end Go.Proofs.Ytdgmahgidmjniaa
