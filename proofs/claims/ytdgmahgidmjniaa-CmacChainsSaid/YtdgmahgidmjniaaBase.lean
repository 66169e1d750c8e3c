/-
  General lemmas, no program in sight: bytes as UInt8, blocks of cells known whole, an array's index.
-/
import Derived.WalkKit
import Derived.WalkLawsBesides
import Derived.WalkSpells
import Derived.Lib.Hide
import Derived.Deep.MidRow
import Derived.Deep.WholeRow
namespace Go.Proofs.Ytdgmahgidmjniaa
open Go.RowKit

theorem u8_all {p : UInt8 → Prop} (h : ∀ n : Fin 256, p (UInt8.ofNat n.val)) (x : UInt8) : p x := by
  have := h ⟨x.toNat, x.toNat_lt⟩
  simpa using this

theorem wrap_u8 (n : Nat) (h : n < 256) : IntKind.u8.wrap (n : Int) = n := by
  simp [IntKind.wrap, IntKind.bits, IntKind.signed]
  omega
theorem lt256 (x : UInt8) : x.toNat < 256 := x.toNat_lt
theorem bits_xor_u8 (x y : UInt8) : bits .xor .u8 (x.toNat : Int) (y.toNat : Int) = ((x ^^^ y).toNat : Int) := by
  have hx := lt256 x
  have hy := lt256 y
  have hz := lt256 (x ^^^ y)
  simp [bits] at hz ⊢
  have e : 2 ^ IntKind.u8.bits = 256 := rfl
  rw [e, Nat.mod_eq_of_lt hx, Nat.mod_eq_of_lt hy]
  exact wrap_u8 _ hz
theorem bits_and_u8 (x y : UInt8) : bits .and .u8 (x.toNat : Int) (y.toNat : Int) = ((x &&& y).toNat : Int) := by
  have hx := lt256 x
  have hy := lt256 y
  have hz := lt256 (x &&& y)
  simp [bits] at hz ⊢
  have e : 2 ^ IntKind.u8.bits = 256 := rfl
  rw [e, Nat.mod_eq_of_lt hx, Nat.mod_eq_of_lt hy]
  exact wrap_u8 _ hz
theorem bits_or_u8 (x y : UInt8) : bits .or .u8 (x.toNat : Int) (y.toNat : Int) = ((x ||| y).toNat : Int) := by
  have hx := lt256 x
  have hy := lt256 y
  have hz := lt256 (x ||| y)
  simp [bits] at hz ⊢
  have e : 2 ^ IntKind.u8.bits = 256 := rfl
  rw [e, Nat.mod_eq_of_lt hx, Nat.mod_eq_of_lt hy]
  exact wrap_u8 _ hz

def x8 (x y : UInt8) : UInt8 := x ^^^ y
theorem bits_x8 (x y : UInt8) : bits .xor .u8 (x.toNat : Int) (y.toNat : Int) = ((x8 x y).toNat : Int) := bits_xor_u8 x y
def a8 (x y : UInt8) : UInt8 := x &&& y
theorem bits_a8 (x y : UInt8) : bits .and .u8 (x.toNat : Int) (y.toNat : Int) = ((a8 x y).toNat : Int) := bits_and_u8 x y
def o8 (x y : UInt8) : UInt8 := x ||| y
theorem bits_o8 (x y : UInt8) : bits .or .u8 (x.toNat : Int) (y.toNat : Int) = ((o8 x y).toNat : Int) := bits_or_u8 x y

def B (x : UInt8) : Value := .int .u8 x.toNat
def bytesV (l : List UInt8) : Array Value := (l.map B).toArray

/-- Block b is a row of cells, none of them frozen. -/
def Blk (w : World) (b : Nat) (C : Array Value) (t : TypeId) : Prop := w.heap[b]? = some (.cells C t (0, 0))
theorem Blk.cell {w : World} {b : Nat} {C : Array Value} {t : TypeId} (h : Blk w b C t) (o : Nat) : w.cell? ⟨b, o, none⟩ = C[o]? := by
  unfold Blk at h; simp [World.cell?, h]
theorem Blk.frozen {w : World} {b : Nat} {C : Array Value} {t : TypeId} (h : Blk w b C t) (o : Nat) : w.frozen? ⟨b, o, none⟩ = false := by
  unfold Blk at h; simp [World.frozen?, h]
theorem Blk.lt {w : World} {b : Nat} {C : Array Value} {t : TypeId} (h : Blk w b C t) : b < w.heap.size := lt_of_block h
theorem Blk.set {w : World} {b : Nat} {C : Array Value} {t : TypeId} (h : Blk w b C t) (o : Nat) (v : Value) : Blk (w.setCell ⟨b, o, none⟩ v) b (C.setIfInBounds o v) t := by
  have hlt := h.lt
  unfold Blk at h ⊢
  have h' : w.heap[b] = .cells C t (0, 0) := by simpa [Array.getElem?_eq_getElem hlt] using h
  show (w.heap.modify b _)[b]? = _
  rw [Array.getElem?_eq_getElem (by simpa using hlt), Array.getElem_modify_self, h']
  rfl
theorem Blk.set_other {w : World} {b : Nat} {C : Array Value} {t : TypeId} (h : Blk w b C t) {p : Addr} (hp : b ≠ p.block) (v : Value) : Blk (w.setCell p v) b C t := by
  unfold Blk at h ⊢; rw [Below.heap_setCell _ _ _ _ hp]; exact h
theorem Blk.alloc {w : World} {b : Nat} {C : Array Value} {t : TypeId} (h : Blk w b C t) (o : Obj) : Blk (w.alloc o) b C t := by
  have := h.lt
  unfold Blk at h ⊢; rw [Below.heap_alloc _ _ _ this]; exact h
theorem Blk.drew {w : World} {b : Nat} {C : Array Value} {t : TypeId} (h : Blk w b C t) : Blk w.drew b C t := h
theorem Blk.new (w : World) (C : Array Value) (t : TypeId) : Blk (w.alloc (.cells C t)) w.heap.size C t := by
  unfold Blk; show (w.heap.push _)[w.heap.size]? = _; simp
theorem Blk.below {w w' : World} {B b : Nat} {C : Array Value} {t : TypeId} (h : Blk w b C t) (hb : Below B w w') (hB : b < B) : Blk w' b C t := by
  unfold Blk at h ⊢; rw [hb.block b hB]; exact h

theorem bytesV_size (l : List UInt8) : (bytesV l).size = l.length := by simp [bytesV]
theorem bytesV_get (l : List UInt8) (i : Nat) : (bytesV l)[i]? = (l[i]?).map B := by simp [bytesV]
theorem bytesV_set (l : List UInt8) (i : Nat) (x : UInt8) : (bytesV l).setIfInBounds i (B x) = bytesV (l.set i x) := by
  simp [bytesV]
theorem Blk.byte {w : World} {b : Nat} {l : List UInt8} {t : TypeId} (h : Blk w b (bytesV l) t) (o : Nat) (ho : o < l.length) : w.cell? ⟨b, o, none⟩ = some (.int .u8 (l.getD o 0).toNat) := by
  rw [h.cell, bytesV_get]; simp [ho, B]

theorem Blk.setRow {w : World} {b : Nat} {C : Array Value} {t : TypeId} (h : Blk w b C t) (C' : Array Value) : Blk (w.setRow b C') b C' t := by
  have hlt := h.lt
  unfold Blk at h ⊢
  have h' : w.heap[b] = .cells C t (0, 0) := by simpa [Array.getElem?_eq_getElem hlt] using h
  show (w.heap.modify b _)[b]? = _
  rw [Array.getElem?_eq_getElem (by simpa using hlt), Array.getElem_modify_self, h']
theorem Blk.setRow_same {w : World} {b : Nat} {C : Array Value} {t : TypeId} (h : Blk w b C t) : w.setRow b C = w := by
  unfold Blk at h
  obtain ⟨heap, tape, drawn, os, output⟩ := w
  unfold World.setRow
  simp only [World.mk.injEq, and_true]
  apply Array.ext_getElem?
  intro i
  rw [Array.getElem?_modify]
  by_cases hi : b = i
  · subst hi; simp only [] at h; simp [h]
  · simp [hi]
theorem heap_setRow_other (w : World) (b : Nat) (C : Array Value) (k : Nat) (hk : k ≠ b) : (w.setRow b C).heap[k]? = w.heap[k]? := by
  show (w.heap.modify b _)[k]? = _
  rw [Array.getElem?_modify, if_neg (fun e => hk e.symm)]
theorem Blk.setRow_other {w : World} {b b' : Nat} {C : Array Value} {t : TypeId} (h : Blk w b C t) (hb : b ≠ b') (C' : Array Value) : Blk (w.setRow b' C') b C t := by
  unfold Blk at h ⊢; rw [heap_setRow_other _ _ _ _ hb]; exact h
theorem size_setRow (w : World) (b : Nat) (C : Array Value) : (w.setRow b C).heap.size = w.heap.size := by
  show (w.heap.modify b _).size = _; simp
theorem below_setRow {B b : Nat} {a w : World} (h : Below B a w) (hp : B ≤ b) (C : Array Value) : Below B a (w.setRow b C) :=
  h.trans ⟨rfl, rfl, rfl, by rw [size_setRow]; exact Nat.le_refl _, fun k hk => heap_setRow_other _ _ _ _ (by omega)⟩

theorem run_index_agg {P : Program} {t e : TypeId} {n : Nat} {q : IntKind} (hu : P.underlying t = some (.array n e)) (he : P.underlying e = some (.int q)) (hs : (P.info? e).map (·.size) = some 1)
    (cs : Array Value) (k : IntKind) (i : Int) (j : Nat) (hij : i = j) (hj : j < n) (v : Value) (hv : cs[j]? = some v) (w : World) : (Instr.index t (.agg cs) (.int k i)).run P w = .ok v w := by
  subst hij
  cases hq : P.info? e with
  | none => simp [hq] at hs
  | some ie =>
    have hs' : ie.size = 1 := by simpa [hq] using hs
    have hagg : (isAgg e).run P w = .ok false w := by
      unfold isAgg
      rw [Sem.run_bind, run_underlying he w]
      simp
    simp [Instr.index, asIntOf, run_underlying hu, hj, sizeOf, typeInfo, hq, hs', part, hagg, hv]

theorem bytesV_one (l : List UInt8) : (bytesV l).all (·.oneCell') = true := by
  rw [Array.all_eq_true_iff_forall_mem]
  intro v hv
  simp only [bytesV, List.mem_toArray, List.mem_map] at hv
  obtain ⟨x, _, rfl⟩ := hv
  rfl
/-! ### Whole rows (arrays and structs by value), out of and into a block that is known whole -/
/-- Type ty is a struct or an array of n cells. -/
def RowTy (P : Program) (ty : TypeId) (n : Nat) : Prop := (∃ d, P.underlying ty = some d ∧ d.isRow = true) ∧ (P.info? ty).map (·.size) = some n
theorem Blk.new' {w : World} {C : Array Value} {t : TypeId} {n : Nat} (h : n = w.heap.size) : Blk (w.alloc (.cells C t)) n C t := by subst h; exact Blk.new _ _ _
theorem Blk.range {w : World} {b : Nat} {C : Array Value} {t : TypeId} (h : Blk w b C t) (o n : Nat) : w.rangeAt b o (C.extract o (o + n)).toList := World.rangeAt_of_block h o n
/-- w' is w but for block b. -/
structure Only (b : Nat) (w w' : World) : Prop where
  os : w'.os = w.os
  tape : w'.tape = w.tape
  output : w'.output = w.output
  size : w'.heap.size = w.heap.size
  block : ∀ k, k ≠ b → w'.heap[k]? = w.heap[k]?
theorem Only.refl (b : Nat) (w : World) : Only b w w := ⟨rfl, rfl, rfl, rfl, fun _ _ => rfl⟩
theorem Only.setCells (b : Nat) : ∀ (vs : List Value) (o : Nat) (w : World), Only b w (w.setCells b o vs)
  | [], _, w => Only.refl b w
  | v :: r, o, w => by
    have h := Only.setCells b r (o + 1) (w.setCell ⟨b, o, none⟩ v)
    exact ⟨h.os, h.tape, h.output, h.size.trans (by simp [World.setCell]), fun k hk => (h.block k hk).trans (Below.heap_setCell _ _ _ _ hk)⟩
theorem Only.setCell {b : Nat} (w : World) (o : Nat) (v : Value) : Only b w (w.setCell ⟨b, o, none⟩ v) := Only.setCells b [v] o w
theorem Blk.only {w w' : World} {b b' : Nat} {C : Array Value} {t : TypeId} (h : Blk w b C t) (ho : Only b' w w') (hb : b ≠ b') : Blk w' b C t := by
  unfold Blk at h ⊢; rw [ho.block b hb]; exact h
theorem below_only {B b : Nat} {a w w' : World} (h : Below B a w) (ho : Only b w w') (hb : B ≤ b) : Below B a w' :=
  h.trans ⟨ho.os, ho.tape, ho.output, Nat.le_of_eq ho.size.symm, fun k hk => ho.block k (by omega)⟩
/-- The cells C with V written from o on. -/
def splice (C : Array Value) (o : Nat) : List Value → Array Value
  | [] => C
  | v :: r => splice (C.setIfInBounds o v) (o + 1) r
theorem Blk.setCells {b : Nat} {t : TypeId} : ∀ (vs : List Value) (o : Nat) (u : World) (D : Array Value), Blk u b D t → Blk (u.setCells b o vs) b (splice D o vs) t
  | [], _, _, _, h => h
  | v :: r, o, _, _, h => Blk.setCells r (o + 1) _ _ (h.set o v)
theorem splice_size : ∀ (vs : List Value) (o : Nat) (C : Array Value), (splice C o vs).size = C.size
  | [], _, _ => rfl
  | v :: r, o, C => by rw [splice, splice_size]; simp
theorem splice_bytes : ∀ (m : List UInt8) (o : Nat) (l : List UInt8), o + m.length ≤ l.length → splice (bytesV l) o (m.map B) = bytesV (l.take o ++ m ++ l.drop (o + m.length))
  | [], o, l, _ => by simp [splice]
  | x :: m, o, l, h => by
    have h' : o + (m.length + 1) ≤ l.length := by simpa using h
    rw [List.map_cons, splice, bytesV_set, splice_bytes m (o + 1) (l.set o x) (by simp; omega)]
    congr 1
    rw [List.take_set, List.take_succ_eq_append_getElem (by omega), List.set_append_right _ _ (by simp; omega), List.drop_set_of_lt (by omega)]
    have e : min o l.length = o := by omega
    simp [e, Nat.add_assoc, Nat.add_comm 1]
theorem bytesV_extract (l : List UInt8) (i j : Nat) : (bytesV l).extract i j = bytesV ((l.drop i).take (j - i)) := by
  simp [bytesV, List.extract_eq_take_drop, List.map_take, List.map_drop]
theorem bytesV_whole (l : List UInt8) (n : Nat) (h : l.length = n) : (bytesV l).extract 0 (0 + n) = bytesV l := by
  rw [bytesV_extract]; simp [← h]
section
variable {P : Program}
/-- A load of a whole row, at the list of a plain region's operations. -/
theorem wpList_load_blk {ops : Array Oper} {rest : List Oper} {op : Oper} {a : Act} {w : World} {Q : Exit → Act → World → Prop} (hgd : op.guard = none) (ty : TypeId) (x : Operand) (ho : op.op = .load ty x)
    (b o n : Nat) (hx : a.eval x = .pointer (some ⟨b, o, none⟩)) {C : Array Value} {t : TypeId} (hb : Blk w b C t) (hr : RowTy P ty n) (hle : o + n ≤ C.size) (V : Array Value) (hV : C.extract o (o + n) = V)
    (h : wpList P ops Q rest (a.put op.dst (.agg V)) w) : wpList P ops Q (op :: rest) a w := by
  obtain ⟨⟨d, hu, hd⟩, hi⟩ := hr
  subst hV
  have hl : (C.extract o (o + n)).toList.length = n := by simp; omega
  refine wpList_load_mid hgd ty x ho b o hx (C.extract o (o + n)).toList d (hb.range o n) hu hd (by rw [hl]; exact hi) ?_
  rw [Array.toArray_toList]
  exact h
/-- A store of a whole row: the world behind it is known by its blocks. -/
theorem wpList_store_blk {ops : Array Oper} {rest : List Oper} {op : Oper} {a : Act} {w : World} {Q : Exit → Act → World → Prop} (hgd : op.guard = none) (ty : TypeId) (x y : Operand) (ho : op.op = .store ty x y)
    (b o n : Nat) (V : Array Value) (hx : a.eval x = .pointer (some ⟨b, o, none⟩)) (hy : a.eval y = .agg V) {C : Array Value} {t : TypeId} (hb : Blk w b C t) (hr : RowTy P ty n) (hV : V.size = n) (hle : o + n ≤ C.size)
    (h1 : V.all (·.oneCell') = true) (h : ∀ w', Blk w' b (splice C o V.toList) t → Only b w w' → wpList P ops Q rest (a.put op.dst undef) w') : wpList P ops Q (op :: rest) a w := by
  obtain ⟨_, hi⟩ := hr
  subst hV
  have ht : w.there b o V.size := fun j hj => ⟨by rw [hb.cell, Array.getElem?_eq_getElem (by omega)]; rfl, hb.frozen _⟩
  exact wpList_store_mid hgd ty x y ho b o V hx hy ht hi h1 (h _ (hb.setCells _ _ _ _) (Only.setCells b _ _ w))
/-- A function's result that lies in a block. -/
theorem results_blk {fn : Func} {p : Tmp} {ty : TypeId} (h : fn.results = #[.cell p ty]) (tmps : Array Value) (w : World) (b : Nat) (C : Array Value) (t : TypeId) (n : Nat)
    (hp : tmps.getD p undef = .pointer (some ⟨b, 0, none⟩)) (hb : Blk w b C t) (hr : RowTy P ty n) (hn : C.size = n) : (results fn tmps).run P w = .ok (.agg C) w := by
  obtain ⟨⟨d, hu, hd⟩, hi⟩ := hr
  subst hn
  exact results_cell_row h tmps w b t C (0, 0) d hp hb hu (by cases d <;> first | rfl | cases hd) hi
end

/-- One step more of 'below the heap's size when the call began'. -/
theorem bnext {a b c : World} (h : Below a.heap.size a b) (k : Below b.heap.size b c) : Below a.heap.size a c := h.trans (k.mono h.size)
end Go.Proofs.Ytdgmahgidmjniaa
