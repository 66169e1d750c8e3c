/-
  General lemmas, no program in sight: bytes as UInt8, blocks of cells known whole, an array's index.
-/
import Derived.WalkKit
import Derived.WalkLawsBesides
import Derived.WalkSpells
import Derived.Lib.Hide
import Derived.Deep.MidRow
import Derived.Deep.WholeRow
namespace Go.Proofs.Ytdgmahgidmjniaa
open Go.RowKit

theorem u8_all {p : UInt8 → Prop} (h : ∀ n : Fin 256, p (UInt8.ofNat n.val)) (x : UInt8) : p x := by
  have := h ⟨x.toNat, x.toNat_lt⟩
  simpa using this

theorem wrap_u8 (n : Nat) (h : n < 256) : IntKind.u8.wrap (n : Int) = n := by
  simp [IntKind.wrap, IntKind.bits, IntKind.signed]
  omega
theorem lt256 (x : UInt8) : x.toNat < 256 := x.toNat_lt
theorem bits_xor_u8 (x y : UInt8) : bits .xor .u8 (x.toNat : Int) (y.toNat : Int) = ((x ^^^ y).toNat : Int) := by
  have hx := lt256 x
  have hy := lt256 y
  have hz := lt256 (x ^^^ y)
  simp [bits] at hz ⊢
  have e : 2 ^ IntKind.u8.bits = 256 := rfl
  rw [e, Nat.mod_eq_of_lt hx, Nat.mod_eq_of_lt hy]
  exact wrap_u8 _ hz
theorem bits_and_u8 (x y : UInt8) : bits .and .u8 (x.toNat : Int) (y.toNat : Int) = ((x &&& y).toNat : Int) := by
  have hx := lt256 x
  have hy := lt256 y
  have hz := lt256 (x &&& y)
  simp [bits] at hz ⊢
  have e : 2 ^ IntKind.u8.bits = 256 := rfl
  rw [e, Nat.mod_eq_of_lt hx, Nat.mod_eq_of_lt hy]
  exact wrap_u8 _ hz
theorem bits_or_u8 (x y : UInt8) : bits .or .u8 (x.toNat : Int) (y.toNat : Int) = ((x ||| y).toNat : Int) := by
  have hx := lt256 x
  have hy := lt256 y
  have hz := lt256 (x ||| y)
  simp [bits] at hz ⊢
  have e : 2 ^ IntKind.u8.bits = 256 := rfl
  rw [e, Nat.mod_eq_of_lt hx, Nat.mod_eq_of_lt hy]
  exact wrap_u8 _ hz

def x8 (x y : UInt8) : UInt8 := x ^^^ y
theorem bits_x8 (x y : UInt8) : bits .xor .u8 (x.toNat : Int) (y.toNat : Int) = ((x8 x y).toNat : Int) := bits_xor_u8 x y
def a8 (x y : UInt8) : UInt8 := x &&& y
theorem bits_a8 (x y : UInt8) : bits .and .u8 (x.toNat : Int) (y.toNat : Int) = ((a8 x y).toNat : Int) := bits_and_u8 x y
def o8 (x y : UInt8) : UInt8 := x ||| y
theorem bits_o8 (x y : UInt8) : bits .or .u8 (x.toNat : Int) (y.toNat : Int) = ((o8 x y).toNat : Int) := bits_or_u8 x y

def B (x : UInt8) : Value := .int .u8 x.toNat
def bytesV (l : List UInt8) : Array Value := (l.map B).toArray

/-- Block b is a row of cells, none of them frozen. -/
def Blk (w : World) (b : Nat) (C : Array Value) (t : TypeId) : Prop := w.heap[b]? = some (.cells C t (0, 0))
theorem Blk.cell {w : World} {b : Nat} {C : Array Value} {t : TypeId} (h : Blk w b C t) (o : Nat) : w.cell? ⟨b, o, none⟩ = C[o]? := by
  unfold Blk at h; simp [World.cell?, h]
theorem Blk.frozen {w : World} {b : Nat} {C : Array Value} {t : TypeId} (h : Blk w b C t) (o : Nat) : w.frozen? ⟨b, o, none⟩ = false := by
  unfold Blk at h; simp [World.frozen?, h]
theorem Blk.lt {w : World} {b : Nat} {C : Array Value} {t : TypeId} (h : Blk w b C t) : b < w.heap.size := lt_of_block h
theorem Blk.set {w : World} {b : Nat} {C : Array Value} {t : TypeId} (h : Blk w b C t) (o : Nat) (v : Value) : Blk (w.setCell ⟨b, o, none⟩ v) b (C.setIfInBounds o v) t := by
  have hlt := h.lt
  unfold Blk at h ⊢
  have h' : w.heap[b] = .cells C t (0, 0) := by simpa [Array.getElem?_eq_getElem hlt] using h
  show (w.heap.modify b _)[b]? = _
  rw [Array.getElem?_eq_getElem (by simpa using hlt), Array.getElem_modify_self, h']
  rfl
theorem Blk.set_other {w : World} {b : Nat} {C : Array Value} {t : TypeId} (h : Blk w b C t) {p : Addr} (hp : b ≠ p.block) (v : Value) : Blk (w.setCell p v) b C t := by
  unfold Blk at h ⊢; rw [Below.heap_setCell _ _ _ _ hp]; exact h
theorem Blk.alloc {w : World} {b : Nat} {C : Array Value} {t : TypeId} (h : Blk w b C t) (o : Obj) : Blk (w.alloc o) b C t := by
  have := h.lt
  unfold Blk at h ⊢; rw [Below.heap_alloc _ _ _ this]; exact h
theorem Blk.drew {w : World} {b : Nat} {C : Array Value} {t : TypeId} (h : Blk w b C t) : Blk w.drew b C t := h
theorem Blk.new (w : World) (C : Array Value) (t : TypeId) : Blk (w.alloc (.cells C t)) w.heap.size C t := by
  unfold Blk; show (w.heap.push _)[w.heap.size]? = _; simp
theorem Blk.below {w w' : World} {B b : Nat} {C : Array Value} {t : TypeId} (h : Blk w b C t) (hb : Below B w w') (hB : b < B) : Blk w' b C t := by
  unfold Blk at h ⊢; rw [hb.block b hB]; exact h

theorem bytesV_size (l : List UInt8) : (bytesV l).size = l.length := by simp [bytesV]
theorem bytesV_get (l : List UInt8) (i : Nat) : (bytesV l)[i]? = (l[i]?).map B := by simp [bytesV]
theorem bytesV_set (l : List UInt8) (i : Nat) (x : UInt8) : (bytesV l).setIfInBounds i (B x) = bytesV (l.set i x) := by
  simp [bytesV]
theorem Blk.byte {w : World} {b : Nat} {l : List UInt8} {t : TypeId} (h : Blk w b (bytesV l) t) (o : Nat) (ho : o < l.length) : w.cell? ⟨b, o, none⟩ = some (.int .u8 (l.getD o 0).toNat) := by
  rw [h.cell, bytesV_get]; simp [ho, B]

theorem Blk.setRow {w : World} {b : Nat} {C : Array Value} {t : TypeId} (h : Blk w b C t) (C' : Array Value) : Blk (w.setRow b C') b C' t := by
  have hlt := h.lt
  unfold Blk at h ⊢
  have h' : w.heap[b] = .cells C t (0, 0) := by simpa [Array.getElem?_eq_getElem hlt] using h
  show (w.heap.modify b _)[b]? = _
  rw [Array.getElem?_eq_getElem (by simpa using hlt), Array.getElem_modify_self, h']
theorem Blk.setRow_same {w : World} {b : Nat} {C : Array Value} {t : TypeId} (h : Blk w b C t) : w.setRow b C = w := by
  unfold Blk at h
  obtain ⟨heap, tape, drawn, os, output⟩ := w
  unfold World.setRow
  simp only [World.mk.injEq, and_true]
  apply Array.ext_getElem?
  intro i
  rw [Array.getElem?_modify]
  by_cases hi : b = i
  · subst hi; simp only [] at h; simp [h]
  · simp [hi]
theorem heap_setRow_other (w : World) (b : Nat) (C : Array Value) (k : Nat) (hk : k ≠ b) : (w.setRow b C).heap[k]? = w.heap[k]? := by
  show (w.heap.modify b _)[k]? = _
  rw [Array.getElem?_modify, if_neg (fun e => hk e.symm)]
theorem Blk.setRow_other {w : World} {b b' : Nat} {C : Array Value} {t : TypeId} (h : Blk w b C t) (hb : b ≠ b') (C' : Array Value) : Blk (w.setRow b' C') b C t := by
  unfold Blk at h ⊢; rw [heap_setRow_other _ _ _ _ hb]; exact h
theorem size_setRow (w : World) (b : Nat) (C : Array Value) : (w.setRow b C).heap.size = w.heap.size := by
  show (w.heap.modify b _).size = _; simp
theorem below_setRow {B b : Nat} {a w : World} (h : Below B a w) (hp : B ≤ b) (C : Array Value) : Below B a (w.setRow b C) :=
  h.trans ⟨rfl, rfl, rfl, by rw [size_setRow]; exact Nat.le_refl _, fun k hk => heap_setRow_other _ _ _ _ (by omega)⟩

theorem run_index_agg {P : Program} {t e : TypeId} {n : Nat} {q : IntKind} (hu : P.underlying t = some (.array n e)) (he : P.underlying e = some (.int q)) (hs : (P.info? e).map (·.size) = some 1)
    (cs : Array Value) (k : IntKind) (i : Int) (j : Nat) (hij : i = j) (hj : j < n) (v : Value) (hv : cs[j]? = some v) (w : World) : (Instr.index t (.agg cs) (.int k i)).run P w = .ok v w := by
  subst hij
  cases hq : P.info? e with
  | none => simp [hq] at hs
  | some ie =>
    have hs' : ie.size = 1 := by simpa [hq] using hs
    have hagg : (isAgg e).run P w = .ok false w := by
      unfold isAgg
      rw [Sem.run_bind, run_underlying he w]
      simp
    simp [Instr.index, asIntOf, run_underlying hu, hj, sizeOf, typeInfo, hq, hs', part, hagg, hv]

theorem bytesV_one (l : List UInt8) : (bytesV l).all (·.oneCell') = true := by
  rw [Array.all_eq_true_iff_forall_mem]
  intro v hv
  simp only [bytesV, List.mem_toArray, List.mem_map] at hv
  obtain ⟨x, _, rfl⟩ := hv
  rfl
/-- One step more of 'below the heap's size when the call began'. -/
theorem bnext {a b c : World} (h : Below a.heap.size a b) (k : Below b.heap.size b c) : Below a.heap.size a c := h.trans (k.mono h.size)
end Go.Proofs.Ytdgmahgidmjniaa
