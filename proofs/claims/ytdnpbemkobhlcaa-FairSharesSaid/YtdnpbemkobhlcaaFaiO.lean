/-
  Slices of operations: opened, read; the law on runs.
-/
import Derived.Test.YtdnpbemkobhlcaaFaiK
set_option linter.unusedSimpArgs false
set_option linter.unusedVariables false
namespace Go.Proofs.Ytdnpbemkobhlcaa
open Go.ChangeShapes Go.WideShapes Go.RowKit
attribute [-go_sem] Instr.build

/-- One operation of the law's argument. -/
structure Opn where
  kd : Int
  u : Int
  b : Int
  a : Option Addr
  cap : Nat
  xs : List Int
/-- The cells at index i of a slice of operations. -/
structure AtO (w : World) (g o i : Nat) (x : Opn) : Prop where
  c0 : w.cell? ⟨g, o + i * 4, none⟩ = some (.int .i64 x.kd)
  c1 : w.cell? ⟨g, o + i * 4 + 1, none⟩ = some (.int .i64 x.u)
  c2 : w.cell? ⟨g, o + i * 4 + 2, none⟩ = some (.int .i64 x.b)
  c3 : w.cell? ⟨g, o + i * 4 + 3, none⟩ = some (.slice x.a x.xs.length x.cap)
  lt : g < w.heap.size
  xs : Ints w x.a x.xs
  nil : x.a = none → x.cap = 0
theorem AtO.below {w w' : World} {g o i : Nat} {x : Opn} (h : AtO w g o i x) (hb : Below w.heap.size w w') : AtO w' g o i x :=
  ⟨(hb.cell h.lt).trans h.c0, (hb.cell h.lt).trans h.c1, (hb.cell h.lt).trans h.c2, (hb.cell h.lt).trans h.c3, Nat.lt_of_lt_of_le h.lt hb.size, h.xs.below hb, h.nil⟩
/-- A slice that reads as the operations l. -/
def Asl (w : World) (v : Value) (l : List Opn) : Prop :=
  ∃ (a : Option Addr) (cap : Nat), v = .slice a l.length cap ∧ l.length ≤ cap ∧ cap ≤ maxLen ∧ ∀ i (hi : i < l.length), ∃ g o, a = some ⟨g, o, none⟩ ∧ AtO w g o i l[i]
section
variable {H : Type} {enc : TypeId × Value → H} {W : World} {base : Nat} {sp : Nat → Bool} {held : Bool}
/-- One slice of integers, as a cell. -/
theorem open_ints_cell {v : Value} {y : DataW H × List MemPlace} {fuel : Nat} (hf : DataW.trod enc Try.prog W base (fun _ => true) held fuel 28 [v] = some y) :
    ∃ (a : Option Addr) (cap : Nat) (zs : List Int), v = .slice a zs.length cap ∧ zs.length ≤ cap ∧ (a = none → cap = 0) ∧ Ints W a zs := by
  rcases open_ints Try.underlying28 Try.underlying3 (by kernel_rfl) hf with ⟨hcs, _⟩ | ⟨a, len', cap', zs, hcs, _, hl, hm, hz, _, hcell, hwz⟩
  · simp only [List.cons.injEq, and_true] at hcs
    subst hcs
    exact ⟨none, 0, [], rfl, Nat.le_refl _, fun _ => rfl, Ints.nil _ _⟩
  · simp only [List.cons.injEq, and_true] at hcs
    subst hcs
    simp only [if_true] at hz
    refine ⟨some a, cap', zs.take len', ?_, ?_, (fun h => nomatch h), ?_⟩
    · simp; omega
    · simp; omega
    · intro h0
      have hl0 : 0 < zs.length := by simp at h0; omega
      obtain ⟨b, off, spot⟩ := a
      have hspot : spot = none := by simpa [Addr.add] using World.cell?_spot (hcell 0 hl0)
      subst hspot
      have cj : ∀ j, j < zs.length → W.cell? ⟨b, off + j, none⟩ = some (.int .i64 (zs.getD j 0)) := fun j hj => by rw [← add_plain]; exact hcell j hj
      refine ⟨b, off, rfl, cell_lt (cj 0 hl0), fun i hi => ?_⟩
      have hi' : i < len' := by simp at hi; omega
      rw [cj i (by omega), List.getD_eq_getElem?_getD, List.getD_eq_getElem?_getD, List.getElem?_take_of_lt hi']
/-- A list of that length, each element with its property. -/
theorem list_pick {α : Type} (p : Nat → α → Prop) : ∀ n, (∀ i, i < n → ∃ x, p i x) → ∃ l : List α, l.length = n ∧ ∀ i (hi : i < l.length), p i l[i]
  | 0, _ => ⟨[], rfl, fun i hi => absurd hi (by simp)⟩
  | n + 1, h => by
    obtain ⟨l, hl, hp⟩ := list_pick p n fun i hi => h i (by omega)
    obtain ⟨x, hx⟩ := h n (by omega)
    refine ⟨l ++ [x], by simp [hl], fun i hi => ?_⟩
    rw [List.length_append] at hi
    by_cases e : i < l.length
    · rw [List.getElem_append_left e]; exact hp i e
    · have : i = n := by simp at hi; omega
      subst this
      rw [List.getElem_append_right (by omega)]
      simpa [hl] using hx
set_option maxRecDepth 100000 in
theorem open_acts {v : Value} {d : DataW H} {ps : List MemPlace} {r : Reach} {b0 : Nat} (hval : Value.okWide Try.prog W r b0 22 v) (hd : DataW.Trod enc Try.prog W base (fun _ => true) held 22 v d ps) :
    ∃ l, Asl W v l := by
  obtain ⟨a0, len, cap, rfl⟩ := okWide_slice Try.underlying22 hval
  obtain ⟨fuel, hf⟩ := hd
  rcases open_slice_fields Try.underlying22 Try.underlying31 (by kernel_rfl) (by kernel_rfl) hf with ⟨hcs, _⟩ | ⟨a, len', cap', m, D, Pl, hcs, hb, hl, hm, hmm, _, hi⟩
  · simp [Value.cells] at hcs
    obtain ⟨rfl, rfl, rfl⟩ := hcs
    exact ⟨[], none, 0, rfl, Nat.le_refl _, Nat.zero_le _, fun i hi => absurd hi (by simp)⟩
  · simp [Value.cells] at hcs
    obtain ⟨rfl, rfl, rfl⟩ := hcs
    simp only [if_true] at hmm
    subst hmm
    have key : ∀ i, i < len → ∃ x : Opn, ∃ g o, a = ⟨g, o, none⟩ ∧ AtO W g o i x := by
      intro i hil
      obtain ⟨ys, n, _, _, _, hg⟩ := hi i (by omega)
      obtain ⟨v0, y0, c0, _, t0⟩ := hg 0 _ rfl
      obtain ⟨v1, y1, c1, _, t1⟩ := hg 1 _ rfl
      obtain ⟨v2, y2, c2, _, t2⟩ := hg 2 _ rfl
      obtain ⟨v3, y3, c3, _, t3⟩ := hg 3 _ rfl
      obtain ⟨p0, e0, _, _⟩ := DataW.trod_int Try.underlying3 t0
      obtain ⟨p1, e1, _, _⟩ := DataW.trod_int Try.underlying3 t1
      obtain ⟨p2, e2, _, _⟩ := DataW.trod_int Try.underlying3 t2
      obtain ⟨a3, cap3, zs, e3, _, hn3, hI⟩ := open_ints_cell t3
      simp only [List.cons.injEq, and_true] at e0 e1 e2
      subst e0 e1 e2 e3
      obtain ⟨zs0, n0, _, _, _, hg0⟩ := hi 0 (by omega)
      obtain ⟨w0, _, z0, _, _⟩ := hg0 0 _ rfl
      obtain ⟨b, off, spot⟩ := a
      have hspot : spot = none := by simpa [Addr.add] using World.cell?_spot z0
      subst hspot
      rw [add_plain] at c0 c1 c2 c3
      have e4 : (Try.prog.cellsOf 31) = 4 := by kernel_rfl
      exact ⟨⟨p0, p1, p2, a3, cap3, zs⟩, b, off, rfl, c0, c1, c2, c3, cell_lt c0, hI, hn3⟩
    obtain ⟨l, hln, hl2⟩ := list_pick (fun i x => ∃ g o, a = ⟨g, o, none⟩ ∧ AtO W g o i x) len key
    refine ⟨l, some a, m, by rw [hln], by omega, hm, fun i hil => ?_⟩
    obtain ⟨g, o, e, hA⟩ := hl2 i hil
    exact ⟨g, o, by rw [e], hA⟩
end
end Go.Proofs.Ytdnpbemkobhlcaa
