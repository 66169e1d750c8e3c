/-
  Fractions among the arguments, opened: by value, in a slice; slices of integers.
-/
import Derived.Test.YtdnpbemkobhlcaaRatM
import Derived.Deep.Slices
import Derived.Deep.Fields
import Derived.ChangeSame
import Derived.Lib.SmallJoins
import Derived.OpenShut
import Derived.ChangeSlices
namespace Go.Proofs.Ytdnpbemkobhlcaa
open Go.Joins Go.ChangeShapes Go.WideShapes Go.RowKit Go.Deep
section
variable {H : Type} {enc : TypeId × Value → H} {P : Program} {w : World} {base : Nat} {spare : Nat → Bool} {held : Bool}
theorem open_slice_fields {t e : TypeId} {fs : Array Field} {fuel : Nat} {cs : List Value} {x : DataW H × List MemPlace} (ht : P.underlying t = some (.slice e)) (he : P.underlying e = some (.struct fs))
    (hone : oneCellFields P fs = true) (hC : P.cellsOf e = fs.size) (h : DataW.trod enc P w base spare held fuel t cs = some x) :
    (cs = [.slice none 0 0] ∧ x = (.nil, [])) ∨
    ∃ (a : Addr) (len cap m : Nat) (D : Nat → DataW H) (Pl : Nat → List MemPlace), cs = [.slice (some a) len cap] ∧ base ≤ a.block ∧ len ≤ cap ∧ cap ≤ maxLen ∧ m = (if spare a.block then cap else len) ∧
      x = (.slice ((List.range len).map D) ((List.range (m - len)).map fun j => D (len + j)), MemPlace.row a (m * fs.size) ++ (List.range m).flatMap Pl) ∧
      ∀ i, i < m → ∃ (ys : List (DataW H × List MemPlace)) (n : Nat), D i = .agg (ys.map (·.1)) ∧ Pl i = ys.flatMap (·.2) ∧ ys.length = fs.size ∧
        ∀ (j : Nat) (f : Field), fs[j]? = some f → ∃ (v : Value) (y : DataW H × List MemPlace), w.cell? (a.add (i * fs.size + j)) = some v ∧ ys[j]? = some y ∧ DataW.trod enc P w base spare held n f.type [v] = some y := by
  rcases open_slice ht h with h0 | ⟨a, len, cap, m, n, D, Pl, hcs, hb, hl, hm, hmm, hx, hi⟩
  · exact .inl h0
  · refine .inr ⟨a, len, cap, m, D, Pl, hcs, hb, hl, hm, hmm, by rw [hC] at hx; exact hx, fun i him => ?_⟩
    obtain ⟨cs', hc, ht'⟩ := hi i him
    rw [hC] at hc
    obtain ⟨ys, n', hn', hy, hlen, hyl, hf⟩ := DataW.trod_struct he ht'
    obtain ⟨_, hcl, hat⟩ := World.cells?_some hc
    simp only [Prod.mk.injEq] at hy
    refine ⟨ys, n', hy.1, hy.2, hyl, fun j f hj => ?_⟩
    obtain ⟨ho, hk⟩ := hone_of hone j f hj
    have hjl : j < fs.size := (Array.getElem?_eq_some_iff.1 hj).1
    have hcell := hat j hjl
    have hv : cs'[j]? = some (cs'[j]'(by omega)) := List.getElem?_eq_getElem (by omega)
    have h1 := hf j f hj
    rw [ho, hk] at h1
    have hone' : (cs'.drop j).take 1 = [cs'[j]'(by omega)] := by
      rw [List.drop_eq_getElem_cons (by omega)]
      rfl
    rw [hone'] at h1
    have hys : ys[j]? = some (ys[j]'(by omega)) := List.getElem?_eq_getElem (by omega)
    refine ⟨_, _, ?_, hys, h1.trans hys⟩
    rw [← Go.Deep.add_add, hcell, hv]
end

theorem u64_nat {a : Int} (h : (Lit.int .u64 a).wf = true) : ∃ n : Nat, a = n ∧ n < 18446744073709551616 := by
  have hmin : IntKind.u64.min = 0 := rfl
  have hmax : IntKind.u64.max = 18446744073709551615 := rfl
  simp only [Lit.wf, Bool.and_eq_true, decide_eq_true_eq] at h
  exact ⟨a.toNat, by omega, by omega⟩
/-- A slice of fractions that reads as l. -/
def Fsl (w : World) (v : Value) (l : List (Nat × Nat)) : Prop :=
  ∃ (a : Option Addr) (cap : Nat), v = .slice a l.length cap ∧ l.length ≤ cap ∧ cap ≤ maxLen ∧ (a = none → cap = 0) ∧ Frc w a l ∧ G64 l
/-- A slice of integers that reads as xs. -/
def Isl (w : World) (v : Value) (xs : List Int) : Prop :=
  ∃ (a : Option Addr) (cap : Nat), v = .slice a xs.length cap ∧ xs.length ≤ cap ∧ cap ≤ maxLen ∧ (a = none → cap = 0) ∧ Ints w a xs ∧ ∀ x ∈ xs, (Lit.int .i64 x).wf = true
section
variable {H : Type} {enc : TypeId × Value → H} {W : World} {base : Nat} {sp : Nat → Bool} {held : Bool}
set_option maxRecDepth 100000 in
theorem open_frac {v : Value} {d : DataW H} {ps : List MemPlace} {r : Reach} {b0 : Nat} (hval : Value.okWide Try.prog W r b0 56 v) (hd : DataW.Trod enc Try.prog W base sp held 56 v d ps) :
    ∃ p : Nat × Nat, v = .agg (fV p) ∧ F64 p := by
  obtain ⟨v0, v1, y0, y1, n, rfl, _, _, h0, h1⟩ := open_agg2 Try.underlying56 (by kernel_rfl) (by kernel_rfl) hval hd
  obtain ⟨a, e0, _, w0⟩ := DataW.trod_int Try.underlying48 h0
  obtain ⟨b, e1, _, w1⟩ := DataW.trod_int Try.underlying48 h1
  obtain ⟨x, rfl, hx⟩ := u64_nat w0
  obtain ⟨y, rfl, hy⟩ := u64_nat w1
  simp only [List.cons.injEq, and_true] at e0 e1
  subst e0 e1
  exact ⟨(x, y), rfl, ⟨hx, hy⟩⟩
/-- What a cell holds, as a number. -/
def natAt (W : World) (a : Addr) : Nat := match W.cell? a with | some (.int _ n) => n.toNat | _ => 0
theorem natAt_of {W : World} {a : Addr} {k : IntKind} {n : Nat} (h : W.cell? a = some (.int k n)) : natAt W a = n := by unfold natAt; rw [h]; simp
set_option maxRecDepth 100000 in
theorem open_fracs {v : Value} {d : DataW H} {ps : List MemPlace} {r : Reach} {b0 : Nat} (hval : Value.okWide Try.prog W r b0 62 v) (hd : DataW.Trod enc Try.prog W base (fun _ => true) held 62 v d ps) :
    ∃ l, Fsl W v l := by
  obtain ⟨a0, len, cap, rfl⟩ := okWide_slice Try.underlying62 hval
  obtain ⟨fuel, hf⟩ := hd
  rcases open_slice_fields Try.underlying62 Try.underlying56 (by kernel_rfl) (by kernel_rfl) hf with ⟨hcs, _⟩ | ⟨a, len', cap', m, D, Pl, hcs, hb, hl, hm, hmm, _, hi⟩
  · simp [Value.cells] at hcs
    obtain ⟨rfl, rfl, rfl⟩ := hcs
    exact ⟨[], none, 0, rfl, Nat.le_refl _, Nat.zero_le _, fun _ => rfl, Frc.nil _ _, G64.of (by simp)⟩
  · simp [Value.cells] at hcs
    obtain ⟨rfl, rfl, rfl⟩ := hcs
    simp only [if_true] at hmm
    subst hmm
    have key : ∀ i, i < len → ∃ x y : Nat, x < 18446744073709551616 ∧ y < 18446744073709551616 ∧ W.cell? (a.add (i * 2 + 0)) = some (.int .u64 x) ∧ W.cell? (a.add (i * 2 + 1)) = some (.int .u64 y) := by
      intro i hil
      obtain ⟨ys, n, _, _, _, hg⟩ := hi i (by omega)
      obtain ⟨v0, y0, c0, _, t0⟩ := hg 0 _ rfl
      obtain ⟨v1, y1, c1, _, t1⟩ := hg 1 _ rfl
      obtain ⟨p, e0, _, w0⟩ := DataW.trod_int Try.underlying48 t0
      obtain ⟨q, e1, _, w1⟩ := DataW.trod_int Try.underlying48 t1
      obtain ⟨x, rfl, hx⟩ := u64_nat w0
      obtain ⟨y, rfl, hy⟩ := u64_nat w1
      simp only [List.cons.injEq, and_true] at e0 e1
      subst e0 e1
      exact ⟨x, y, hx, hy, c0, c1⟩
    refine ⟨(List.range len).map fun i => (natAt W (a.add (i * 2)), natAt W (a.add (i * 2 + 1))), some a, m, ?_, ?_, hm, (fun h => nomatch h), ?_, ?_⟩
    · simp
    · simpa using hl
    · intro h0
      have hl0 : 0 < len := by simpa using h0
      obtain ⟨b, off, spot⟩ := a
      obtain ⟨x0, y0, _, _, c0, _⟩ := key 0 hl0
      have hspot : spot = none := by simpa [Addr.add] using World.cell?_spot c0
      subst hspot
      refine ⟨b, off, rfl, cell_lt (s := none) (o := off) (by simpa [Addr.add] using c0), fun i hi => ?_⟩
      have hi : i < len := by simpa using hi
      obtain ⟨x, y, _, _, c0, c1⟩ := key i hi
      have e : gf ((List.range len).map fun i => (natAt W ((⟨b, off, none⟩ : Addr).add (i * 2)), natAt W ((⟨b, off, none⟩ : Addr).add (i * 2 + 1)))) i = (x, y) := by
        unfold gf
        rw [List.getD_eq_getElem?_getD, List.getElem?_map, List.getElem?_range hi]
        simp only [Option.map_some, Option.getD_some, Prod.mk.injEq]
        exact ⟨natAt_of (k := .u64) (by simpa using c0), natAt_of c1⟩
      rw [e]
      rw [add_plain] at c0 c1
      exact ⟨c0, by rw [Nat.add_assoc]; exact c1⟩
    · refine G64.of fun p hp => ?_
      simp only [List.mem_map, List.mem_range] at hp
      obtain ⟨i, hi, rfl⟩ := hp
      obtain ⟨x, y, hx, hy, c0, c1⟩ := key i hi
      have e0 := natAt_of (k := .u64) (a := a.add (i * 2)) (W := W) (n := x) (by simpa using c0)
      have e1 := natAt_of c1
      exact ⟨by simp only [e0]; exact hx, by simp only [e1]; exact hy⟩
set_option maxRecDepth 100000 in
theorem open_ints' {t e : TypeId} {v : Value} {d : DataW H} {ps : List MemPlace} {r : Reach} {b0 : Nat} (ht : Try.prog.underlying t = some (.slice e)) (he : Try.prog.underlying e = some (.int .i64)) (hs : Try.prog.cellsOf e = 1)
    (hval : Value.okWide Try.prog W r b0 t v) (hd : DataW.Trod enc Try.prog W base (fun _ => true) held t v d ps) : ∃ zs : List Int, Isl W v zs := by
  obtain ⟨a0, len, cap, rfl⟩ := okWide_slice ht hval
  obtain ⟨fuel, hf⟩ := hd
  rcases open_ints ht he hs hf with ⟨hcs, _⟩ | ⟨a, len', cap', zs, hcs, _, hl, hm, hz, _, hcell, hwz⟩
  · simp [Value.cells] at hcs
    obtain ⟨rfl, rfl, rfl⟩ := hcs
    exact ⟨[], none, 0, rfl, Nat.le_refl _, Nat.zero_le _, fun _ => rfl, Ints.nil _ _, by simp⟩
  · simp [Value.cells] at hcs
    obtain ⟨rfl, rfl, rfl⟩ := hcs
    simp only [if_true] at hz
    refine ⟨zs.take len, some a, cap, ?_, ?_, hm, (fun h => nomatch h), ?_, fun x hx => hwz x (List.mem_of_mem_take hx)⟩
    · simp; omega
    · simp; omega
    · intro h0
      have hl0 : 0 < zs.length := by simp at h0; omega
      obtain ⟨b, off, spot⟩ := a
      have hspot : spot = none := by simpa [Addr.add] using World.cell?_spot (hcell 0 hl0)
      subst hspot
      have cj : ∀ j, j < zs.length → W.cell? ⟨b, off + j, none⟩ = some (.int .i64 (zs.getD j 0)) := fun j hj => by rw [← add_plain]; exact hcell j hj
      refine ⟨b, off, rfl, cell_lt (cj 0 hl0), fun i hi => ?_⟩
      have hi' : i < len := by simp at hi; omega
      rw [cj i (by omega), List.getD_eq_getElem?_getD, List.getD_eq_getElem?_getD, List.getElem?_take_of_lt hi']
end
end Go.Proofs.Ytdnpbemkobhlcaa
