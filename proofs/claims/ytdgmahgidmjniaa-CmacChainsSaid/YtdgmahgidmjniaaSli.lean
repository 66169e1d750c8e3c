/-
  Slices of bytes among the arguments, opened: one shape for all of them (nil, empty, with or without room).
-/
import Derived.Test.YtdgmahgidmjniaaBas2
import Derived.ChangeSlices
import Derived.OpenShut
namespace Go.Proofs.Ytdgmahgidmjniaa
open Go.RowKit Go.ChangeShapes Go.WideShapes

/-- The cells at address a are the bytes l. -/
def Byt (w : World) (a : Option Addr) (l : List UInt8) : Prop :=
  0 < l.length → ∃ b o, a = some ⟨b, o, none⟩ ∧ b < w.heap.size ∧ ∀ i, i < l.length → w.cell? ⟨b, o + i, none⟩ = some (.int .u8 (gd l i).toNat)
/-- A slice of bytes that reads as l. -/
def Bsl (w : World) (v : Value) (l : List UInt8) : Prop :=
  ∃ (a : Option Addr) (cap : Nat), v = .slice a l.length cap ∧ l.length ≤ cap ∧ cap ≤ maxLen ∧ (a = none → cap = 0) ∧ Byt w a l
theorem Byt.cells {w w' : World} {a : Option Addr} {l : List UInt8} (h : Byt w a l) (hb : Below w.heap.size w w') : Byt w' a l := by
  intro h0
  obtain ⟨b, o, e, hlt, hc⟩ := h h0
  have hs := hb.size
  exact ⟨b, o, e, by omega, fun i hi => (hb.cell hlt).trans (hc i hi)⟩
theorem Byt.nil (w : World) (a : Option Addr) : Byt w a [] := fun h => absurd h (by simp)
theorem Bsl.below {w w' : World} {v : Value} {l : List UInt8} (h : Bsl w v l) (hb : Below w.heap.size w w') : Bsl w' v l := by
  obtain ⟨a, cap, e, h1, h2, h3, h4⟩ := h
  exact ⟨a, cap, e, h1, h2, h3, h4.cells hb⟩
theorem cell_lt {w : World} {b o : Nat} {s} {v : Value} (h : w.cell? ⟨b, o, s⟩ = some v) : b < w.heap.size := by
  apply Decidable.byContradiction
  intro hn
  have : w.heap[b]? = none := by simp; omega
  unfold World.cell? at h
  simp [this] at h

section
variable {H : Type} {enc : TypeId × Value → H} {P : Program} {W : World} {base : Nat} {sp : Nat → Bool} {held : Bool}
theorem open_bslice {t e : TypeId} {v : Value} {d : DataW H} {ps : List MemPlace} {r : Reach} {b0 : Nat} (ht : P.underlying t = some (.slice e)) (he : P.underlying e = some (.int .u8)) (hs : P.cellsOf e = 1)
    (hval : Value.okWide P W r b0 t v) (hd : DataW.Trod enc P W base (fun _ => true) held t v d ps) : ∃ l : List UInt8, Bsl W v l := by
  obtain ⟨a0, len, cap, rfl⟩ := okWide_slice ht hval
  obtain ⟨fuel, hf⟩ := hd
  rcases open_ints ht he hs hf with ⟨hcs, _⟩ | ⟨a, len', cap', zs, hcs, _, hl, hm, hz, _, hcell, hwz⟩
  · simp [Value.cells] at hcs
    obtain ⟨rfl, rfl, rfl⟩ := hcs
    exact ⟨[], none, 0, rfl, Nat.le_refl _, Nat.zero_le _, fun _ => rfl, Byt.nil _ _⟩
  · simp [Value.cells] at hcs
    obtain ⟨rfl, rfl, rfl⟩ := hcs
    simp only [if_true] at hz
    refine ⟨(zs.take len).map (fun z => UInt8.ofNat z.toNat), some a, cap, ?_, ?_, hm, (fun h => nomatch h), ?_⟩
    · simp; omega
    · simp; omega
    · intro h0
      have hl0 : 0 < zs.length := by simp at h0; omega
      obtain ⟨b, off, spot⟩ := a
      have hspot : spot = none := by simpa [Addr.add] using World.cell?_spot (hcell 0 hl0)
      subst hspot
      have cj : ∀ j, j < zs.length → W.cell? ⟨b, off + j, none⟩ = some (.int .u8 (zs.getD j 0)) := fun j hj => by rw [← add_plain]; exact hcell j hj
      refine ⟨b, off, rfl, cell_lt (cj 0 hl0), fun i hi => ?_⟩
      have hi' : i < len := by simp at hi; omega
      rw [cj i (by omega)]
      have hw := hwz (zs.getD i 0) (by
        have : zs.getD i 0 = zs[i] := by simp [List.getD, show i < zs.length by omega]
        rw [this]; exact List.getElem_mem (by omega))
      have hmin : IntKind.u8.min = 0 := rfl
      have hmax : IntKind.u8.max = 255 := rfl
      simp only [Lit.wf, Bool.and_eq_true, decide_eq_true_eq] at hw
      have e2 : gd ((zs.take len).map (fun z => UInt8.ofNat z.toNat)) i = UInt8.ofNat (zs.getD i 0).toNat := by
        have h1 : i < zs.length := by omega
        simp [Go.Proofs.Ytdgmahgidmjniaa.gd, hi', h1]
      rw [e2]
      simp only [UInt8.toNat_ofNat']
      congr 2
      omega
end
end Go.Proofs.Ytdgmahgidmjniaa
