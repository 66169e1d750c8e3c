/-
  Slices of operations: opened, read; an operation of either kind; the law's bound on blocks.
-/
import Derived.Test.YthbpmofabcilhaaHarX
import Derived.Test.YthbpmofabcilhaaHarY
import Derived.ChangeSlices
import Derived.OpenShut
import Derived.Deep.Slices
import Derived.Deep.Fields
import Derived.ChangeSame
import Derived.Lib.SmallJoins
set_option linter.unusedSimpArgs false
set_option linter.unusedVariables false
namespace Go.Proofs.Ythbpmofabcilhaa
section
open Go.Joins Go.ChangeShapes Go.WideShapes Go.RowKit Go.Deep
variable {H : Type} {enc : TypeId × Value → H} {P : Program} {w : World} {base : Nat} {spare : Nat → Bool} {held : Bool}
theorem open_slice_fields {t e : TypeId} {fs : Array Field} {fuel : Nat} {cs : List Value} {x : DataW H × List MemPlace} (ht : P.underlying t = some (.slice e)) (he : P.underlying e = some (.struct fs))
    (hone : oneCellFields P fs = true) (hC : P.cellsOf e = fs.size) (h : DataW.trod enc P w base spare held fuel t cs = some x) :
    (cs = [.slice none 0 0] ∧ x = (.nil, [])) ∨
    ∃ (a : Addr) (len cap m : Nat) (D : Nat → DataW H) (Pl : Nat → List MemPlace), cs = [.slice (some a) len cap] ∧ base ≤ a.block ∧ len ≤ cap ∧ cap ≤ maxLen ∧ m = (if spare a.block then cap else len) ∧
      x = (.slice ((List.range len).map D) ((List.range (m - len)).map fun j => D (len + j)), MemPlace.row a (m * fs.size) ++ (List.range m).flatMap Pl) ∧
      ∀ i, i < m → ∃ (ys : List (DataW H × List MemPlace)) (n : Nat), D i = .agg (ys.map (·.1)) ∧ Pl i = ys.flatMap (·.2) ∧ ys.length = fs.size ∧
        ∀ (j : Nat) (f : Field), fs[j]? = some f → ∃ (v : Value) (y : DataW H × List MemPlace), w.cell? (a.add (i * fs.size + j)) = some v ∧ ys[j]? = some y ∧ DataW.trod enc P w base spare held n f.type [v] = some y := by
  rcases open_slice ht h with h0 | ⟨a, len, cap, m, n, D, Pl, hcs, hb, hl, hm, hmm, hx, hi⟩
  · exact .inl h0
  · refine .inr ⟨a, len, cap, m, D, Pl, hcs, hb, hl, hm, hmm, by rw [hC] at hx; exact hx, fun i him => ?_⟩
    obtain ⟨cs', hc, ht'⟩ := hi i him
    rw [hC] at hc
    obtain ⟨ys, n', hn', hy, hlen, hyl, hf⟩ := DataW.trod_struct he ht'
    obtain ⟨_, hcl, hat⟩ := World.cells?_some hc
    simp only [Prod.mk.injEq] at hy
    refine ⟨ys, n', hy.1, hy.2, hyl, fun j f hj => ?_⟩
    obtain ⟨ho, hk⟩ := hone_of hone j f hj
    have hjl : j < fs.size := (Array.getElem?_eq_some_iff.1 hj).1
    have hcell := hat j hjl
    have hv : cs'[j]? = some (cs'[j]'(by omega)) := List.getElem?_eq_getElem (by omega)
    have h1 := hf j f hj
    rw [ho, hk] at h1
    have hone' : (cs'.drop j).take 1 = [cs'[j]'(by omega)] := by
      rw [List.drop_eq_getElem_cons (by omega)]
      rfl
    rw [hone'] at h1
    have hys : ys[j]? = some (ys[j]'(by omega)) := List.getElem?_eq_getElem (by omega)
    refine ⟨_, _, ?_, hys, h1.trans hys⟩
    rw [← Go.Deep.add_add, hcell, hv]
end
open Go.ChangeShapes Go.WideShapes Go.RowKit
attribute [-go_sem] Instr.build

theorem do_any (b : Nat) (v u : Value) (m : Hq) (hm : OkH m) (kd t c : Int) (l : List UInt8) (a : Option Addr) (q cap : Nat) (hq : q = l.length) (w : World) (hP : HP w b v m) (hu : RP w u m) (hb : Byt w a l) (h0 : a = none → cap = 0) (hl : l.length ≤ 1000) (hap : 0 < l.length → ∀ g o, a = some ⟨g, o, none⟩ → g ≠ b) :
    Calls Try.prog 19 #[.pointer (some ⟨b, 0, none⟩), .agg (cellsR u m), .agg #[.int .i64 kd, .slice a q cap, .int .i64 t, .int .i64 c]] w fun e w' => ∃ v' u', e = .returned (.tuple #[.agg (cellsR u' (doS kd t c l m)), .bool true]) ∧ DoI w w' b v' u' (doS kd t c l m) (doS kd t c l m) := by
  unfold doS
  by_cases k0 : kd = 0
  · subst k0; rw [if_pos rfl]; exact do_load b v u m hm t c l a q cap hq w hP hu hb h0 hl hap
  · rw [if_neg k0]
    by_cases k1 : kd = 1
    · subst k1; rw [if_pos rfl]
      by_cases hE : sendE m t = 0
      · exact do_send1 b v u m hm t c l a q cap hq w hP hu hb h0 hl hap hE
      · exact do_send0 b v u m hm t c l a q cap hq w hP hu hb h0 hl hap hE
    · rw [if_neg k1]
      by_cases k2 : kd = 2
      · subst k2; rw [if_pos rfl]; exact do_fb b v u m hm t c l a q cap hq w hP hu hb h0 hl hap
      · rw [if_neg k2]
        by_cases k3 : kd = 3
        · subst k3; rw [if_pos rfl]
          by_cases hst : m.st = 0
          · rw [if_pos hst]; exact do_drop0 b v u m hm t c l a q cap hq w hP hu hb h0 hl hap hst
          · rw [if_neg hst]; exact do_drop1 b v u m hm t c l a q cap hq w hP hu hb h0 hl hap hst
        · rw [if_neg k3]; exact do_other b v u m hm kd t c l a q cap hq w hP hu hb h0 hl hap ⟨k0, k1, k2, k3⟩
/-- One operation of a law's argument. -/
structure Opn where
  kd : Int
  a : Option Addr
  cap : Nat
  l : List UInt8
  t : Int
  c : Int
/-- The cells at index i of a slice of operations. -/
structure AtO (w : World) (g o i : Nat) (x : Opn) : Prop where
  c0 : w.cell? ⟨g, o + i * 4, none⟩ = some (.int .i64 x.kd)
  c1 : w.cell? ⟨g, o + i * 4 + 1, none⟩ = some (.slice x.a x.l.length x.cap)
  c2 : w.cell? ⟨g, o + i * 4 + 2, none⟩ = some (.int .i64 x.t)
  c3 : w.cell? ⟨g, o + i * 4 + 3, none⟩ = some (.int .i64 x.c)
  lt : g < w.heap.size
  by_ : Byt w x.a x.l
  nil : x.a = none → x.cap = 0
/-- A slice that reads as the operations l. -/
def Asl (w : World) (v : Value) (l : List Opn) : Prop :=
  ∃ (a : Option Addr) (cap : Nat), v = .slice a l.length cap ∧ l.length ≤ cap ∧ cap ≤ maxLen ∧ ∀ i (hi : i < l.length), ∃ g o, a = some ⟨g, o, none⟩ ∧ AtO w g o i l[i]
section
variable {H : Type} {enc : TypeId × Value → H} {W : World} {base : Nat} {sp : Nat → Bool} {held : Bool}
theorem open_bytes_cell {v : Value} {y : DataW H × List MemPlace} {fuel : Nat} (hf : DataW.trod enc Try.prog W base (fun _ => true) held fuel 22 [v] = some y) :
    ∃ (a : Option Addr) (cap : Nat) (l : List UInt8), v = .slice a l.length cap ∧ (a = none → cap = 0) ∧ Byt W a l := by
  rcases open_ints Try.underlying22 Try.underlying5 (by kernel_rfl) hf with ⟨hcs, _⟩ | ⟨a, len, cap, zs, hcs, _, hl, hm, hz, _, hcell, hwz⟩
  · simp only [List.cons.injEq, and_true] at hcs
    subst hcs
    exact ⟨none, 0, [], rfl, fun _ => rfl, Byt.nil _ _⟩
  · simp only [List.cons.injEq, and_true] at hcs
    subst hcs
    simp only [if_true] at hz
    refine ⟨some a, cap, (zs.take len).map (fun z => UInt8.ofNat z.toNat), ?_, (fun h => nomatch h), ?_⟩
    · simp; omega
    · intro h0
      have hl0 : 0 < zs.length := by simp at h0; omega
      obtain ⟨b, off, spot⟩ := a
      have hspot : spot = none := by simpa [Addr.add] using World.cell?_spot (hcell 0 hl0)
      subst hspot
      have cj : ∀ j, j < zs.length → W.cell? ⟨b, off + j, none⟩ = some (.int .u8 (zs.getD j 0)) := fun j hj => by rw [← add_plain]; exact hcell j hj
      refine ⟨b, off, rfl, cell_lt (cj 0 hl0), fun i hi => ?_⟩
      have hi' : i < len := by simp at hi; omega
      rw [cj i (by omega)]
      have hw := hwz (zs.getD i 0) (by
        have : zs.getD i 0 = zs[i] := by simp [List.getD, show i < zs.length by omega]
        rw [this]; exact List.getElem_mem (by omega))
      have hmin : IntKind.u8.min = 0 := rfl
      have hmax : IntKind.u8.max = 255 := rfl
      simp only [Lit.wf, Bool.and_eq_true, decide_eq_true_eq] at hw
      have e2 : gd ((zs.take len).map (fun z => UInt8.ofNat z.toNat)) i = UInt8.ofNat (zs.getD i 0).toNat := by
        have h1 : i < zs.length := by omega
        simp [gd, hi', h1]
      rw [e2]
      simp only [UInt8.toNat_ofNat']
      congr 2
      omega
/-- A list of that length, each element with its property. -/
theorem list_pick {α : Type} (p : Nat → α → Prop) : ∀ n, (∀ i, i < n → ∃ x, p i x) → ∃ l : List α, l.length = n ∧ ∀ i (hi : i < l.length), p i l[i]
  | 0, _ => ⟨[], rfl, fun i hi => absurd hi (by simp)⟩
  | n + 1, h => by
    obtain ⟨l, hl, hp⟩ := list_pick p n fun i hi => h i (by omega)
    obtain ⟨x, hx⟩ := h n (by omega)
    refine ⟨l ++ [x], by simp [hl], fun i hi => ?_⟩
    rw [List.length_append] at hi
    by_cases e : i < l.length
    · rw [List.getElem_append_left e]; exact hp i e
    · have : i = n := by simp at hi; omega
      subst this
      rw [List.getElem_append_right (by omega)]
      simpa [hl] using hx
set_option maxRecDepth 100000 in
theorem open_acts {v : Value} {d : DataW H} {ps : List MemPlace} {r : Reach} {b0 : Nat} (hval : Value.okWide Try.prog W r b0 45 v) (hd : DataW.Trod enc Try.prog W base (fun _ => true) held 45 v d ps) :
    ∃ l, Asl W v l := by
  obtain ⟨a0, len, cap, rfl⟩ := okWide_slice Try.underlying45 hval
  obtain ⟨fuel, hf⟩ := hd
  rcases open_slice_fields Try.underlying45 Try.underlying53 (by kernel_rfl) (by kernel_rfl) hf with ⟨hcs, _⟩ | ⟨a, len', cap', m, D, Pl, hcs, hb, hl, hm, hmm, _, hi⟩
  · simp [Value.cells] at hcs
    obtain ⟨rfl, rfl, rfl⟩ := hcs
    exact ⟨[], none, 0, rfl, Nat.le_refl _, Nat.zero_le _, fun i hi => absurd hi (by simp)⟩
  · simp [Value.cells] at hcs
    obtain ⟨rfl, rfl, rfl⟩ := hcs
    simp only [if_true] at hmm
    subst hmm
    have key : ∀ i, i < len → ∃ x : Opn, ∃ g o, a = ⟨g, o, none⟩ ∧ AtO W g o i x := by
      intro i hil
      obtain ⟨ys, n, _, _, _, hg⟩ := hi i (by omega)
      obtain ⟨v0, y0, c0, _, t0⟩ := hg 0 _ rfl
      obtain ⟨v1, y1, c1, _, t1⟩ := hg 1 _ rfl
      obtain ⟨v2, y2, c2, _, t2⟩ := hg 2 _ rfl
      obtain ⟨v3, y3, c3, _, t3⟩ := hg 3 _ rfl
      obtain ⟨p0, e0, _, _⟩ := DataW.trod_int Try.underlying3 t0
      obtain ⟨a1, cap1, l1, e1, hn1, hB1⟩ := open_bytes_cell t1
      obtain ⟨p2, e2, _, _⟩ := DataW.trod_int Try.underlying3 t2
      obtain ⟨p3, e3, _, _⟩ := DataW.trod_int Try.underlying38 t3
      simp only [List.cons.injEq, and_true] at e0 e2 e3
      subst e0 e1 e2 e3
      obtain ⟨zs0, n0, _, _, _, hg0⟩ := hi 0 (by omega)
      obtain ⟨w0, _, z0, _, _⟩ := hg0 0 _ rfl
      obtain ⟨b, off, spot⟩ := a
      have hspot : spot = none := by simpa [Addr.add] using World.cell?_spot z0
      subst hspot
      rw [add_plain] at c0 c1 c2 c3
      exact ⟨⟨p0, a1, cap1, l1, p2, p3⟩, b, off, rfl, c0, c1, c2, c3, cell_lt c0, hB1, hn1⟩
    obtain ⟨l, hln, hl2⟩ := list_pick (fun i x => ∃ g o, a = ⟨g, o, none⟩ ∧ AtO W g o i x) len key
    refine ⟨l, some a, m, by rw [hln], by omega, hm, fun i hil => ?_⟩
    obtain ⟨g, o, e, hA⟩ := hl2 i hil
    exact ⟨g, o, by rw [e], hA⟩
end
/-- The blocks are short enough. -/
def fewB (l : List Opn) : Bool := decide (l.length ≤ 100) && l.all (fun x => decide (x.l.length ≤ 100))
theorem few_any (w : World) (v : Value) (l : List Opn) (h : Asl w v l) : Calls Try.prog 17 #[v] w fun e w' => e = .returned (.bool (fewB l)) ∧ w' = w := by
  obtain ⟨a, cap, rfl, hcap, _, hat⟩ := h
  obtain ⟨q, hq⟩ : ∃ q, q = l.length := ⟨_, rfl⟩
  have hfew : (∀ i (hi : i < l.length), l[i].l.length ≤ 100) → q ≤ 100 → fewB l = true := fun h1 h2 => by
    unfold fewB
    rw [← hq, decide_eq_true h2, Bool.true_and, List.all_eq_true]
    intro x hx
    obtain ⟨i, hi, rfl⟩ := List.getElem_of_mem hx
    exact decide_eq_true (h1 i hi)
  have hbad : ∀ i (hi : i < l.length), 100 < l[i].l.length → fewB l = false := fun i hi h => by
    cases hb : fewB l with
    | false => rfl
    | true =>
      unfold fewB at hb
      rw [Bool.and_eq_true, List.all_eq_true] at hb
      have := of_decide_eq_true (hb.2 _ (List.getElem_mem hi))
      omega
  have hlong : 100 < q → fewB l = false := fun h => by
    unfold fewB
    rw [← hq, decide_eq_false (by omega), Bool.false_and]
  replace hat := Lib.hid hat
  rw [← hq] at hcap ⊢
  have HQ := Lib.hid hq
  replace hfew := Lib.hid hfew
  replace hbad := Lib.hid hbad
  clear hq
  by_cases hl : 100 < q
  · rw [hlong hl]
    clear hlong
    go_enter Try.func17, Try.ntmps17
    go_wp2
    go_ret
    exact ⟨rfl, rfl⟩
  · clear hlong
    go_enter Try.func17, Try.ntmps17
    go_wp2
    go_loopw [3] (fun t wr => ∃ k : Nat, k ≤ q ∧ t = .int .i64 k ∧ (∀ i (hi : i < l.length), i < k → l[i].l.length ≤ 100) ∧ wr = w) (fun t _ => q - (intOf t).toNat)
    case atStart => exact ⟨0, by omega, rfl, fun i hi h => absurd h (by omega), rfl⟩
    case round =>
      obtain ⟨k, hk, rfl, hp, hwr⟩ := hrel
      replace hwr := hwr.symm
      subst hwr
      by_cases hlt : k < q
      · obtain ⟨g, o, rfl, hA⟩ := hat.out k (by rw [← HQ.out]; exact hlt)
        have hb := hbad.out k (by rw [← HQ.out]; exact hlt)
        have hnx : (l[k]'(by rw [← HQ.out]; exact hlt)).l.length ≤ 100 → ∀ i (hi : i < l.length), i < k + 1 → l[i].l.length ≤ 100 := fun h i hi hik => by
          rcases Nat.lt_succ_iff_lt_or_eq.1 hik with h' | rfl
          · exact hp i hi h'
          · exact h
        have c1 := hA.c1
        replace hb := Lib.hid hb
        replace hnx := Lib.hid hnx
        clear hA hp
        generalize (l[k]'(by rw [← HQ.out]; exact hlt)).l.length = y at *
        by_cases hy : 100 < y
        · have hbb := Lib.hid (hb.out hy)
          go_wp2
          go_ret
          rw [hbb.out]
          exact ⟨rfl, rfl⟩
        · replace hnx := Lib.hid (hnx.out (by omega))
          go_wp2
          exact ⟨⟨k + 1, by omega, by go_num, hnx.out, trivial⟩, by simp [intOf]; omega⟩
      · obtain rfl : q = k := by omega
        have hb := Lib.hid (hfew.out (fun i hi => hp i hi (by rw [HQ.out]; exact hi)) (by omega))
        clear hp
        go_wp2
        go_ret
        rw [hb.out]
        exact ⟨rfl, rfl⟩
end Go.Proofs.Ythbpmofabcilhaa
