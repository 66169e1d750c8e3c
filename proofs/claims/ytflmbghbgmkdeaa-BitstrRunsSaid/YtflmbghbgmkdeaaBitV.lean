/-
  Bit strings, walks: joining; the statement BitstrConcat.
-/
import Derived.Test.YtflmbghbgmkdeaaBitX
import Derived.Test.YtflmbghbgmkdeaaBitW
import Derived.Lib.AppendZerosOnto
import Derived.ChangeSlices
import Derived.OpenShut
import Derived.Deep.Slices
import Derived.Deep.Fields
import Derived.ChangeSame
import Derived.Lib.SmallJoins
set_option linter.unusedSimpArgs false
set_option linter.unusedVariables false
namespace Go.Proofs.Ytflmbghbgmkdeaa
open Go.RowKit
attribute [-go_sem] Instr.build

theorem run_grow_nil (ty : TypeId) (k : Nat) (h0 : 0 < k) (hk : k ≤ 100000) (w : World) : ∃ C D, k ≤ C ∧ C ≤ maxLen ∧ D.size = C ∧
    (Builtin.append_ #[23, 3] ty #[.slice none 0 0, .int .i64 (k : Int)]).run Try.prog w = .ok (.slice (some ⟨w.heap.size, 0, none⟩) k C) (w.drew.alloc (.cells D 5)) := by
  obtain ⟨i, hi, hz0, hz1, hz2⟩ := info_parts info5
  have hc : Builtin.nextslicecap (0 + k) 0 = k := by
    simp [Builtin.nextslicecap]
    omega
  have h := Lib.run_append_grow_zeros (P := Try.prog) w 23 3 ty 5 i (.int .u8 0) .i64 .i64 Try.underlying23 Try.underlying3 hi hz0 none 0 0 [] (by simp [Builtin.firstCells]) k h0 (by omega) (by omega) (by omega) (by rw [hz2]; omega) (by rw [hc, hz2]; omega)
  have h1 := grownCap_ge w (0 + k) 0 5
  have h2 := grownCap_le_maxLen w (0 + k) 0 5 (by unfold maxLen; omega)
  rw [Nat.zero_add] at h1 h2
  refine ⟨grownCap w k 0 5, _, h1, h2, ?_, by simpa using h⟩
  simp [Builtin.zeroCells, Value.cells]
  omega
theorem wpList_grow {w : World} {ops : Array Oper} {rest : List Oper} {op : Oper} {a : Act} {Q : Exit → Act → World → Prop} (hgd : op.guard = none) (s x : Operand) (ho : op.op = .call { callee := .builtin .append, args := #[s, x], argTypes := #[23, 3] })
    (k : Nat) (h0 : 0 < k) (hk : k ≤ 100000) (hs : a.eval s = .slice none 0 0) (hx : a.eval x = .int .i64 (k : Int))
    (h : ∀ C D, k ≤ C → C ≤ maxLen → D.size = C → wpList Try.prog ops Q rest (a.put op.dst (.slice (some ⟨w.heap.size, 0, none⟩) k C)) (w.drew.alloc (.cells D 5))) : wpList Try.prog ops Q (op :: rest) a w := by
  obtain ⟨C, D, h1, h2, h3, hr⟩ := run_grow_nil op.type k h0 hk w
  refine wpList_plain hgd fun K hK => ?_
  unfold Oper.wp
  simp [execOp, ho, resolve, invoke, builtin, hs, hx, hr, Result.andThen]
  exact hK _ _ (h C D h1 h2 h3)
set_option maxRecDepth 100000 in
theorem grow_any (k : Nat) (hk : k ≤ 100000) (w : World) :
    Calls Try.prog 43 #[.slice none 0 0, .int .i64 k] w fun e w' => ∃ v, e = .returned v ∧ w'.ownsRow w.heap.size 5 1 v ([] : List UInt8).length (([] : List UInt8).map B) ∧ Below w.heap.size w w' := by
  by_cases h0 : k = 0
  · subst h0
    go_enter Try.func43, Try.ntmps43
    go_wp2
    go_ret
    exact ⟨_, rfl, own_nil _ _, Below.refl _ _⟩
  · have h1 : 0 < k := by omega
    have h2 : (0 : Int) < k := by omega
    have h3 : (k : Int) ≤ 100000 := by omega
    clear h0
    go_enter Try.func43, Try.ntmps43
    go_wp2_with (first
      | (at_builtin; refine wpList_grow rfl (.tmp 20) (.tmp 21) rfl k h1 hk rfl rfl ?_; intro C D g1 g2 g3; have g4 : ¬ C = 0 := (by omega); have g5 : (0 : Int) ≤ C := (by omega))
      | fail)
    go_ret
    exact ⟨_, rfl, World.ownsRow_made w.drew D C (Nat.le_refl _) g2 (by omega), (Below.refl _ w).drew.alloc (Nat.le_refl _) _⟩

/-- A slice of slices of bytes. -/
structure Psl (w : World) (v : Value) (ps : List (Value × List UInt8)) : Prop where
  arr : ∃ a cap, v = .slice a ps.length cap ∧ (0 < ps.length → ∃ b o, a = some ⟨b, o, none⟩ ∧ b < w.heap.size ∧ ∀ i (hi : i < ps.length), w.cell? ⟨b, o + i, none⟩ = some (ps[i]).1)
  all : ∀ p ∈ ps, Bsl w p.1 p.2
theorem Psl.below {w w' : World} {v : Value} {ps : List (Value × List UInt8)} (h : Psl w v ps) (k : Below w.heap.size w w') : Psl w' v ps := by
  refine ⟨?_, fun p hp => (h.all p hp).below k⟩
  obtain ⟨a, cap, e, ha⟩ := h.arr
  refine ⟨a, cap, e, fun h0 => ?_⟩
  obtain ⟨b, o, e', hb, hc⟩ := ha h0
  exact ⟨b, o, e', Nat.lt_of_lt_of_le hb k.size, fun i hi => (k.cell (p := ⟨b, o + i, none⟩) hb).trans (hc i hi)⟩
/-- The bytes of the first k slices. -/
def catL (ps : List (Value × List UInt8)) (k : Nat) : List UInt8 := (ps.take k).flatMap (·.2)
theorem catL_zero (ps : List (Value × List UInt8)) : catL ps 0 = [] := by simp [catL]
theorem catL_succ (ps : List (Value × List UInt8)) (k : Nat) (hk : k < ps.length) : catL ps (k + 1) = catL ps k ++ (ps[k]).2 := by
  unfold catL
  rw [List.take_succ_eq_append_getElem hk, List.flatMap_append]
  simp
theorem catL_le (ps : List (Value × List UInt8)) (k : Nat) (_hk : k ≤ ps.length) : (catL ps k).length ≤ (catL ps ps.length).length := by
  have h1 : catL ps ps.length = catL ps k ++ (ps.drop k).flatMap (·.2) := by
    unfold catL
    rw [← List.flatMap_append, List.take_append_drop, List.take_length]
  rw [h1, List.length_append]; omega
set_option maxRecDepth 100000 in
set_option maxHeartbeats 4000000 in
theorem concat_any (v : Value) (ps : List (Value × List UInt8)) (w : World) (hp : Psl w v ps) (hn : ps.length ≤ 100000) (hT : (catL ps ps.length).length ≤ 100000) :
    Calls Try.prog 37 #[v] w fun e w' => ∃ v', e = .returned v' ∧ w'.ownsRow w.heap.size 5 1 v' (catL ps ps.length).length ((catL ps ps.length).map B) ∧ Below w.heap.size w w' := by
  obtain ⟨i0, hi, hz0, hz1, hz2⟩ := info_parts info5
  obtain ⟨⟨a, cap, rfl, ha⟩, hall⟩ := hp
  have HA := Lib.hid ha
  have HL := Lib.hid hall
  have hni : (ps.length : Int) ≤ 100000 := by omega
  obtain ⟨n, hnn⟩ : ∃ n, n = ps.length := ⟨_, rfl⟩
  have hcs := Lib.hid (fun k hk => catL_succ ps k hk)
  have hcl := Lib.hid (fun k hk => catL_le ps k hk)
  obtain ⟨T, hTT⟩ : ∃ T, T = (catL ps ps.length).length := ⟨_, rfl⟩
  rw [← hTT] at hT hcl
  clear ha hall
  go_enter Try.func37, Try.ntmps37
  go_wp2_with fail
  go_loop [3, 11] (fun t3 t11 => ∃ k : Nat, k ≤ ps.length ∧ t11 = .int .i64 k ∧ t3 = .int .i64 (catL ps k).length) (fun _ t => ps.length - (intOf t).toNat)
  case atStart => exact ⟨0, by omega, rfl, rfl⟩
  case round =>
    obtain ⟨k, hk, rfl, rfl⟩ := hrel
    by_cases hlt : k < ps.length
    · obtain ⟨b, o, rfl, hb, hc⟩ := HA.out (by omega)
      have c0 := hc k hlt
      obtain ⟨ak, pk, ek, h1, h2, h3, h4⟩ := HL.out (ps[k]) (List.getElem_mem hlt)
      rw [ek] at c0
      have hs := hcs.out k hlt
      have hle := hcl.out (k + 1) hlt
      rw [hs, List.length_append] at hle
      have hle' : ((catL ps k).length : Int) + (ps[k]).2.length ≤ 100000 := by omega
      have hki : (k : Int) < ps.length := by omega
      have hnx : (catL ps (k + 1)).length = (catL ps k).length + (ps[k]).2.length := by rw [hs, List.length_append]
      replace hs := Lib.hid hs
      replace hnx := Lib.hid hnx
      clear hc h1 h2 h3 h4 ek
      generalize hx : (catL ps k).length = x at *
      generalize hy : (ps[k]).2.length = y at *
      replace hx := Lib.hid hx
      replace hy := Lib.hid hy
      go_wp2_with fail
      exact ⟨⟨k + 1, by omega, by go_num, by rw [hnx.out]; go_num⟩, by simp [intOf]; omega⟩
    · obtain rfl : k = ps.length := by omega
      rw [← hTT]
      replace hTT := Lib.hid hTT
      have hTi : (T : Int) ≤ 100000 := by omega
      clear hlt hk
      go_wp2_with (first
        | (go_at_call 43; (with_reducible refine (grow_any T hT _).mono ?_); rintro e w1 ⟨v1, rfl, ho1, hb1⟩)
        | fail)
      go_loopw [6, 27] (fun t6 t27 wr => ∃ k : Nat, k ≤ ps.length ∧ t27 = .int .i64 k ∧ wr.ownsRow w.heap.size 5 1 t6 (catL ps k).length ((catL ps k).map B) ∧ Below w.heap.size w wr) (fun _ t _ => ps.length - (intOf t).toNat)
      case atStart => exact ⟨0, by omega, rfl, by rw [catL_zero]; exact ho1, hb1⟩
      case round =>
        clear ho1 hb1
        obtain ⟨k, hk, rfl, hown, hB⟩ := hrel
        by_cases hlt : k < ps.length
        · obtain ⟨b, o, rfl, hb, hc⟩ := HA.out (by omega)
          have c0 := (hB.cell (p := ⟨b, o + k, none⟩) hb).trans (hc k hlt)
          obtain ⟨ak, pk, ek, h1, h2, h3, h4⟩ := HL.out (ps[k]) (List.getElem_mem hlt)
          rw [ek] at c0
          have hs := hcs.out k hlt
          have hle := hcl.out (k + 1) hlt
          rw [hs, List.length_append] at hle
          have hki : (k : Int) < ps.length := by omega
          have H3 := Lib.hid h3
          have H4 := Lib.hid (h4.cells hB)
          replace hs := Lib.hid hs
          replace hle := Lib.hid hle
          clear hc h1 h2 h3 h4 ek
          obtain ⟨m, hm⟩ : ∃ m, m = (ps[k]).2 := ⟨_, rfl⟩
          rw [← hm] at c0 H4 hs hle
          clear hm
          go_wp2_with (first
            | (at_builtin; refine wpList_append_bytes rfl (.tmp 31) (.tmp 32) 23 rfl w.heap.size 5 i0 Try.underlying23 hi hz0 hz1 hz2 _ (catL ps k) rfl hown ak m pk rfl H3.out H4.out ?_ ?_ ?_; (have := hle.out; omega); (exact hB.size); intro v9 w9 h9 g9)
            | fail)
          rw [← hs.out] at h9
          have hB9 := hB.grown g9 hB.size (own_ge hown)
          first
            | exact ⟨⟨k + 1, by omega, by go_num, h9, hB9⟩, by simp [intOf]; omega⟩
            | (refine ⟨?_, by simp [intOf]; omega⟩; (repeat apply Exists.intro); exact ⟨⟨k + 1, by omega, by go_num, h9, hB9⟩, rfl⟩)
        · obtain rfl : k = ps.length := by omega
          go_wp2
          go_ret
          exact ⟨_, rfl, hown, hB⟩
/-- A row of bytes that the law may write over. -/
structure Scr (w : World) (oA : Option Addr) (q base : Nat) : Prop where
  all : 0 < q → ∃ og Cc, oA = some ⟨og, 0, none⟩ ∧ base ≤ og ∧ Blk w og Cc 5 ∧ ∀ j, j < q → ∃ n : Int, Cc[j]? = some (.int .u8 n)
theorem own_scr {w : World} {base : Nat} {v : Value} {l : List UInt8} (h : w.ownsRow base 5 1 v l.length (l.map B)) : ∃ oA oc, v = .slice oA l.length oc ∧ (oA = none → oc = 0) ∧ Byt w oA l ∧ Scr w oA l.length base ∧ (∀ og o, oA = some ⟨og, o, none⟩ → base ≤ og ∧ og < w.heap.size) := by
  have hb := bsl_own h
  obtain ⟨_, ⟨rfl, h1⟩ | ⟨g, cap, cur, rfl, hg, hh, hl, hm, hs, ht⟩⟩ := h
  · exact ⟨none, 0, by rw [h1], fun _ => rfl, by
      obtain ⟨a, c, e, _, _, _, hy⟩ := hb
      rw [h1] at e
      simp only [Value.slice.injEq] at e
      rw [← e.1] at hy; exact hy, ⟨fun h0 => by omega⟩, fun _ _ e => nomatch e⟩
  · refine ⟨_, cap, rfl, (fun e => nomatch e), ?_, ⟨fun _ => ⟨g, cur, rfl, hg, hh, fun j hj => ?_⟩⟩, fun og o e => ?_⟩
    · obtain ⟨a, c, e, _, _, _, hy⟩ := hb
      simp only [Value.slice.injEq] at e
      rw [← e.1] at hy; exact hy
    · rw [Nat.mul_one] at ht
      refine ⟨(gd l j).toNat, ?_⟩
      rw [← Array.getElem?_toList, ← List.getElem?_take_of_lt hj, ht]
      simp [gd, hj, B]
    · simp only [Option.some.injEq, Addr.mk.injEq] at e
      have := lt_of_block hh
      omega
/-- A list of that length, each element with its property. -/
theorem list_pick {α : Type} (p : Nat → α → Prop) : ∀ n, (∀ i, i < n → ∃ x, p i x) → ∃ l : List α, l.length = n ∧ ∀ i (hi : i < l.length), p i l[i]
  | 0, _ => ⟨[], rfl, fun i hi => absurd hi (by simp)⟩
  | n + 1, h => by
    obtain ⟨l, hl, hp⟩ := list_pick p n fun i hi => h i (by omega)
    obtain ⟨x, hx⟩ := h n (by omega)
    refine ⟨l ++ [x], by simp [hl], fun i hi => ?_⟩
    rw [List.length_append] at hi
    by_cases e : i < l.length
    · rw [List.getElem_append_left e]; exact hp i e
    · have : i = n := by simp at hi; omega
      subst this
      rw [List.getElem_append_right (by omega)]
      simpa [hl] using hx
section
open Go.ChangeShapes Go.WideShapes Go.RowKit Go.Deep
variable {H : Type} {enc : TypeId × Value → H} {W : World} {base : Nat} {sp : Nat → Bool} {held : Bool}
theorem open_bsl_cell {v : Value} {y : DataW H × List MemPlace} {fuel : Nat} (hf : DataW.trod enc Try.prog W base (fun _ => true) held fuel 23 [v] = some y) :
    ∃ l, Bsl W v l := by
  rcases open_ints Try.underlying23 Try.underlying5 (by kernel_rfl) hf with ⟨hcs, _⟩ | ⟨a, len, cap, zs, hcs, _, hl, hm, hz, _, hcell, hwz⟩
  · simp only [List.cons.injEq, and_true] at hcs
    subst hcs
    exact ⟨[], none, 0, rfl, Nat.le_refl _, Nat.zero_le _, fun _ => rfl, Byt.nil _ _⟩
  · simp only [List.cons.injEq, and_true] at hcs
    subst hcs
    simp only [if_true] at hz
    have hlen : ((zs.take len).map (fun z => UInt8.ofNat z.toNat)).length = len := by simp; omega
    refine ⟨(zs.take len).map (fun z => UInt8.ofNat z.toNat), some a, cap, by rw [hlen], by rw [hlen]; exact hl, hm, (fun h => nomatch h), ?_⟩
    · intro h0
      have hl0 : 0 < zs.length := by simp at h0; omega
      obtain ⟨b, off, spot⟩ := a
      have hspot : spot = none := by simpa [Addr.add] using World.cell?_spot (hcell 0 hl0)
      subst hspot
      have cj : ∀ j, j < zs.length → W.cell? ⟨b, off + j, none⟩ = some (.int .u8 (zs.getD j 0)) := fun j hj => by rw [← add_plain]; exact hcell j hj
      refine ⟨b, off, rfl, cell_lt (cj 0 hl0), fun i hi => ?_⟩
      have hi' : i < len := by simp at hi; omega
      rw [cj i (by omega)]
      have hw := hwz (zs.getD i 0) (by
        have : zs.getD i 0 = zs[i] := by simp [List.getD, show i < zs.length by omega]
        rw [this]; exact List.getElem_mem (by omega))
      have hmin : IntKind.u8.min = 0 := rfl
      have hmax : IntKind.u8.max = 255 := rfl
      simp only [Lit.wf, Bool.and_eq_true, decide_eq_true_eq] at hw
      have e2 : gd ((zs.take len).map (fun z => UInt8.ofNat z.toNat)) i = UInt8.ofNat (zs.getD i 0).toNat := by
        have h1 : i < zs.length := by omega
        simp [gd, hi', h1]
      rw [e2]
      simp only [UInt8.toNat_ofNat']
      congr 2
      omega
theorem open_bss {v : Value} {d : DataW H} {ps : List MemPlace} {r : Reach} {b0 : Nat} (hval : Value.okWide Try.prog W r b0 51 v) (hd : DataW.Trod enc Try.prog W base (fun _ => true) held 51 v d ps) :
    ∃ l, Psl W v l := by
  obtain ⟨a0, len, cap, rfl⟩ := okWide_slice Try.underlying51 hval
  obtain ⟨fuel, hf⟩ := hd
  rcases open_slice Try.underlying51 hf with ⟨hcs, _⟩ | ⟨a, len', cap', m, n, D, Pl, hcs, hb, hl, hm, hmm, _, hi⟩
  · simp [Value.cells] at hcs
    obtain ⟨rfl, rfl, rfl⟩ := hcs
    exact ⟨[], ⟨none, 0, rfl, fun h => absurd h (by simp)⟩, fun p hp => by cases hp⟩
  · simp [Value.cells] at hcs
    obtain ⟨rfl, rfl, rfl⟩ := hcs
    simp only [if_true] at hmm
    subst hmm
    have h1 : Try.prog.cellsOf 23 = 1 := by kernel_rfl
    obtain ⟨b, off, spot⟩ := a
    have key : ∀ i, i < m → ∃ x : Value × List UInt8, W.cell? ((⟨b, off, spot⟩ : Addr).add i) = some x.1 ∧ Bsl W x.1 x.2 := by
      intro i him
      obtain ⟨cs', hc, ht'⟩ := hi i him
      rw [h1] at hc
      obtain ⟨_, hcl, hat⟩ := World.cells?_some hc
      have h0 := hat 0 (by omega)
      obtain ⟨v, rfl⟩ : ∃ v, cs' = [v] := by
        match cs', hcl with
        | [v], _ => exact ⟨v, rfl⟩
      obtain ⟨l, hl2⟩ := open_bsl_cell ht'
      refine ⟨(v, l), ?_, hl2⟩
      simpa [Addr.add] using h0
    have key2 : ∀ i, i < len → ∃ x : Value × List UInt8, W.cell? ((⟨b, off, spot⟩ : Addr).add i) = some x.1 ∧ Bsl W x.1 x.2 := fun i h => key i (by omega)
    obtain ⟨l, hln, hl2⟩ := list_pick (fun i (x : Value × List UInt8) => W.cell? ((⟨b, off, spot⟩ : Addr).add i) = some x.1 ∧ Bsl W x.1 x.2) len key2
    refine ⟨l, ⟨some ⟨b, off, spot⟩, m, by rw [hln], fun h0 => ?_⟩, fun p hp => ?_⟩
    · have c0 := (hl2 0 h0).1
      have hspot : spot = none := by simpa [Addr.add] using World.cell?_spot c0
      subst hspot
      rw [add_plain] at c0
      refine ⟨b, off, rfl, cell_lt c0, fun i hi => ?_⟩
      have := (hl2 i hi).1
      rwa [add_plain] at this
    · obtain ⟨i, hi, rfl⟩ := List.getElem_of_mem hp
      exact (hl2 i hi).2
end
/-- All slices are bit strings. -/
def okP (ps : List (Value × List UInt8)) : Bool := ps.all (fun p => okb p.2)
theorem okb_append (x y : List UInt8) : okb (x ++ y) = (okb x && okb y) := by simp [okb, List.all_append]
theorem okb_cat (ps : List (Value × List UInt8)) : okb (catL ps ps.length) = okP ps := by
  unfold catL okP
  rw [List.take_length]
  induction ps with
  | nil => rfl
  | cons p r ih => rw [List.flatMap_cons, okb_append, ih, List.all_cons]
theorem okP_get {ps : List (Value × List UInt8)} (h : okP ps = true) (k : Nat) (hk : k < ps.length) : okb (ps[k]).2 = true := by
  unfold okP at h
  rw [List.all_eq_true] at h
  exact h _ (List.getElem_mem hk)
theorem okP_bad {ps : List (Value × List UInt8)} (k : Nat) (hk : k < ps.length) (h : okb (ps[k]).2 = false) : okP ps = false := by
  cases hc : okP ps with
  | false => rfl
  | true => rw [okP_get hc k hk] at h; cases h
theorem okP_all {ps : List (Value × List UInt8)} (h : ∀ k (hk : k < ps.length), okb (ps[k]).2 = true) : okP ps = true := by
  unfold okP
  rw [List.all_eq_true]
  intro x hx
  obtain ⟨i, hi, rfl⟩ := List.getElem_of_mem hx
  exact h i hi
set_option maxRecDepth 100000 in
theorem valid_all (v : Value) (ps : List (Value × List UInt8)) (w : World) (hp : Psl w v ps) (hn : ps.length ≤ 100000) (hT : ∀ p ∈ ps, p.2.length ≤ 100000) :
    Calls Try.prog 34 #[v] w fun e w' => e = .returned (.bool (okP ps)) ∧ w' = w := by
  obtain ⟨⟨a, cap, rfl, ha⟩, hall⟩ := hp
  have HA := Lib.hid ha
  have HL := Lib.hid hall
  have hni : (ps.length : Int) ≤ 100000 := by omega
  have HT := Lib.hid hT
  clear ha hall hT
  go_enter Try.func34, Try.ntmps34
  go_wp2_with fail
  go_loop [7] (fun t7 => ∃ k : Nat, k ≤ ps.length ∧ t7 = .int .i64 k ∧ ∀ i (hi : i < ps.length), i < k → okb (ps[i]).2 = true) (fun t => ps.length - (intOf t).toNat)
  case atStart => exact ⟨0, by omega, rfl, fun i _ h => absurd h (by omega)⟩
  case round =>
    obtain ⟨k, hk, rfl, hpre⟩ := hrel
    by_cases hlt : k < ps.length
    · obtain ⟨b, o, rfl, hb, hc⟩ := HA.out (by omega)
      have c0 := hc k hlt
      obtain ⟨ak, pk, ek, h1, h2, h3, h4⟩ := HL.out (ps[k]) (List.getElem_mem hlt)
      have hl1 := HT.out (ps[k]) (List.getElem_mem hlt)
      rw [ek] at c0
      have hki : (k : Int) < ps.length := by omega
      have hcon := contains_any (ps[k]).2 ak pk w h4 hl1
      have hbad := fun h => okP_bad k hlt h
      have hnx : okb (ps[k]).2 = true → ∀ i (hi : i < ps.length), i < k + 1 → okb (ps[i]).2 = true := fun h i hi hik => by
        rcases Nat.lt_succ_iff_lt_or_eq.1 hik with h' | rfl
        · exact hpre i hi h'
        · exact h
      replace hbad := Lib.hid hbad
      replace hnx := Lib.hid hnx
      clear hpre hc h1 h2 h3 h4 ek
      generalize (ps[k]).2 = y at *
      cases hr : okb y with
      | true =>
        rw [hr, Bool.not_true] at hcon
        have hnx2 := Lib.hid (hnx.out hr)
        clear hr hbad hnx
        go_wp2_with (first
          | (go_at_call 41; (with_reducible refine hcon.mono ?_); rintro e w' ⟨rfl, hw⟩; subst w')
          | fail)
        exact ⟨⟨k + 1, by omega, by go_num, hnx2.out⟩, by simp [intOf]; omega⟩
      | false =>
        rw [hr, Bool.not_false] at hcon
        have hb2 := Lib.hid (hbad.out hr)
        clear hr hbad hnx
        go_wp2_with (first
          | (go_at_call 41; (with_reducible refine hcon.mono ?_); rintro e w' ⟨rfl, hw⟩; subst w')
          | fail)
        go_ret
        rw [hb2.out]
        exact ⟨rfl, rfl⟩
    · obtain rfl : k = ps.length := by omega
      have hb2 := Lib.hid (okP_all (fun i hi => hpre i hi hi))
      clear hpre hlt
      go_wp2
      go_ret
      rw [hb2.out]
      exact ⟨rfl, rfl⟩
theorem cat_part (ps : List (Value × List UInt8)) (M : Nat) (h : ∀ k (hk : k < ps.length), (ps[k]).2.length ≤ M) : ∀ k, k ≤ ps.length → (catL ps k).length ≤ k * M
  | 0, _ => by simp [catL]
  | k + 1, hk => by
    rw [catL_succ ps k (by omega), List.length_append]
    have h1 := cat_part ps M h k (by omega)
    have h2 := h k (by omega)
    rw [Nat.succ_mul]; omega
theorem bconcat_any (v : Value) (ps : List (Value × List UInt8)) (w : World) (hp : Psl w v ps) (hn : ps.length ≤ 100000) (hT : (catL ps ps.length).length ≤ 100000) (hT2 : ∀ p ∈ ps, p.2.length ≤ 100000) :
    Calls Try.prog 29 #[v] w fun e w' => ∃ v', e = .returned (.tuple #[v', .int .i64 (if okP ps then 0 else 3)]) ∧ w'.ownsRow w.heap.size 5 1 v' (if okP ps then catL ps ps.length else []).length ((if okP ps then catL ps ps.length else []).map B) ∧ Below w.heap.size w w' := by
  have h1 := valid_all v ps w hp hn hT2
  have h2 := concat_any v ps w hp hn hT
  cases hr : okP ps with
  | true =>
    rw [hr] at h1
    clear hr
    simp only [if_true]
    go_enter Try.func29, Try.ntmps29
    go_wp2_with (first
      | (go_at_call 34; (with_reducible refine h1.mono ?_); rintro e w' ⟨rfl, hw⟩; subst w')
      | (go_at_call 37; (with_reducible refine h2.mono ?_); rintro e w1 ⟨v1, rfl, ho, hB⟩))
    go_ret2
    exact ⟨_, rfl, ho, hB⟩
  | false =>
    rw [hr] at h1
    clear hr
    simp only [if_false, Bool.false_eq_true]
    go_enter Try.func29, Try.ntmps29
    go_wp2_with (first
      | (go_at_call 34; (with_reducible refine h1.mono ?_); rintro e w' ⟨rfl, hw⟩; subst w'))
    go_ret2
    exact ⟨_, rfl, own_nil _ _, Below.refl _ _⟩
end Go.Proofs.Ytflmbghbgmkdeaa
