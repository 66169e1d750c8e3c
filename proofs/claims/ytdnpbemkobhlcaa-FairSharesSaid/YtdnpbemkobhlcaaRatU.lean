/-
  Fractions, the laws' walks: Order returns every index once, greater fractions first.
-/
import Derived.Test.YtdnpbemkobhlcaaRatT
import Derived.Laws.AppendOwn
import Derived.Laws.AppendOwnNone
namespace Go.Proofs.Ytdnpbemkobhlcaa
open Go.RowKit
attribute [-go_sem] Instr.build

/-- The cells of fractions. -/
def fcells : List (Nat × Nat) → List Value
  | [] => []
  | p :: l => .int .u64 (p.1 : Nat) :: .int .u64 (p.2 : Nat) :: fcells l
theorem fcells_length : ∀ l : List (Nat × Nat), (fcells l).length = l.length * 2
  | [] => rfl
  | p :: l => by simp [fcells, fcells_length l]; omega
theorem fcells_one : ∀ (l : List (Nat × Nat)), ∀ u ∈ fcells l, u.oneCell' = true
  | [], u, h => by cases h
  | p :: l, u, h => by
    simp only [fcells, List.mem_cons] at h
    rcases h with rfl | rfl | h
    · rfl
    · rfl
    · exact fcells_one l u h
theorem fcells_get : ∀ (l : List (Nat × Nat)) (i : Nat), i < l.length → (fcells l)[i * 2]? = some (.int .u64 (gf l i).1) ∧ (fcells l)[i * 2 + 1]? = some (.int .u64 (gf l i).2)
  | [], i, h => by simp at h
  | p :: l, 0, _ => ⟨rfl, rfl⟩
  | p :: l, i + 1, h => by
    have ih := fcells_get l i (by simpa using h)
    have e : gf (p :: l) (i + 1) = gf l i := by unfold gf; simp
    rw [e]
    rw [show (i + 1) * 2 = i * 2 + 2 by omega]
    exact ih
theorem frc_cells {w : World} {p : Addr} {l : List (Nat × Nat)} (hF : Frc w (some p) l) : ∀ j u, (fcells l)[j]? = some u → w.cell? (p.add j) = some u := by
  intro j u hj
  have hlt := (List.getElem?_eq_some_iff.1 hj).1
  rw [fcells_length] at hlt
  obtain ⟨b, o, e, _, hc⟩ := hF (by omega)
  simp only [Option.some.injEq] at e
  subst e
  obtain ⟨c0, c1⟩ := hc (j / 2) (by omega)
  obtain ⟨g0, g1⟩ := fcells_get l (j / 2) (by omega)
  rw [Go.WideShapes.add_plain]
  by_cases h : j % 2 = 0
  · have e : j / 2 * 2 = j := by omega
    rw [e] at c0 g0
    rw [c0, ← g0, hj]
  · have e : j / 2 * 2 + 1 = j := by omega
    rw [e] at g1
    rw [show o + j / 2 * 2 + 1 = o + j by omega] at c1
    rw [c1, ← g1, hj]
theorem frc_own {w : World} {base cap : Nat} {a : Option Addr} {l : List (Nat × Nat)} (h : w.ownsRow base 56 2 (.slice a l.length cap) l.length (fcells l)) : Frc w a l := by
  intro h0
  obtain ⟨_, ⟨hn, _⟩ | ⟨g, cap', cur, e, _, hh, hl, hm, hs, ht⟩⟩ := h
  · simp only [Value.slice.injEq] at hn
    omega
  · simp only [Value.slice.injEq] at e
    obtain ⟨rfl, _, rfl⟩ := e
    have hlt : g < w.heap.size := lt_of_block hh
    refine ⟨g, 0, rfl, hlt, fun i hi => ?_⟩
    obtain ⟨g0, g1⟩ := fcells_get l i hi
    have at' : ∀ o v, (fcells l)[o]? = some v → w.cell? ⟨g, 0 + o, none⟩ = some v := fun o v hv => by
      have ho := (List.getElem?_eq_some_iff.1 hv).1
      rw [fcells_length] at ho
      have e1 : w.cell? ⟨g, 0 + o, none⟩ = cur[o]? := by simp [World.cell?, hh]
      rw [e1, ← Array.getElem?_toList, ← List.getElem?_take_of_lt ho, ht]
      exact hv
    exact ⟨by simpa using at' _ _ g0, by simpa [Nat.add_assoc] using at' _ _ g1⟩
theorem own_slice_form {w : World} {base e size n : Nat} {v : Value} {xs : List Value} (h : w.ownsRow base e size v n xs) : ∃ a cap, v = .slice a n cap ∧ (∀ b o, a = some ⟨b, o, none⟩ → base ≤ b) ∧ (a = none → n = 0 ∧ cap = 0) ∧ n ≤ cap ∧ cap ≤ maxLen := by
  obtain ⟨_, ⟨rfl, rfl⟩ | ⟨g, cap, cur, rfl, hb, _, hl, hm, _, _⟩⟩ := h
  · exact ⟨none, 0, rfl, (fun _ _ h => nomatch h), fun _ => ⟨rfl, rfl⟩, Nat.le_refl _, Nat.zero_le _⟩
  · refine ⟨_, cap, rfl, fun b o e => ?_, (fun h => nomatch h), hl, hm⟩
    simp only [Option.some.injEq, Addr.mk.injEq] at e
    omega
theorem info56 : (Try.prog.info? 56).map (fun i => (i.zero, i.size, i.bytes)) = some (some (.agg #[.int .u64 0, .int .u64 0]), 2, 16) := by kernel_rfl
theorem below_grown {w w' : World} (h : w.grownBy w' none) : Below w.heap.size w w' := ⟨h.os, h.tape, h.output, h.size, fun i hi => h.block i hi (by simp)⟩
/-- Fractions appended to nothing: an own row that reads as they do. -/
theorem wpList_append_fracs {w : World} {ops : Array Oper} {rest : List Oper} {o : Oper} {a : Act} {Q : Exit → Act → World → Prop} (hgd : o.guard = none) (s x : Operand)
    (ho : o.op = .call { callee := .builtin .append, args := #[s, x], argTypes := #[62, 62] }) (hs : a.eval s = .slice none 0 0)
    (ad : Option Addr) (l : List (Nat × Nat)) (c : Nat) (n : Nat) (hn : n = l.length) (hx : a.eval x = .slice ad n c) (h0 : ad = none → c = 0) (hF : Frc w ad l) (hlen : l.length ≤ 1000)
    (h : ∀ a' cap w', (∀ b o, a' = some ⟨b, o, none⟩ → w.heap.size ≤ b) → Frc w' a' l → Below w.heap.size w w' → wpList Try.prog ops Q rest (a.put o.dst (.slice a' n cap)) w') : wpList Try.prog ops Q (o :: rest) a w := by
  subst hn
  obtain ⟨i, hi, hz⟩ := Option.map_eq_some_iff.1 info56
  simp only [Prod.mk.injEq] at hz
  obtain ⟨hz0, hz1, hz2⟩ := hz
  cases ad with
  | none =>
    have hl : l = [] := by
      cases l with
      | nil => rfl
      | cons p r => obtain ⟨b, o, e, _⟩ := hF (by simp); cases e
    subst hl
    rw [h0 rfl] at hx
    refine wpList_append_own_none hgd s x 62 ho w.heap.size 56 i 2 Try.underlying62 hi (.slice none 0 0) 0 [] hs (World.ownsRow_nil _ _ _ _) hx ?_
    exact h none 0 w (fun b o e => by cases e) (Frc.nil _ _) (Below.refl _ _)
  | some p =>
    refine wpList_append_own w hgd s x 62 ho w.heap.size 56 i _ 2 16 Try.underlying62 hi hz0 hz1 hz2 rfl (by decide) (.slice none 0 0) 0 [] hs (World.ownsRow_nil _ _ _ _) p l.length c (fcells l) hx (fcells_length l) (frc_cells hF) (fcells_one l)
      (by unfold maxLen; omega) (by omega) (Nat.le_refl _) (fun v' w' h1 h2 _ => ?_)
    rw [Nat.zero_add, List.nil_append] at h1
    obtain ⟨a', cap, rfl, hb, _⟩ := own_slice_form h1
    exact h a' cap w' hb (frc_own h1) (below_grown h2)
/-- Rows of truth values. -/
def bV (s : Nat → Bool) (n : Nat) : Array Value := ((List.range n).map fun i => Value.bool (s i)).toArray
theorem bV_size (s : Nat → Bool) (n : Nat) : (bV s n).size = n := by simp [bV]
theorem bV_get (s : Nat → Bool) (n i : Nat) (h : i < n) : (bV s n)[i]? = some (.bool (s i)) := by simp [bV, h]
def updB (s : Nat → Bool) (k : Nat) : Nat → Bool := fun i => if i = k then true else s i
theorem bV_set (s : Nat → Bool) (n i : Nat) : (bV s n).setIfInBounds i (.bool true) = bV (updB s i) n := by
  apply Array.ext_getElem?
  intro j
  rw [Array.getElem?_setIfInBounds]
  by_cases hj : j < n
  · rw [bV_get (updB s i) _ _ hj]
    by_cases hij : i = j
    · subst hij; rw [if_pos rfl, if_pos (by rw [bV_size]; exact hj)]; unfold updB; rw [if_pos rfl]
    · rw [if_neg hij, bV_get s _ _ hj]; unfold updB; rw [if_neg (Ne.symm hij)]
  · have e : (bV (updB s i) n)[j]? = none := by rw [Array.getElem?_eq_none]; rw [bV_size]; omega
    rw [e]
    have e2 : (bV s n)[j]? = none := by rw [Array.getElem?_eq_none]; rw [bV_size]; omega
    by_cases hij : i = j
    · rw [if_pos hij, if_neg (by rw [bV_size]; omega)]
    · rw [if_neg hij, e2]
theorem made_bools (n : Nat) : madeCells #[Value.bool false] n = bV (fun _ => false) n := by
  apply Array.toList_inj.1
  rw [toList_madeCells_one]
  simp [bV, List.map_const']
theorem elem66 : Try.prog.underlying 66 = some (.slice 4) := by kernel_rfl
theorem info4 : (Try.prog.info? 4).map (fun i => (i.zero, i.size, i.bytes)) = some (some (.bool false), 1, 1) := by kernel_rfl
theorem mk_bools (n : Nat) (hn : n ≤ 100000) (w : World) : (Instr.makeSlice 66 (.int .i64 (n : Int)) (.int .i64 (n : Int))).run Try.prog w = .ok (.slice (some ⟨w.heap.size, 0, none⟩) n n) (w.alloc (.cells (bV (fun _ => false) n) 4)) := by
  rw [run_make_row' 66 4 (.bool false) 1 elem66 info4 rfl .i64 .i64 n (by omega) (by omega) w, made_bools]
/-- The first of an order is the best. -/
theorem first_best (l : List (Nat × Nat)) (hgood : ∀ i, ¬ Bad (gf l i)) {g : Nat → Nat} {n : Nat} (hn : 0 < n) (hs : Same (fun i => i) g 0 n) (ht : Srt (ltF (gf l)) g 0 n) : bst l n = g 0 := by
  have hb := bst_lt l n
  obtain ⟨j, _, j2, e⟩ := hs.2.1 (bst l n) (Nat.zero_le _) (by omega)
  obtain ⟨i0, _, i2, e0⟩ := hs.1 0 (Nat.le_refl _) hn
  have e : g j = bst l n := e
  have e0 : g 0 = i0 := e0
  obtain ⟨b1, b2⟩ := bst_best l hgood n (g 0) (by rw [e0]; exact i2)
  by_cases hj : j = 0
  · rw [← e, hj]
  · have := ht 0 j (Nat.le_refl _) (by omega) j2
    rw [e] at this
    have n1 := cmpF_neg (gf l (g 0)) (gf l (bst l n))
    rcases this with h | ⟨h, k⟩
    · omega
    · have := b2 (by omega)
      omega
/-- An order names no index twice. -/
theorem order_inj {p : Nat → Nat × Nat} {g : Nat → Nat} {n : Nat} (ht : Srt (ltF p) g 0 n) {i j : Nat} (hij : i < j) (hj : j < n) : g i ≠ g j := by
  intro e
  have := ht i j (Nat.zero_le _) hij hj
  rw [e] at this
  rcases this with h | ⟨_, h⟩
  · rw [cmpF_self] at h; omega
  · omega
/-- Which indices the first k of an order are. -/
def seenF (g : Nat → Nat) : Nat → Nat → Bool
  | 0 => fun _ => false
  | k + 1 => updB (seenF g k) (g k)
theorem seenF_new (g : Nat → Nat) (x : Nat) : ∀ k, (∀ i, i < k → g i ≠ x) → seenF g k x = false
  | 0, _ => rfl
  | k + 1, h => by
    unfold seenF updB
    rw [if_neg (fun e => h k (Nat.lt_succ_self k) e.symm)]
    exact seenF_new g x k fun i hi => h i (by omega)
theorem sgn_order {p : Nat → Nat × Nat} {x y : Nat} (h : ltF p x y) : 0 < cmpF (p x) (p y) ∨ (cmpF (p x) (p y) = 0 ∧ x < y) := by
  have n := cmpF_neg (p x) (p y)
  rcases h with h | ⟨h, k⟩
  · left; omega
  · right; omega
/-- What the law's loops read: the arguments' cells, the own row's. -/
structure Read (w : World) (l : List (Nat × Nat)) (a a' : Option Addr) (W : World) : Prop where
  hB : Below w.heap.size w W
  own : Frc W a' l
theorem Read.drew {w W : World} {l : List (Nat × Nat)} {a a' : Option Addr} (h : Read w l a a' W) : Read w l a a' W.drew := ⟨h.hB.drew, h.own⟩
theorem Read.below {w W W' : World} {l : List (Nat × Nat)} {a a' : Option Addr} (h : Read w l a a' W) (hb : Below W.heap.size W W') : Read w l a a' W' := ⟨bnext h.hB hb, h.own.below hb⟩
/-- The cells of one fraction, in the arguments and in the own row. -/
theorem Read.at {w W : World} {l : List (Nat × Nat)} {b o b' o' : Nat} (h : Read w l (some ⟨b, o, none⟩) (some ⟨b', o', none⟩) W) (hF : Frc w (some ⟨b, o, none⟩) l) (i : Nat) (hi : i < l.length) :
    W.cell? ⟨b, o + i * 2, none⟩ = some (.int .u64 (gf l i).1) ∧ W.cell? ⟨b, o + i * 2 + 1, none⟩ = some (.int .u64 (gf l i).2) ∧ W.cell? ⟨b', o' + i * 2, none⟩ = some (.int .u64 (gf l i).1) ∧ W.cell? ⟨b', o' + i * 2 + 1, none⟩ = some (.int .u64 (gf l i).2) := by
  obtain ⟨x, y, e, hx, hc⟩ := hF (by omega)
  simp only [Option.some.injEq, Addr.mk.injEq, and_true] at e
  obtain ⟨rfl, rfl⟩ := e
  obtain ⟨x', y', e', _, hc'⟩ := h.own (by omega)
  simp only [Option.some.injEq, Addr.mk.injEq, and_true] at e'
  obtain ⟨rfl, rfl⟩ := e'
  exact ⟨(h.hB.cell (p := ⟨b, o + i * 2, none⟩) hx).trans (hc i hi).1, (h.hB.cell (p := ⟨b, o + i * 2 + 1, none⟩) hx).trans (hc i hi).2, hc' i hi⟩
theorem Frc.some {w : World} {a : Option Addr} {l : List (Nat × Nat)} (h : Frc w a l) (h0 : 0 < l.length) : ∃ b o, a = some ⟨b, o, none⟩ := by
  obtain ⟨b, o, e, _⟩ := h h0
  exact ⟨b, o, e⟩
set_option maxHeartbeats 4000000 in
set_option maxRecDepth 100000 in
theorem orders_bad (l : List (Nat × Nat)) (hbadl : anyBad l = true) (a : Option Addr) (cap : Nat) (hnil : a = none → cap = 0) (w : World) (hF : Frc w a l) (h50 : l.length ≤ 50) (n : Nat) (hn : n = l.length) :
    Calls Try.prog 9 #[.slice a n cap] w fun e w' => e = .returned (.bool true) ∧ Below w.heap.size w w' := by
  have hk := known_any
  have hord := fun (a' : Option Addr) (cap' : Nat) (W : World) h => order_bad l hbadl a' cap' W h (by omega)
  rw [← hn] at hord
  have hbad := fun i => lawbad_any (gf l i)
  have hex : ∀ k, k = n → (∀ i, i < k → ¬ Bad (gf l i)) → False := fun k hk' h => by
    subst hk'
    rw [hn] at h
    rw [anyBad_none l h] at hbadl; cases hbadl
  have hat := fun (b o b' o' : Nat) (W : World) (h : Read w l (some ⟨b, o, none⟩) (some ⟨b', o', none⟩) W) (hF : Frc w (some ⟨b, o, none⟩) l) (i : Nat) (hi : i < n) => h.at hF i (by omega)
  have hso : 0 < n → ∃ b o, a = some ⟨b, o, none⟩ := fun h => hF.some (by omega)
  have hso' : ∀ W (a' : Option Addr), Frc W a' l → 0 < n → ∃ b o, a' = some ⟨b, o, none⟩ := fun W a' hf h => hf.some (by omega)
  replace hex := Lib.hid hex
  replace hat := Lib.hid hat
  replace hso := Lib.hid hso
  replace hso' := Lib.hid hso'
  have hn50 : n ≤ 50 := by omega
  have HF := Lib.hid hF
  have HNIL := Lib.hid hnil
  have HN := Lib.hid hn
  have h1000 := Lib.hid (show l.length ≤ 1000 by omega)
  clear hbadl h50 hF hn hnil
  go_enter Try.func9, Try.ntmps9
  go_wp2_with (first
    | (at_builtin; refine wpList_append_fracs rfl _ _ rfl rfl a l cap n HN.out rfl HNIL.out HF.out h1000.out ?_; intro a' cap' w1 _ hF1 hB1)
    | (go_at_call 36; (with_reducible refine (hord _ _ _ hF1).mono ?_); rintro e w2 ⟨rfl, hw2⟩))
  have hR : Read w l a a' w2 := ⟨bnext hB1 hw2, hF1.below hw2⟩
  clear hF1 hB1 hw2 hord
  go_loopw [6] (fun t wr => ∃ k : Nat, k ≤ n ∧ t = .int .i64 k ∧ Read w l a a' wr) (fun t _ => n - (intOf t).toNat)
  case atStart => exact ⟨0, by omega, rfl, hR⟩
  case round =>
    clear hR
    obtain ⟨k, hk', rfl, hR⟩ := hrel
    by_cases hlt : k < n
    · obtain ⟨b, o, rfl⟩ := hso.out (by omega)
      obtain ⟨b', o', rfl⟩ := hso'.out _ _ hR.own (by omega)
      obtain ⟨c0, c1, c2, c3⟩ := hat.out _ _ _ _ _ hR HF.out k hlt
      generalize gf l k = p at *
      go_wp2
      go_region
      go_wp2
      exact ⟨⟨k + 1, by omega, by go_num, hR.drew⟩, by simp [intOf]; omega⟩
    · obtain rfl : k = n := by omega
      go_wp2
      go_loopw [7] (fun t wr => ∃ j : Nat, j ≤ k ∧ t = .int .i64 j ∧ (∀ i, i < j → ¬ Bad (gf l i)) ∧ Read w l a a' wr) (fun t _ => k - (intOf t).toNat)
      case atStart => exact ⟨0, by omega, rfl, fun i hi => absurd hi (by omega), hR⟩
      case round =>
        clear hR
        obtain ⟨j, hj, rfl, hp, hR⟩ := hrel
        by_cases hlt2 : j < k
        · obtain ⟨b, o, rfl⟩ := hso.out (by omega)
          obtain ⟨b', o', rfl⟩ := hso'.out _ _ hR.own (by omega)
          obtain ⟨c0, c1, c2, c3⟩ := hat.out _ _ _ _ _ hR HF.out j hlt2
          have hb1 := hbad j
          have hno : ¬ Bad (gf l j) → ∀ i, i < j + 1 → ¬ Bad (gf l i) := fun h i hi => by
            rcases Nat.lt_succ_iff_lt_or_eq.1 hi with h' | rfl
            · exact hp i h'
            · exact h
          replace hno := Lib.hid hno
          generalize gf l j = p at *
          unfold fV at hb1
          clear hp
          by_cases hbit : Bad p
          · rw [decide_eq_true hbit] at hb1
            clear hno hbit
            go_wp2_with (first
              | (go_at_call 33; (with_reducible refine (hb1 _).mono ?_); rintro e w3 ⟨rfl, hw3⟩; have hB2 := bnext hR.hB hw3)
              | (go_at_call 31; (with_reducible refine (hk _).mono ?_); rintro e w8 ⟨rfl, hw8⟩; have hB8 := bnext hB2 hw8))
            go_ret
            exact ⟨rfl, hB8⟩
          · rw [decide_eq_false hbit] at hb1
            replace hno := Lib.hid (hno.out hbit)
            clear hbit
            go_wp2_with (go_at_call 33; (with_reducible refine (hb1 _).mono ?_); rintro e w3 ⟨rfl, hw3⟩)
            exact ⟨⟨j + 1, by omega, by go_num, hno.out, hR.below hw3⟩, by simp [intOf]; omega⟩
        · exact (hex.out j (by omega) hp).elim
/-- The rows of the last loop: the order, which indices have been seen. -/
structure Rows4 (w : World) (ob sb n : Nat) (g : Nat → Nat) (k : Nat) (W : World) : Prop where
  hB : Below w.heap.size w W
  o : Blk W ob (rowV g n) 3
  s : Blk W sb (bV (seenF g k) n) 4
theorem Rows4.drew {w W : World} {ob sb n k : Nat} {g : Nat → Nat} (h : Rows4 w ob sb n g k W) : Rows4 w ob sb n g k W.drew := ⟨h.hB.drew, h.o.drew, h.s.drew⟩
theorem Rows4.below {w W W' : World} {ob sb n k : Nat} {g : Nat → Nat} (h : Rows4 w ob sb n g k W) (hb : Below W.heap.size W W') : Rows4 w ob sb n g k W' := ⟨bnext h.hB hb, h.o.below hb h.o.lt, h.s.below hb h.s.lt⟩
theorem Rows4.set {w W : World} {ob sb n k : Nat} {g : Nat → Nat} (h : Rows4 w ob sb n g k W) (hne : ob ≠ sb) (hs : w.heap.size ≤ sb) : Rows4 w ob sb n g (k + 1) (W.setCell ⟨sb, g k, none⟩ (.bool true)) :=
  ⟨below_only h.hB (Only.setCell (b := sb) W (g k) (.bool true)) hs, h.o.set_other (p := ⟨sb, g k, none⟩) hne _, by have := h.s.set (g k) (.bool true); rw [bV_set] at this; exact this⟩
theorem frc_at {w W : World} {l : List (Nat × Nat)} {b o : Nat} (hF : Frc w (some ⟨b, o, none⟩) l) (h : Below w.heap.size w W) (i : Nat) (hi : i < l.length) :
    W.cell? ⟨b, o + i * 2, none⟩ = some (.int .u64 (gf l i).1) ∧ W.cell? ⟨b, o + i * 2 + 1, none⟩ = some (.int .u64 (gf l i).2) := by
  obtain ⟨x, y, e, hx, hc⟩ := hF (by omega)
  simp only [Option.some.injEq, Addr.mk.injEq, and_true] at e
  obtain ⟨rfl, rfl⟩ := e
  exact ⟨(h.cell (p := ⟨b, o + i * 2, none⟩) hx).trans (hc i hi).1, (h.cell (p := ⟨b, o + i * 2 + 1, none⟩) hx).trans (hc i hi).2⟩
theorem frc_lt {w : World} {l : List (Nat × Nat)} {b o : Nat} (hF : Frc w (some ⟨b, o, none⟩) l) (h : 0 < l.length) : b < w.heap.size := by
  obtain ⟨x, y, e, hx, _⟩ := hF h
  simp only [Option.some.injEq, Addr.mk.injEq, and_true] at e
  obtain ⟨rfl, rfl⟩ := e
  exact hx
/-- The six cells that are read between two indices. -/
structure Six (w : World) (ob b m o x y : Nat) (p q : Nat × Nat) : Prop where
  e0 : w.cell? ⟨ob, m, none⟩ = some (.int .i64 (y : Nat))
  e1 : w.cell? ⟨ob, m + 1, none⟩ = some (.int .i64 (x : Nat))
  c0 : w.cell? ⟨b, o + y * 2, none⟩ = some (.int .u64 (q.1 : Nat))
  c1 : w.cell? ⟨b, o + y * 2 + 1, none⟩ = some (.int .u64 (q.2 : Nat))
  c2 : w.cell? ⟨b, o + x * 2, none⟩ = some (.int .u64 (p.1 : Nat))
  c3 : w.cell? ⟨b, o + x * 2 + 1, none⟩ = some (.int .u64 (p.2 : Nat))
theorem Six.all {w : World} {ob b m o x y : Nat} {p q : Nat × Nat} (h : Six w ob b m o x y p q) : w.cell? ⟨ob, m, none⟩ = some (.int .i64 (y : Nat)) ∧ w.cell? ⟨ob, m + 1, none⟩ = some (.int .i64 (x : Nat)) ∧ w.cell? ⟨b, o + y * 2, none⟩ = some (.int .u64 (q.1 : Nat)) ∧ w.cell? ⟨b, o + y * 2 + 1, none⟩ = some (.int .u64 (q.2 : Nat)) ∧ w.cell? ⟨b, o + x * 2, none⟩ = some (.int .u64 (p.1 : Nat)) ∧ w.cell? ⟨b, o + x * 2 + 1, none⟩ = some (.int .u64 (p.2 : Nat)) := ⟨h.e0, h.e1, h.c0, h.c1, h.c2, h.c3⟩
theorem Six.below {w w' : World} {ob b m o x y : Nat} {p q : Nat × Nat} (h : Six w ob b m o x y p q) (hw : Below w.heap.size w w') (h1 : ob < w.heap.size) (h2 : b < w.heap.size) : Six w' ob b m o x y p q :=
  ⟨(hw.cell h1).trans h.e0, (hw.cell h1).trans h.e1, (hw.cell h2).trans h.c0, (hw.cell h2).trans h.c1, (hw.cell h2).trans h.c2, (hw.cell h2).trans h.c3⟩
/-- What is asked of an order, index by index. -/
structure OrdF (l : List (Nat × Nat)) (n : Nat) (g : Nat → Nat) : Prop where
  lt : ∀ k, k < n → g k < n
  new : ∀ k, k < n → seenF g k (g k) = false
  asc : ∀ k, k + 1 < n → 0 < cmpF (gf l (g k)) (gf l (g (k + 1))) ∨ (cmpF (gf l (g k)) (gf l (g (k + 1))) = 0 ∧ g k < g (k + 1))
  first : 0 < n → bst l n = g 0
theorem ordF (l : List (Nat × Nat)) (hgood : ∀ i, ¬ Bad (gf l i)) {g : Nat → Nat} {n : Nat} (hs : Same (fun i => i) g 0 n) (ht : Srt (ltF (gf l)) g 0 n) : OrdF l n g :=
  ⟨fun k hk => by
    obtain ⟨j, _, j2, e⟩ := hs.1 k (Nat.zero_le _) hk
    rw [e]; exact j2, fun k hk => seenF_new g (g k) k fun i hi => order_inj ht hi hk, fun k hk => sgn_order (ht k (k + 1) (Nat.zero_le _) (Nat.lt_succ_self _) hk), fun h => first_best l hgood h hs ht⟩
set_option maxHeartbeats 8000000 in
set_option maxRecDepth 100000 in
theorem orders_ok (l : List (Nat × Nat)) (h64 : G64 l) (hany : anyBad l = false) (a : Option Addr) (cap : Nat) (hnil : a = none → cap = 0) (w : World) (hF : Frc w a l) (h50 : l.length ≤ 50) (n : Nat) (hn : n = l.length) :
    Calls Try.prog 9 #[.slice a n cap] w fun e w' => e = .returned (.bool true) ∧ Below w.heap.size w w' := by
  have hk := known_any
  have hgood := anyBad_false l hany
  have hord : ∀ (a' : Option Addr) (cap' : Nat) (W : World), Frc W a' l → Calls Try.prog 36 #[.slice a' n cap'] W fun e w' => (∃ b g, e = .returned (.tuple #[.slice (some ⟨b, 0, none⟩) n n, .int .i64 0]) ∧ W.heap.size ≤ b ∧ Blk w' b (rowV g n) 3 ∧ OrdF l n g) ∧ Below W.heap.size W w' := fun a' cap' W h => by
    rw [hn]
    refine (order_ok l h64 hany a' cap' W h (by omega)).mono ?_
    rintro e w' ⟨⟨b, g, e1, e2, e3, e4, e5⟩, hB⟩
    exact ⟨⟨b, g, e1, e2, e3, ordF l hgood e4 e5⟩, hB⟩
  have hbest : 0 < n → ∀ W, Below w.heap.size w W → Calls Try.prog 35 #[.slice a n cap] W fun e w' => e = .returned (.tuple #[.int .i64 (bst l n : Nat), .int .i64 0]) ∧ Below W.heap.size W w' := fun h W hB => by
    have := best_any l h64 a cap W (hF.below hB) (by omega)
    rw [if_neg (by rw [hany]; intro k; rcases k with k | k; (omega); (cases k)), if_neg (by omega), hany, if_neg (by simp), ← hn] at this
    exact this
  have hbad : ∀ i w, Calls Try.prog 33 #[.agg (fV (gf l i))] w fun e w' => e = .returned (.bool false) ∧ Below w.heap.size w w' := fun i w => by
    have := lawbad_any (gf l i) w
    rwa [decide_eq_false (hgood i)] at this
  have hcmp := fun i j => lawcmp_any (gf l i) (gf l j) (h64.all _) (h64.all _)
  have hat := fun (b o b' o' : Nat) (W : World) (h : Read w l (some ⟨b, o, none⟩) (some ⟨b', o', none⟩) W) (hF : Frc w (some ⟨b, o, none⟩) l) (i : Nat) (hi : i < n) => h.at hF i (by omega)
  have hat2 := fun (b o : Nat) (W : World) (hF : Frc w (some ⟨b, o, none⟩) l) (h : Below w.heap.size w W) (i : Nat) (hi : i < n) => frc_at hF h i (by omega)
  have hso : 0 < n → ∃ b o, a = some ⟨b, o, none⟩ := fun h => hF.some (by omega)
  have hso' : ∀ W (a' : Option Addr), Frc W a' l → 0 < n → ∃ b o, a' = some ⟨b, o, none⟩ := fun W a' hf h => hf.some (by omega)
  have hn50 : n ≤ 50 := by omega
  have hmk := mk_bools n (by omega)
  replace hat := Lib.hid hat
  replace hat2 := Lib.hid hat2
  replace hso := Lib.hid hso
  replace hso' := Lib.hid hso'
  replace hbest := Lib.hid hbest
  replace hbad := Lib.hid hbad
  replace hcmp := Lib.hid hcmp
  have HF := Lib.hid hF
  have HNIL := Lib.hid hnil
  have HN := Lib.hid hn
  have h1000 := Lib.hid (show l.length ≤ 1000 by omega)
  clear hgood h50 hF hn hnil hany
  go_enter Try.func9, Try.ntmps9
  go_wp2_with (first
    | (at_builtin; refine wpList_append_fracs rfl _ _ rfl rfl a l cap n HN.out rfl HNIL.out HF.out h1000.out ?_; intro a' cap' w1 _ hF1 hB1)
    | (go_at_call 36; (with_reducible refine (hord _ _ _ hF1).mono ?_); rintro e w2 ⟨⟨ob, g, rfl, hob, hbo, hO⟩, hw2⟩))
  have hR : Read w l a a' w2 := ⟨bnext hB1 hw2, hF1.below hw2⟩
  have hob' : w.heap.size ≤ ob := by have := hB1.size; omega
  have HO := Lib.hid hO
  clear hF1 hB1 hw2 hord hO hob
  go_loopw [6] (fun t wr => ∃ k : Nat, k ≤ n ∧ t = .int .i64 k ∧ Read w l a a' wr ∧ Blk wr ob (rowV g n) 3) (fun t _ => n - (intOf t).toNat)
  case atStart => exact ⟨0, by omega, rfl, hR, hbo⟩
  case round =>
    clear hR hbo
    obtain ⟨k, hk', rfl, hR, hbo⟩ := hrel
    by_cases hlt : k < n
    · obtain ⟨b, o, rfl⟩ := hso.out (by omega)
      obtain ⟨b', o', rfl⟩ := hso'.out _ _ hR.own (by omega)
      obtain ⟨c0, c1, c2, c3⟩ := hat.out _ _ _ _ _ hR HF.out k hlt
      generalize gf l k = p at *
      clear HO
      go_wp2
      go_region
      go_wp2
      exact ⟨⟨k + 1, by omega, by go_num, hR.drew, hbo.drew⟩, by simp [intOf]; omega⟩
    · obtain rfl : k = n := by omega
      go_wp2
      go_loopw [7] (fun t wr => ∃ j : Nat, j ≤ k ∧ t = .int .i64 j ∧ Read w l a a' wr ∧ Blk wr ob (rowV g k) 3) (fun t _ => k - (intOf t).toNat)
      case atStart => exact ⟨0, by omega, rfl, hR, hbo⟩
      case round =>
        clear hR hbo
        obtain ⟨j, hj, rfl, hR, hbo⟩ := hrel
        by_cases hlt2 : j < k
        · obtain ⟨b, o, rfl⟩ := hso.out (by omega)
          obtain ⟨b', o', rfl⟩ := hso'.out _ _ hR.own (by omega)
          obtain ⟨c0, c1, c2, c3⟩ := hat.out _ _ _ _ _ hR HF.out j hlt2
          have hb1 := hbad.out j
          generalize gf l j = p at *
          unfold fV at hb1
          clear HO
          go_wp2_with (go_at_call 33; (with_reducible refine (hb1 _).mono ?_); rintro e w3 ⟨rfl, hw3⟩)
          exact ⟨⟨j + 1, by omega, by go_num, hR.below hw3, hbo.below hw3 hbo.lt⟩, by simp [intOf]; omega⟩
        · obtain rfl : j = k := by omega
          have e0 : ((j : Int) != j) = false := by simp
          have hB := hR.hB
          have hs1 : w.heap.size ≤ wr.heap.size := hB.size
          have hs2 : ob ≠ wr.heap.size := by have := hbo.lt; omega
          have r4 : Rows4 w ob wr.heap.size j g 0 (wr.alloc (.cells (bV (fun _ => false) j) 4)) := ⟨below_new hB _, hbo.alloc _, Blk.new _ _ _⟩
          clear hR hbo hB
          go_wp2
          generalize wr.alloc (.cells (bV (fun _ => false) j) 4) = V at *
          generalize wr.heap.size = sb at *
          go_loopw [9] (fun t wr => ∃ k : Nat, k ≤ j ∧ t = .int .i64 k ∧ Rows4 w ob sb j g k wr) (fun t _ => j - (intOf t).toNat)
          case atStart => exact ⟨0, by omega, rfl, r4⟩
          case round =>
            clear r4
            obtain ⟨k, hk', rfl, r4⟩ := hrel
            by_cases hlt3 : k < j
            · have hx := HO.out.lt k hlt3
              have hy := HO.out.new k hlt3
              have d0 := r4.o.row k hlt3
              have d1 := r4.s.cell (g k)
              rw [bV_get _ _ _ hx, hy] at d1
              have f1 := r4.s.frozen (g k)
              have r5 := r4.set hs2 hs1
              clear hy
              by_cases k0 : k = 0
              · subst k0
                clear HO
                generalize g 0 = x at *
                have i1 : ¬ ((x : Int) < 0) := by omega
                have i2 : ¬ ((j : Int) ≤ x) := by omega
                go_wp2
                exact ⟨⟨1, by omega, rfl, r5⟩, by simp [intOf]; omega⟩
              · obtain ⟨m, rfl⟩ : ∃ m, k = m + 1 := ⟨k - 1, by omega⟩
                have hz := HO.out.lt m (by omega)
                have hasc := HO.out.asc m hlt3
                have d2 := r5.o.row m (by omega)
                have d3 := r5.o.row (m + 1) hlt3
                obtain ⟨b, o, rfl⟩ := hso.out (by omega)
                have lbw : b < w.heap.size := frc_lt HF.out (by have := HN.out; omega)
                obtain ⟨c0, c1⟩ := hat2.out _ _ _ HF.out r5.hB (g m) hz
                obtain ⟨c2, c3⟩ := hat2.out _ _ _ HF.out r5.hB (g (m + 1)) hx
                have hb1 := hcmp.out (g m) (g (m + 1))
                clear HO
                generalize g (m + 1) = x at *
                generalize g m = y at *
                generalize gf l x = p at *
                generalize gf l y = q at *
                generalize cmpF q p = c at *
                unfold fV at hb1
                have i1 : ¬ ((x : Int) < 0) := by omega
                have i2 : ¬ ((j : Int) ≤ x) := by omega
                have i3 : IntKind.i64.wrap ((m : Int) + 1 - 1) = m := by rw [show (m : Int) + 1 - 1 = m by omega]; exact IntWalk.i64_in _ (by omega)
                have i3' : IntKind.i64.wrap (m : Int) = m := IntWalk.i64_in _ (by omega)
                have i6 : (0 : Int) ≤ (m : Int) := by omega
                have i7 : (m : Int) < (j : Int) := by omega
                have i8 : (0 : Int) ≤ (m : Int) + 1 := by omega
                have i9 : (m : Int) + 1 < (j : Int) := by omega
                have j1 : (0 : Int) ≤ (x : Int) := by omega
                have j2 : (x : Int) < (j : Int) := by omega
                have j3 : (0 : Int) ≤ (y : Int) := by omega
                have j4 : (y : Int) < (j : Int) := by omega
                have lb : b < (wr.setCell ⟨sb, x, none⟩ (.bool true)).drew.heap.size := by have h1 := r5.hB.size; have h2 := lbw; exact Nat.lt_of_lt_of_le h2 h1
                rcases hasc with hc | ⟨hc, hxy⟩
                · have i4 : ¬ c < 0 := by omega
                  have i5 : (c == 0) = false := by rw [beq_eq_false_iff_ne]; omega
                  go_wp2
                  generalize wr.setCell ⟨sb, x, none⟩ (.bool true) = V4 at *
                  have s0 := Six.mk (w := V4.drew) d2 d3 c0 c1 c2 c3
                  replace s0 := s0.all
                  have r5d := r5.drew
                  have lo := r5d.o.lt
                  go_region_held3 (fun w' => w'.cell? ⟨ob, m, none⟩ = some (.int .i64 (y : Nat)) ∧ w'.cell? ⟨ob, m + 1, none⟩ = some (.int .i64 (x : Nat)) ∧ w'.cell? ⟨b, o + y * 2, none⟩ = some (.int .u64 (q.1 : Nat)) ∧ w'.cell? ⟨b, o + y * 2 + 1, none⟩ = some (.int .u64 (q.2 : Nat)) ∧ w'.cell? ⟨b, o + x * 2, none⟩ = some (.int .u64 (p.1 : Nat)) ∧ w'.cell? ⟨b, o + x * 2 + 1, none⟩ = some (.int .u64 (p.2 : Nat))) (first | assumption)
                    (first | (go_at_call 34; (with_reducible refine (hb1 _).mono ?_); rintro e w5 ⟨rfl, hw5⟩; have r6 := r5d.below hw5; have s1 := (Six.mk (w := V4.drew) d2 d3 c0 c1 c2 c3).below hw5 lo lb; have d4 := s1.e0; have d5 := s1.e1; replace s1 := s1.all))
                  clear s0 s1 hw5
                  go_wp2
                  have tt : True := trivial
                  refine wp_region_held_drew (S := fun _ => True) (by kernel_rfl) tt (fun hHeld => ?_)
                  refine wpAnyH_takeD 0 (some 125) (v := (.int .i64 c)) rfl rfl (by kernel_rfl) (by kernel_rfl) (by kernel_rfl) (fun _ _ _ h => h) (yieldsIf_calc rfl (fun w => by unfold execOp; go_simp)) (by assumption) ?_; try simp only [Act.put, List.setIfInBounds_toArray, List.set_cons_zero, List.set_cons_succ]
                  refine wpAnyH_takeD 1 (some 126) (v := (.bool false)) rfl rfl (by kernel_rfl) (by kernel_rfl) (by kernel_rfl) (fun _ _ _ h => h) (yieldsIf_calc rfl (fun w => by unfold execOp; go_simp)) (by assumption) ?_; try simp only [Act.put, List.setIfInBounds_toArray, List.set_cons_zero, List.set_cons_succ]
                  refine wpAnyH_takeD 2 (some 127) (v := (.bool false)) rfl rfl (by kernel_rfl) (by kernel_rfl) (by kernel_rfl) (fun _ _ _ h => h) (yieldsIf_calc rfl (fun w => by unfold execOp; go_simp)) (by assumption) ?_; try simp only [Act.put, List.setIfInBounds_toArray, List.set_cons_zero, List.set_cons_succ]
                  refine wpAnyH_takeD 3 (some 128) (v := (.int .i64 c)) rfl rfl (by kernel_rfl) (by kernel_rfl) (by kernel_rfl) (fun _ _ _ h => h) (yieldsIf_calc rfl (fun w => by unfold execOp; go_simp)) (by assumption) ?_; try simp only [Act.put, List.setIfInBounds_toArray, List.set_cons_zero, List.set_cons_succ]
                  refine wpAnyH_takeD 4 (some 129) (v := (.bool false)) rfl rfl (by kernel_rfl) (by kernel_rfl) (by kernel_rfl) (fun _ _ _ h => h) (yieldsIf_calc rfl (fun w => by unfold execOp; go_simp)) (by assumption) ?_; try simp only [Act.put, List.setIfInBounds_toArray, List.set_cons_zero, List.set_cons_succ]
                  refine wpAnyH_takeD 5 (some 130) (v := (.bool false)) rfl rfl (by kernel_rfl) (by kernel_rfl) (by kernel_rfl) (fun _ _ _ h => h) (yieldsIf_calc rfl (fun w => by unfold execOp; go_simp)) (by assumption) ?_; try simp only [Act.put, List.setIfInBounds_toArray, List.set_cons_zero, List.set_cons_succ]
                  refine wpAnyH_takeD 6 (some 131) (v := undef) rfl rfl (by kernel_rfl) (by kernel_rfl) (by kernel_rfl) (fun _ _ _ h => h) (.inr ⟨rfl, rfl⟩) (by assumption) ?_; try simp only [Act.put, List.setIfInBounds_toArray, List.set_cons_zero, List.set_cons_succ]
                  refine wpAnyH_takeD 7 (some 132) (v := undef) rfl rfl (by kernel_rfl) (by kernel_rfl) (by kernel_rfl) (fun _ _ _ h => h) (.inr ⟨rfl, rfl⟩) (by assumption) ?_; try simp only [Act.put, List.setIfInBounds_toArray, List.set_cons_zero, List.set_cons_succ]
                  refine wpAnyH_takeD 8 (some 133) (v := undef) rfl rfl (by kernel_rfl) (by kernel_rfl) (by kernel_rfl) (fun _ _ _ h => h) (.inr ⟨rfl, rfl⟩) (by assumption) ?_; try simp only [Act.put, List.setIfInBounds_toArray, List.set_cons_zero, List.set_cons_succ]
                  refine wpAnyH_takeD 9 (some 134) (v := undef) rfl rfl (by kernel_rfl) (by kernel_rfl) (by kernel_rfl) (fun _ _ _ h => h) (.inr ⟨rfl, rfl⟩) (by assumption) ?_; try simp only [Act.put, List.setIfInBounds_toArray, List.set_cons_zero, List.set_cons_succ]
                  refine wpAnyH_takeD 10 (some 135) (v := undef) rfl rfl (by kernel_rfl) (by kernel_rfl) (by kernel_rfl) (fun _ _ _ h => h) (.inr ⟨rfl, rfl⟩) (by assumption) ?_; try simp only [Act.put, List.setIfInBounds_toArray, List.set_cons_zero, List.set_cons_succ]
                  refine wpAnyH_takeD 11 (some 136) (v := undef) rfl rfl (by kernel_rfl) (by kernel_rfl) (by kernel_rfl) (fun _ _ _ h => h) (.inr ⟨rfl, rfl⟩) (by assumption) ?_; try simp only [Act.put, List.setIfInBounds_toArray, List.set_cons_zero, List.set_cons_succ]
                  refine wpAnyH_takeD 12 (some 137) (v := undef) rfl rfl (by kernel_rfl) (by kernel_rfl) (by kernel_rfl) (fun _ _ _ h => h) (.inr ⟨rfl, rfl⟩) (by assumption) ?_; try simp only [Act.put, List.setIfInBounds_toArray, List.set_cons_zero, List.set_cons_succ]
                  refine wpAnyH_takeD 13 (some 138) (v := undef) rfl rfl (by kernel_rfl) (by kernel_rfl) (by kernel_rfl) (fun _ _ _ h => h) (.inr ⟨rfl, rfl⟩) (by assumption) ?_; try simp only [Act.put, List.setIfInBounds_toArray, List.set_cons_zero, List.set_cons_succ]
                  refine wpAnyH_takeD 14 (some 139) (v := undef) rfl rfl (by kernel_rfl) (by kernel_rfl) (by kernel_rfl) (fun _ _ _ h => h) (.inr ⟨rfl, rfl⟩) (by assumption) ?_; try simp only [Act.put, List.setIfInBounds_toArray, List.set_cons_zero, List.set_cons_succ]
                  refine wpAnyH_takeD 15 (some 140) (v := undef) rfl rfl (by kernel_rfl) (by kernel_rfl) (by kernel_rfl) (fun _ _ _ h => h) (.inr ⟨rfl, rfl⟩) (by assumption) ?_; try simp only [Act.put, List.setIfInBounds_toArray, List.set_cons_zero, List.set_cons_succ]
                  refine wpAnyH_takeD 16 (some 141) (v := (.bool false)) rfl rfl (by kernel_rfl) (by kernel_rfl) (by kernel_rfl) (fun _ _ _ h => h) (yieldsIf_calc rfl (fun w => by unfold execOp; go_simp)) (by assumption) ?_; try simp only [Act.put, List.setIfInBounds_toArray, List.set_cons_zero, List.set_cons_succ]
                  refine wpAnyH_takeD 17 (some 142) (v := (.bool false)) rfl rfl (by kernel_rfl) (by kernel_rfl) (by kernel_rfl) (fun _ _ _ h => h) (yieldsIf_calc rfl (fun w => by unfold execOp; go_simp)) (by assumption) ?_; try simp only [Act.put, List.setIfInBounds_toArray, List.set_cons_zero, List.set_cons_succ]
                  refine wpAnyH_done (by kernel_rfl) ?_ _
                  go_wp2
                  exact ⟨⟨m + 1 + 1, by omega, by go_num, r6.drew⟩, by simp [intOf]; omega⟩
                · subst hc
                  have i4 : ¬ (x : Int) < y := by omega
                  go_wp2
                  generalize wr.setCell ⟨sb, x, none⟩ (.bool true) = V4 at *
                  have s0 := Six.mk (w := V4.drew) d2 d3 c0 c1 c2 c3
                  replace s0 := s0.all
                  have r5d := r5.drew
                  have lo := r5d.o.lt
                  go_region_held3 (fun w' => w'.cell? ⟨ob, m, none⟩ = some (.int .i64 (y : Nat)) ∧ w'.cell? ⟨ob, m + 1, none⟩ = some (.int .i64 (x : Nat)) ∧ w'.cell? ⟨b, o + y * 2, none⟩ = some (.int .u64 (q.1 : Nat)) ∧ w'.cell? ⟨b, o + y * 2 + 1, none⟩ = some (.int .u64 (q.2 : Nat)) ∧ w'.cell? ⟨b, o + x * 2, none⟩ = some (.int .u64 (p.1 : Nat)) ∧ w'.cell? ⟨b, o + x * 2 + 1, none⟩ = some (.int .u64 (p.2 : Nat))) (first | assumption)
                    (first | (go_at_call 34; (with_reducible refine (hb1 _).mono ?_); rintro e w5 ⟨rfl, hw5⟩; have r6 := r5d.below hw5; have s1 := (Six.mk (w := V4.drew) d2 d3 c0 c1 c2 c3).below hw5 lo lb; have d4 := s1.e0; have d5 := s1.e1; replace s1 := s1.all))
                  have hle : y ≤ x := by omega
                  clear s0 s1 hw5
                  go_wp2
                  have s2 : w5.drew.cell? ⟨ob, m, none⟩ = some (.int .i64 (y : Nat)) ∧ w5.drew.cell? ⟨ob, m + 1, none⟩ = some (.int .i64 (x : Nat)) := ⟨d4, d5⟩
                  refine wp_region_held_drew (S := fun w' => w'.cell? ⟨ob, m, none⟩ = some (.int .i64 (y : Nat)) ∧ w'.cell? ⟨ob, m + 1, none⟩ = some (.int .i64 (x : Nat))) (by kernel_rfl) s2 (fun hHeld => ?_)
                  refine wpAnyH_takeD 0 (some 125) (v := (.int .i64 0)) rfl rfl (by kernel_rfl) (by kernel_rfl) (by kernel_rfl) (fun _ _ _ h => h) (yieldsIf_calc rfl (fun w => by unfold execOp; go_simp)) (by assumption) ?_; try simp only [Act.put, List.setIfInBounds_toArray, List.set_cons_zero, List.set_cons_succ]
                  refine wpAnyH_takeD 1 (some 126) (v := (.bool false)) rfl rfl (by kernel_rfl) (by kernel_rfl) (by kernel_rfl) (fun _ _ _ h => h) (yieldsIf_calc rfl (fun w => by unfold execOp; go_simp)) (by assumption) ?_; try simp only [Act.put, List.setIfInBounds_toArray, List.set_cons_zero, List.set_cons_succ]
                  refine wpAnyH_takeD 2 (some 127) (v := (.bool false)) rfl rfl (by kernel_rfl) (by kernel_rfl) (by kernel_rfl) (fun _ _ _ h => h) (yieldsIf_calc rfl (fun w => by unfold execOp; go_simp)) (by assumption) ?_; try simp only [Act.put, List.setIfInBounds_toArray, List.set_cons_zero, List.set_cons_succ]
                  refine wpAnyH_takeD 3 (some 128) (v := (.int .i64 0)) rfl rfl (by kernel_rfl) (by kernel_rfl) (by kernel_rfl) (fun _ _ _ h => h) (yieldsIf_calc rfl (fun w => by unfold execOp; go_simp)) (by assumption) ?_; try simp only [Act.put, List.setIfInBounds_toArray, List.set_cons_zero, List.set_cons_succ]
                  refine wpAnyH_takeD 4 (some 129) (v := (.bool true)) rfl rfl (by kernel_rfl) (by kernel_rfl) (by kernel_rfl) (fun _ _ _ h => h) (yieldsIf_calc rfl (fun w => by unfold execOp; go_simp)) (by assumption) ?_; try simp only [Act.put, List.setIfInBounds_toArray, List.set_cons_zero, List.set_cons_succ]
                  refine wpAnyH_takeD 5 (some 130) (v := (.bool true)) rfl rfl (by kernel_rfl) (by kernel_rfl) (by kernel_rfl) (fun _ _ _ h => h) (yieldsIf_calc rfl (fun w => by unfold execOp; go_simp)) (by assumption) ?_; try simp only [Act.put, List.setIfInBounds_toArray, List.set_cons_zero, List.set_cons_succ]
                  refine wpAnyH_takeD 6 (some 131) (v := (.slice (some ⟨ob, 0, none⟩) j j)) rfl rfl (by kernel_rfl) (by kernel_rfl) (by kernel_rfl) (fun _ _ _ h => h) (yieldsIf_calc rfl (fun w => by unfold execOp; go_simp)) (by assumption) ?_; try simp only [Act.put, List.setIfInBounds_toArray, List.set_cons_zero, List.set_cons_succ]
                  refine wpAnyH_takeD 7 (some 132) (v := (.int .i64 ((m : Int) + 1))) rfl rfl (by kernel_rfl) (by kernel_rfl) (by kernel_rfl) (fun _ _ _ h => h) (yieldsIf_calc rfl (fun w => by unfold execOp; go_simp)) (by assumption) ?_; try simp only [Act.put, List.setIfInBounds_toArray, List.set_cons_zero, List.set_cons_succ]
                  refine wpAnyH_takeD 8 (some 133) (v := (.int .i64 (m : Int))) rfl rfl (by kernel_rfl) (by kernel_rfl) (by kernel_rfl) (fun _ _ _ h => h) (yieldsIf_calc rfl (fun w => by unfold execOp; go_simp)) (by assumption) ?_; try simp only [Act.put, List.setIfInBounds_toArray, List.set_cons_zero, List.set_cons_succ]
                  refine wpAnyH_takeD 9 (some 134) (v := (.pointer (some ⟨ob, m, none⟩))) rfl rfl (by kernel_rfl) (by kernel_rfl) (by kernel_rfl) (fun _ _ _ h => h) (yieldsIf_calc rfl (fun w => by unfold execOp; go_simp)) (by assumption) ?_; try simp only [Act.put, List.setIfInBounds_toArray, List.set_cons_zero, List.set_cons_succ]
                  refine wpAnyH_takeD 10 (some 135) (v := (.int .i64 (y : Int))) rfl rfl (by kernel_rfl) (by kernel_rfl) (by kernel_rfl) (fun _ _ _ h => h) (.inl ⟨rfl, fun w hSw => by obtain ⟨y0, y1⟩ := hSw; unfold execOp; go_simp⟩) (by assumption) ?_; try simp only [Act.put, List.setIfInBounds_toArray, List.set_cons_zero, List.set_cons_succ]
                  refine wpAnyH_takeD 11 (some 136) (v := (.slice (some ⟨ob, 0, none⟩) j j)) rfl rfl (by kernel_rfl) (by kernel_rfl) (by kernel_rfl) (fun _ _ _ h => h) (yieldsIf_calc rfl (fun w => by unfold execOp; go_simp)) (by assumption) ?_; try simp only [Act.put, List.setIfInBounds_toArray, List.set_cons_zero, List.set_cons_succ]
                  refine wpAnyH_takeD 12 (some 137) (v := (.int .i64 ((m : Int) + 1))) rfl rfl (by kernel_rfl) (by kernel_rfl) (by kernel_rfl) (fun _ _ _ h => h) (yieldsIf_calc rfl (fun w => by unfold execOp; go_simp)) (by assumption) ?_; try simp only [Act.put, List.setIfInBounds_toArray, List.set_cons_zero, List.set_cons_succ]
                  refine wpAnyH_takeD 13 (some 138) (v := (.pointer (some ⟨ob, m + 1, none⟩))) rfl rfl (by kernel_rfl) (by kernel_rfl) (by kernel_rfl) (fun _ _ _ h => h) (yieldsIf_calc rfl (fun w => by unfold execOp; go_simp)) (by assumption) ?_; try simp only [Act.put, List.setIfInBounds_toArray, List.set_cons_zero, List.set_cons_succ]
                  refine wpAnyH_takeD 14 (some 139) (v := (.int .i64 (x : Int))) rfl rfl (by kernel_rfl) (by kernel_rfl) (by kernel_rfl) (fun _ _ _ h => h) (.inl ⟨rfl, fun w hSw => by obtain ⟨y0, y1⟩ := hSw; unfold execOp; go_simp⟩) (by assumption) ?_; try simp only [Act.put, List.setIfInBounds_toArray, List.set_cons_zero, List.set_cons_succ]
                  refine wpAnyH_takeD 15 (some 140) (v := (.bool false)) rfl rfl (by kernel_rfl) (by kernel_rfl) (by kernel_rfl) (fun _ _ _ h => h) (yieldsIf_calc rfl (fun w => by unfold execOp; go_simp)) (by assumption) ?_; try simp only [Act.put, List.setIfInBounds_toArray, List.set_cons_zero, List.set_cons_succ]
                  refine wpAnyH_takeD 16 (some 141) (v := (.bool false)) rfl rfl (by kernel_rfl) (by kernel_rfl) (by kernel_rfl) (fun _ _ _ h => h) (yieldsIf_calc rfl (fun w => by unfold execOp; go_simp)) (by assumption) ?_; try simp only [Act.put, List.setIfInBounds_toArray, List.set_cons_zero, List.set_cons_succ]
                  refine wpAnyH_takeD 17 (some 142) (v := (.bool false)) rfl rfl (by kernel_rfl) (by kernel_rfl) (by kernel_rfl) (fun _ _ _ h => h) (yieldsIf_calc rfl (fun w => by unfold execOp; go_simp)) (by assumption) ?_; try simp only [Act.put, List.setIfInBounds_toArray, List.set_cons_zero, List.set_cons_succ]
                  refine wpAnyH_done (by kernel_rfl) ?_ _
                  go_wp2
                  exact ⟨⟨m + 1 + 1, by omega, by go_num, r6.drew⟩, by simp [intOf]; omega⟩
            · obtain rfl : k = j := by omega
              by_cases h0 : k = 0
              · have e1 : ((k : Int) == 0) = true := by simp [h0]
                have hB4 := r4.hB
                clear HO hbest
                go_wp2_with (go_at_call 31; (with_reducible refine (hk _).mono ?_); rintro e w8 ⟨rfl, hw8⟩; have hB8 := bnext hB4 hw8)
                go_ret
                exact ⟨rfl, hB8⟩
              · have e1 : ((k : Int) == 0) = false := by rw [beq_eq_false_iff_ne]; omega
                have hbs := hbest.out (by omega) _ r4.hB
                rw [HO.out.first (by omega)] at hbs
                clear HO hbest
                have hlt0 := r4.o.lt
                generalize hg0 : g 0 = x at *
                go_wp2_with (first
                  | (go_at_call 35; (with_reducible refine hbs.mono ?_); rintro e w6 ⟨rfl, hw6⟩; have r6 := r4.below hw6; have hB6 := r6.hB; have d6 := r6.o.row 0 (by omega); rw [hg0] at d6)
                  | (go_at_call 31; (with_reducible refine (hk _).mono ?_); rintro e w8 ⟨rfl, hw8⟩; have hB8 := bnext hB6 hw8))
                go_ret
                exact ⟨rfl, hB8⟩
set_option maxRecDepth 100000 in
theorem walk_RatioOrders (v : Value) (l : List (Nat × Nat)) (w : World) (hv : Fsl w v l) :
    Calls Try.prog 9 #[v] w fun e w' => e = .returned (.bool true) ∧ Below w.heap.size w w' := by
  obtain ⟨a, cap, rfl, hcap, hmax, hnil, hF, h64⟩ := hv
  by_cases h50 : 50 < l.length
  · have hk := known_any
    generalize l.length = n at *
    clear hcap hmax hnil hF h64
    go_enter Try.func9, Try.ntmps9
    go_wp2_with (go_at_call 31; (with_reducible refine (hk _).mono ?_); rintro e w8 ⟨rfl, hw8⟩)
    go_ret
    exact ⟨rfl, hw8⟩
  · cases hany : anyBad l with
    | true => exact orders_bad l hany a cap hnil w hF (by omega) _ rfl
    | false => exact orders_ok l h64 hany a cap hnil w hF (by omega) _ rfl
end Go.Proofs.Ytdnpbemkobhlcaa
