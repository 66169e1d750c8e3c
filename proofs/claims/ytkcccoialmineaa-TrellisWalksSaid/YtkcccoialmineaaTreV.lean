/-
  The trellis, walks over states: what the law holds on to while it iterates.
-/
import Derived.Test.YtkcccoialmineaaTreU
set_option linter.unusedSimpArgs false
set_option linter.unusedVariables false
namespace Go.Proofs.Ytkcccoialmineaa
open Go.RowKit

theorem vld_from (l : List UInt8) : ∀ n j, n = l.length - j → j ≤ l.length → (∀ i, i < j → (gd l i).toNat < 2) → ∃ k, vld l k
  | 0, j, hn, hj, h => ⟨j, hj, h, .inl (by omega)⟩
  | n + 1, j, hn, hj, h => by
    by_cases hb : (gd l j).toNat < 2
    · exact vld_from l n (j + 1) (by omega) (by omega) fun i hi => by
        rcases Nat.lt_succ_iff_lt_or_eq.1 hi with h' | rfl
        · exact h i h'
        · exact hb
    · exact ⟨j, hj, h, .inr (by omega)⟩
theorem vld_ex (l : List UInt8) : ∃ k, vld l k := vld_from l _ 0 rfl (Nat.zero_le _) fun i hi => absurd hi (by omega)
theorem vld_le {l : List UInt8} {k k' : Nat} (h : vld l k) (h' : vld l k') : k ≤ k' := by
  rcases Nat.lt_or_ge k' k with hlt | hge
  · have h1 := h.2.1 k' hlt
    have h2 := h.1
    rcases h'.2.2 with h3 | h3 <;> omega
  · exact hge
theorem vld_one {l : List UInt8} {k k' : Nat} (h : vld l k) (h' : vld l k') : k = k' := Nat.le_antisymm (vld_le h h') (vld_le h' h)
/-- The reference's two lists. -/
structure TwoS (base : Nat) (l : List UInt8) (k : Nat) (u v : Value) (w : World) : Prop where
  ns : w.ownsRow base 3 1 u k (stL l k)
  cs : w.ownsRow base 5 1 v k ((par 0 (l.take k)).map B)
theorem rwalk_two (l : List UInt8) (v : Value) (w : World) (k : Nat) (hk : vld l k) (hv : Bsl w v l) (hlen : l.length ≤ 10000) :
    Calls Try.prog 27 #[v] w fun e w' => ∃ p q ok, e = .returned (.tuple #[p, q, .bool ok]) ∧ TwoS w.heap.size l k p q w' ∧ Below w.heap.size w w' := by
  obtain ⟨a, cap, rfl, q1, q2, q3, q4⟩ := hv
  refine (rwalk_all l a cap w q4 hlen).mono ?_
  rintro e w' ⟨p, q, ok, k', rfl, hB, hv', h1, h2⟩
  obtain rfl := vld_one hk hv'
  have : (par 0 (l.take k)).length = k := by rw [par_length, List.length_take]; have := hk.1; omega
  rw [this] at h2
  exact ⟨p, q, ok, rfl, ⟨h1, h2⟩, hB⟩
theorem func_nil (f : Fn) (vs ws : Array Value) (w : World) : (binOp .eql 60 (.func f vs ws) .nilFunc).run Try.prog w = .ok (.bool false) w := by
  have u := Try.underlying60
  have e : (Op.equal 60 (.func f vs ws) .nilFunc).run Try.prog w = .ok false w := by
    unfold Op.equal
    rw [Op.equalIn.eq_def]
    simp [u, Sem.run_bind, Result.andThen, Op.maxDepth]
  simp [binOp, u, Sem.run_bind, Result.andThen, e]
theorem row_form {w : World} {base e size : Nat} {v : Value} {n : Nat} {xs : List Value} (h : w.ownsRow base e size v n xs) : ∃ A c, v = .slice A n c ∧ (0 < n → ∃ g, A = some ⟨g, 0, none⟩) := by
  obtain ⟨_, ⟨rfl, h0⟩ | ⟨g, cap, cur, rfl, _⟩⟩ := h
  · exact ⟨none, 0, by rw [h0], fun h => by omega⟩
  · exact ⟨_, cap, rfl, fun _ => ⟨g, rfl⟩⟩
/-- A block that is not the row's own one. -/
def notRow (a : Option Addr) (k : Nat) : Prop := ∀ o, a ≠ some ⟨k, o, none⟩
theorem two_get {base n1 n2 nc cc : Nat} {l : List UInt8} {N : Nat} {nA cA : Option Addr} {w : World} (h : TwoS base l N (.slice nA n1 nc) (.slice cA n2 cc) w) (hN : N ≤ l.length) {k : Nat} {x : Nat × Nat} (hk : (wkL l N)[k]? = some x) :
    ∃ g g', nA = some ⟨g, 0, none⟩ ∧ cA = some ⟨g', 0, none⟩ ∧ base ≤ g ∧ g < w.heap.size ∧ base ≤ g' ∧ g' < w.heap.size ∧ w.cell? ⟨g, k, none⟩ = some (.int .i64 (x.1 : Nat)) ∧ w.cell? ⟨g', k, none⟩ = some (.int .u8 (x.2 : Nat)) := by
  have hl : k < N := by have := (List.getElem?_eq_some_iff.1 hk).1; rwa [wkL_length] at this
  have h1 := h.ns
  have h2 := h.cs
  rw [par_wk l N hN] at h2
  obtain ⟨A, c, e1, e2⟩ := row_form h1
  obtain ⟨A', c', e1', e2'⟩ := row_form h2
  simp only [Value.slice.injEq] at e1 e1'
  obtain ⟨rfl, rfl, rfl⟩ := e1
  obtain ⟨rfl, rfl, rfl⟩ := e1'
  obtain ⟨g, rfl⟩ := e2 (by omega)
  obtain ⟨g', rfl⟩ := e2' (by omega)
  have l1 := h1.lt g rfl
  have l2 := h2.lt g' rfl
  refine ⟨g, g', rfl, rfl, l1.1, l1.2, l2.1, l2.2, ?_, ?_⟩
  · rw [h1.cellAt k (by omega), stL_wk, List.getElem?_map, hk]; rfl
  · rw [h2.cellAt k (by omega), List.getElem?_map, hk]; rfl
/-- The law's cells: the box of many, the result, the two lists. -/
structure LawF (w : World) (b3 b6 : Nat) (many : Int) (R : List (Nat × Nat)) (nA cA : Option Addr) (N nc cc : Nat) : Prop where
  c3 : Blk w b3 #[.int .i64 many] 3
  c4 : Blk w (b3 + 1) #[.bool false] 4
  c6 : Blk w b6 #[.slice nA N nc] 56
  c7 : Blk w (b6 + 1) #[.slice cA N cc] 36
  rows : ∀ k x, R[k]? = some x → ∃ g g', nA = some ⟨g, 0, none⟩ ∧ cA = some ⟨g', 0, none⟩ ∧ g < w.heap.size ∧ g' < w.heap.size ∧ w.cell? ⟨g, k, none⟩ = some (.int .i64 (x.1 : Nat)) ∧ w.cell? ⟨g', k, none⟩ = some (.int .u8 (x.2 : Nat))
theorem LawF.below {w w' : World} {b3 b6 : Nat} {many : Int} {R : List (Nat × Nat)} {nA cA : Option Addr} {N nc cc B : Nat} (h : LawF w b3 b6 many R nA cA N nc cc) (k : Below B w w') (hB : w.heap.size ≤ B) : LawF w' b3 b6 many R nA cA N nc cc :=
  ⟨h.c3.below k (by have := h.c3.lt; omega), h.c4.below k (by have := h.c4.lt; omega), h.c6.below k (by have := h.c6.lt; omega), h.c7.below k (by have := h.c7.lt; omega), fun i x hx => by
    obtain ⟨g, g', e, e', l, l', p, p'⟩ := h.rows i x hx
    have hs := k.size
    exact ⟨g, g', e, e', by omega, by omega, (k.cell (p := ⟨g, i, none⟩) (by show g < B; omega)).trans p, (k.cell (p := ⟨g', i, none⟩) (by show g' < B; omega)).trans p'⟩⟩
theorem LawF.keeps {w w' : World} {b3 b6 : Nat} {many : Int} {R : List (Nat × Nat)} {nA cA : Option Addr} {N nc cc B : Nat} {K : Nat → Prop} (h : LawF w b3 b6 many R nA cA N nc cc) (k : Keeps B K w w') (h3 : K b3) (h4 : K (b3 + 1)) (h6 : K b6) (h7 : K (b6 + 1)) (hr : ∀ g, nA = some ⟨g, 0, none⟩ ∨ cA = some ⟨g, 0, none⟩ → K g) : LawF w' b3 b6 many R nA cA N nc cc :=
  ⟨h.c3.keeps k (.inr h3), h.c4.keeps k (.inr h4), h.c6.keeps k (.inr h6), h.c7.keeps k (.inr h7), fun i x hx => by
    obtain ⟨g, g', e, e', l, l', p, p'⟩ := h.rows i x hx
    have hs := k.size
    exact ⟨g, g', e, e', by omega, by omega, cell_keeps (p := ⟨g, i, none⟩) p k l (.inr (hr g (.inl e))), cell_keeps (p := ⟨g', i, none⟩) p' k l' (.inr (hr g' (.inr e')))⟩⟩
/-- How many runs the first of the two iterations takes. -/
def firstK (N : Nat) (many : Int) : Int := min N (max 1 many)
theorem firstK_done {N : Nat} {many : Int} (h : N = 0 ∨ (N : Int) < many) : firstK N many = N := by
  unfold firstK; omega
theorem firstK_stop {N k : Nat} {many : Int} (hN : k ≤ N) (h1 : k = 1 ∨ ((k : Int) - 1 < many ∧ 1 < k)) (h2 : many ≤ k) : firstK N many = k := by
  unfold firstK; omega
theorem cf42 (args : Array Value) (w : World) : (callFunc 42 args).run Try.prog w = .ok (.enter 42 args) w := Go.MuLone.run_callFunc_enter (f := 42) Try.func42 rfl rfl args w
/-- A range over a function that ends, or that its body leaves by the way out of the block around it. -/
theorem wp_rangeFunc_cut {P : Program} {α : Type} {id : Nat} {g : Operand} {p p' q q' : Tmp} {e e' : α → Value} {assign body : Code} {Q : Exit → Act → World → Prop} {a : Act} {w : World}
    {gf : Nat} {lb : Array Value} (hg : a.eval g = .func (.func gf) #[] lb) (eg : ∀ args w, (callFunc gf args).run P w = .ok (.enter gf args) w)
    {K : Nat → Prop} {R : List α → α → Prop} {S : List α → Prop} {w0 : World} (hseq : SeqAt Fence.wide 2 P gf lb (fun x => #[e x, e' x]) K (fun _ => True) R S w0)
    (hb0 : Below w0.heap.size w0 w) (hKw : ∀ k, K k → k < w.heap.size)
    (I : List α → World → Prop) (E : World → Prop) (hI : ∀ s A A', I s A → Below w.heap.size A A' → I s A') (hE : ∀ A A', E A → Below w.heap.size A A' → E A') (hIE : ∀ xs A, S xs → I xs A → E A) (h0 : I [] w)
    (hassign : ∀ (l : Nat) (x : α) (W : World) (C : Act → World → Prop), C { tmps := setTwo a.tmps p p' q q' (e x) (e' x), defers := [] } W → assign.wpIn (Fence.wide.inRound l) 1 P (Exit.then C (fun _ _ _ => False)) { tmps := (a.tmps.setIfInBounds p (e x)).setIfInBounds p' (e' x), defers := [] } W)
    (hbody : ∀ (l : Nat) (pre : List α) (x : α) (W : World), w.heap.size + 2 ≤ W.heap.size → I pre W → R pre x → body.wpIn (Fence.wide.inRound l) 1 P (ownPostA w.heap.size K I (fun c _ A => c = .exit id ∧ E A) (pre ++ [x]) W) { tmps := setTwo a.tmps p p' q q' (e x) (e' x), defers := [] } W)
    (hfin : ∀ (D : Nat) (W : World), w.heap.size ≤ D → E W → W.heap[D]? = some (.deferred (some [])) → Q .normal { a with defers := { target := .collected D, args := #[] } :: a.defers } W) :
    (Code.rangeFunc g #[p, p'] assign body).wp P (Exit.inBlock id Q) a w := by
  refine (wpIn_wide (n := 3)).1 ?_
  refine wpIn_rangeFunc_two (F := Fence.wide) (n := 3) (P := P) (p := p) (p' := p') (q := q) (q' := q') (e := e) (e' := e') (K := K) (G := fun _ => True) (R := R) (S := S) (w0 := w0) (lb := lb) rfl (by decide) (gf := gf) hg trivial eg hseq hb0 hKw I
    (fun c _ A => c = .exit id ∧ E A) hI (fun c _ A A' h k => ⟨h.1, hE _ _ h.2 k⟩) (fun _ _ _ => trivial) h0 hassign hbody ?_ ?_
  · intro D xs W hD hS hI hK
    exact hfin D W hD (hIE _ _ hS hI) hK
  · rintro D c pre W hD ⟨rfl, hE⟩ hK
    refine wpIn_exit ?_
    show if id = id then _ else _
    rw [if_pos rfl]
    exact hfin D W hD hE hK
/-- What lies while a turn iterates. -/
structure InT (wb : World) (b10 b11 : Nat) (turn : Int) (N : Nat) (G : Nat → Prop) (pre : List (Nat × Nat)) (A : World) : Prop where
  blw : Below wb.heap.size wb A
  t10 : Blk A b10 #[.int .i64 turn] 3
  t11 : Blk A b11 #[.int .i64 (pre.length : Nat)] 3
  le : pre.length ≤ N
  go : G pre.length
theorem InT.same {wb : World} {b10 b11 : Nat} {turn : Int} {N : Nat} {G : Nat → Prop} {pre : List (Nat × Nat)} {A A' : World} {B : Nat} (h : InT wb b10 b11 turn N G pre A) (k : Below B A A') (h10 : b10 < B) (h11 : b11 < B) (hB : wb.heap.size ≤ B) : InT wb b10 b11 turn N G pre A' :=
  ⟨h.blw.trans (k.mono hB), h.t10.below k h10, h.t11.below k h11, h.le, h.go⟩
/-- What lies when a turn has iterated. -/
structure EndT (wb : World) (b10 b11 : Nat) (turn : Int) (z : Int) (A : World) : Prop where
  blw : Below wb.heap.size wb A
  t10 : Blk A b10 #[.int .i64 turn] 3
  t11 : Blk A b11 #[.int .i64 z] 3
theorem EndT.same {wb : World} {b10 b11 : Nat} {turn z : Int} {A A' : World} {B : Nat} (h : EndT wb b10 b11 turn z A) (k : Below B A A') (h10 : b10 < B) (h11 : b11 < B) (hB : wb.heap.size ≤ B) : EndT wb b10 b11 turn z A' :=
  ⟨h.blw.trans (k.mono hB), h.t10.below k h10, h.t11.below k h11⟩
end Go.Proofs.Ytkcccoialmineaa
