/-
  Fractions, the laws' walks: lowest terms.
-/
import Derived.Test.YtdnpbemkobhlcaaRatP
namespace Go.Proofs.Ytdnpbemkobhlcaa
open Go.RowKit
attribute [-go_sem] Instr.build

/-- The cells of two fractions. -/
structure Pair (w : World) (b b' : Nat) (n d u v : Nat) : Prop where
  t0 : Two w b n d
  t1 : Two w b' u v
theorem Pair.below {w w' : World} {b b' n d u v : Nat} (h : Pair w b b' n d u v) (hb : Below w.heap.size w w') : Pair w' b b' n d u v := ⟨h.t0.below hb, h.t1.below hb⟩
/-- The cells that the drawing region reads. -/
structure Four (w : World) (b b' : Nat) (n d u v : Nat) : Prop where
  c : w.cell? ⟨b, 0, none⟩ = some (.int .u64 n) ∧ w.cell? ⟨b, 1, none⟩ = some (.int .u64 d) ∧ w.cell? ⟨b', 0, none⟩ = some (.int .u64 u) ∧ w.cell? ⟨b', 1, none⟩ = some (.int .u64 v)
theorem Pair.four {w : World} {b b' n d u v : Nat} (h : Pair w b b' n d u v) : w.cell? ⟨b, 0, none⟩ = some (.int .u64 n) ∧ w.cell? ⟨b, 1, none⟩ = some (.int .u64 d) ∧ w.cell? ⟨b', 0, none⟩ = some (.int .u64 u) ∧ w.cell? ⟨b', 1, none⟩ = some (.int .u64 v) := ⟨h.t0.c0, h.t0.c1, h.t1.c0, h.t1.c1⟩
theorem Pair.drew {w : World} {b b' n d u v : Nat} (h : Pair w b b' n d u v) : Pair w.drew b b' n d u v := ⟨⟨h.t0.c0, h.t0.c1, h.t0.lt⟩, ⟨h.t1.c0, h.t1.c1, h.t1.lt⟩⟩
theorem Pair.alloc {w : World} {b b' n d u v : Nat} (h : Pair w b b' n d u v) (o : Obj) : Pair (w.alloc o) b b' n d u v := ⟨h.t0.alloc o, h.t1.alloc o⟩
set_option maxHeartbeats 2000000 in
theorem reduces_bad (p : Nat × Nat) (hb : Bad p) (F D : Nat) (w : World) :
    Calls Try.prog 10 #[.agg (fV p), .int .u64 F, .int .u64 D] w fun e w' => e = .returned (.bool true) ∧ Below w.heap.size w w' := by
  have b1 := lawbad_any p
  rw [decide_eq_true hb] at b1
  have b2 : ∀ w, Calls Try.prog 33 #[.agg #[.int .u64 0, .int .u64 0]] w fun e w' => e = .returned (.bool true) ∧ Below w.heap.size w w' := fun w => by
    have := lawbad_any (0, 0) w
    rw [decide_eq_true (show Bad (0, 0) from ⟨rfl, rfl⟩)] at this
    exact this
  have hr := reduce_bad p hb
  have hk := known_any
  have z1 : ∀ w, (zeroValue 56).run Try.prog w = .ok (.agg #[.int .u64 0, .int .u64 0]) w := (zero_of_info zero56).1
  obtain ⟨n, d⟩ := p
  have t0 := Two.new w n d 56
  have hB := below_new (Below.refl w.heap.size w) (.cells #[.int .u64 n, .int .u64 d] 56)
  have c0 := t0.c0
  have c1 := t0.c1
  clear hb
  unfold fV at *
  go_enter Try.func10, Try.ntmps10
  go_wp2_with (first
    | (go_at_call 37; (with_reducible refine (hr _).mono ?_); rintro e w1 ⟨rfl, hw1⟩; have hB1 := below_new (bnext hB hw1) (.cells #[.int .u64 0, .int .u64 0] 56); have t1 := (t0.below hw1).alloc (.cells #[.int .u64 0, .int .u64 0] 56); have t2 : Two (w1.alloc (.cells #[.int .u64 0, .int .u64 0] 56)) w1.heap.size 0 0 := Two.new w1 0 0 56; have d0 := t1.c0; have d1 := t1.c1)
    | (go_at_call 33; first
      | ((with_reducible refine (b1 _).mono ?_); rintro e w2 ⟨rfl, hw2⟩; have hB2 := bnext hB1 hw2; have t3 := t2.below hw2; have d2 := t3.c0; have d3 := t3.c1; clear b1)
      | ((with_reducible refine (b2 _).mono ?_); rintro e w3 ⟨rfl, hw3⟩; have hB3 := bnext hB2 hw3))
    | (go_at_call 31; (with_reducible refine (hk _).mono ?_); rintro e w8 ⟨rfl, hw8⟩; have hB8 := bnext hB3 hw8))
  go_ret
  exact ⟨rfl, hB8⟩
theorem wpAnyH_takeD {P : Program} {md : Region.Mode} {ops : Array Oper} {Q : Exit → Act → World → Prop} {S : World → Prop} (i : Nat) (d : Option Tmp) {oi : Oper} {v : Value} {fuel : Nat} {listed : Array Bool} {a : Act} {w : World} (hi : ops[i]? = some oi) (hd : oi.dst = d)
    (hs : Region.noSelect ops = true) (hf : Region.free md ops listed i = true) (hr : (Region.ready md ops listed).contains i = true)
    (hQ : ∀ c a w, Q (.panic c) (a.put oi.dst v) w → Q (.panic c) a w) (hy : YieldsIf P ops S oi v a) (hS : S w)
    (h : wpAnyH P md ops Q S fuel (listed.setIfInBounds i true) (a.put d v) w) : wpAnyH P md ops Q S (fuel + 1) listed a w := by
  subst hd; exact wpAnyH_take hi hs hf hr hQ hy hS h
theorem yieldsIf_calc {P : Program} {ops : Array Oper} {S : World → Prop} {op : Oper} {a : Act} {v : Value} (hw : Region.wanted op (yielded ops a.tmps) = true) (h : ∀ w, (execOp a.eval op).run P w = .ok (.value v) w) : YieldsIf P ops S op v a := .inl ⟨hw, fun w _ => h w⟩
theorem red_lt (p : Nat × Nat) (hp : F64 p) : F64 (redF p) := ⟨Nat.lt_of_le_of_lt (Nat.div_le_self _ _) hp.n, Nat.lt_of_le_of_lt (Nat.div_le_self _ _) hp.d⟩
set_option maxRecDepth 100000 in
set_option maxHeartbeats 8000000 in
theorem reduces_ok (n d : Nat) (hp : F64 (n, d)) (hb : ¬ Bad (n, d)) (F D : Nat) (hF : F < 18446744073709551616) (w : World) :
    Calls Try.prog 10 #[.agg (fV (n, d)), .int .u64 F, .int .u64 D] w fun e w' => e = .returned (.bool true) ∧ Below w.heap.size w w' := by
  have b1 := lawbad_any (n, d)
  rw [decide_eq_false hb] at b1
  have b2 := lawbad_any (redF (n, d))
  rw [decide_eq_false (red_good _ hb)] at b2
  have hr := reduce_ok (n, d) hp hb
  have hq := red_lt _ hp
  have hc := lawcmp_any (n, d) (redF (n, d)) hp hq
  rw [red_same] at hc
  have hk := known_any
  have hlow := red_low (n, d) hb D
  have hs : 1 ≤ F → F < 4294967296 → n < 4294967296 → d < 4294967296 → n * F < 18446744073709551616 ∧ d * F < 18446744073709551616 ∧ ∀ w, Calls Try.prog 37 #[.agg (fV (n * F, d * F))] w fun e w' => e = .returned (.tuple #[.agg (fV (redF (n, d))), .int .i64 0]) ∧ Below w.heap.size w w' := fun h1 h2 h3 h4 => by
    have m1 : n * F < 18446744073709551616 := by
      have := Nat.mul_le_mul (show n ≤ 4294967295 by omega) (show F ≤ 4294967295 by omega)
      omega
    have m2 : d * F < 18446744073709551616 := by
      have := Nat.mul_le_mul (show d ≤ 4294967295 by omega) (show F ≤ 4294967295 by omega)
      omega
    refine ⟨m1, m2, fun w => ?_⟩
    rw [← red_times n d F h1]
    refine reduce_ok (n * F, d * F) ⟨m1, m2⟩ ?_ w
    rintro ⟨g1, g2⟩
    rw [Nat.mul_eq_zero] at g1 g2
    exact hb ⟨by omega, by omega⟩
  have hfirst : (n = 0 ∧ 0 < d ∧ (redF (n, d)).1 = 0 ∧ (redF (n, d)).2 = 1) ∨ (d = 0 ∧ 0 < n ∧ (redF (n, d)).1 = 1 ∧ (redF (n, d)).2 = 0) ∨ (0 < n ∧ 0 < d) := by
    by_cases x : n = 0
    · subst x
      have hd : 0 < d := Nat.pos_of_ne_zero fun e => hb ⟨rfl, e⟩
      rw [red_zero d hd]
      exact .inl ⟨rfl, hd, rfl, rfl⟩
    · by_cases y : d = 0
      · subst y
        rw [red_inf n (by omega)]
        exact .inr (.inl ⟨rfl, by omega, rfl, rfl⟩)
      · exact .inr (.inr ⟨by omega, by omega⟩)
  have z1 : ∀ w, (zeroValue 56).run Try.prog w = .ok (.agg #[.int .u64 0, .int .u64 0]) w := (zero_of_info zero56).1
  generalize redF (n, d) = rr at *
  obtain ⟨u, v⟩ := rr
  obtain ⟨hn, hd⟩ := hp
  obtain ⟨hu, hv⟩ := hq
  simp only at hn hd hu hv hlow hfirst
  have hdiv : ¬ 2 ≤ D ∨ (2 ≤ D ∧ u % D ≠ 0) ∨ (2 ≤ D ∧ u % D = 0 ∧ v % D ≠ 0) := by
    by_cases x : 2 ≤ D
    · by_cases y : u % D = 0
      · exact .inr (.inr ⟨x, y, fun z => hlow x ⟨y, z⟩⟩)
      · exact .inr (.inl ⟨x, y⟩)
    · exact .inl x
  have hfac : (F : Int) < 1 ∨ (1 ≤ (F : Int) ∧ 4294967296 ≤ (F : Int)) ∨ (1 ≤ (F : Int) ∧ (F : Int) < 4294967296 ∧ 4294967296 ≤ (n : Int)) ∨ (1 ≤ (F : Int) ∧ (F : Int) < 4294967296 ∧ (n : Int) < 4294967296 ∧ 4294967296 ≤ (d : Int)) ∨ (1 ≤ (F : Int) ∧ (F : Int) < 4294967296 ∧ (n : Int) < 4294967296 ∧ (d : Int) < 4294967296) := by omega
  clear hb hlow
  have e1 : (u : Int).tmod (D : Int) = ((u % D : Nat) : Int) := rfl
  have e2 : (v : Int).tmod (D : Int) = ((v % D : Nat) : Int) := rfl
  have e3 : u % D < 18446744073709551616 := Nat.lt_of_le_of_lt (Nat.mod_le _ _) hu
  have e4 : v % D < 18446744073709551616 := Nat.lt_of_le_of_lt (Nat.mod_le _ _) hv
  generalize u % D = ru at *
  generalize v % D = rv at *
  have e5 : IntKind.u64.wrap (ru : Int) = ru := wrapN _ e3
  have e6 : IntKind.u64.wrap (rv : Int) = rv := wrapN _ e4
  have m0 : IntKind.u64.wrap ((n : Int) * F) = IntKind.u64.wrap ((n * F : Nat) : Int) := by rw [mulN]
  have m1 : IntKind.u64.wrap ((d : Int) * F) = IntKind.u64.wrap ((d * F : Nat) : Int) := by rw [mulN]
  generalize n * F = N' at *
  generalize d * F = D' at *
  have hs : 1 ≤ F → F < 4294967296 → n < 4294967296 → d < 4294967296 → IntKind.u64.wrap ((n : Int) * F) = (N' : Int) ∧ IntKind.u64.wrap ((d : Int) * F) = (D' : Int) ∧ ∀ w, Calls Try.prog 37 #[.agg (fV (N', D'))] w fun e w' => e = .returned (.tuple #[.agg (fV (u, v)), .int .i64 0]) ∧ Below w.heap.size w w' := fun h1 h2 h3 h4 => by
    obtain ⟨g1, g2, g3⟩ := hs h1 h2 h3 h4
    exact ⟨by rw [m0]; exact wrapN _ g1, by rw [m1]; exact wrapN _ g2, g3⟩
  have ho := of_any N' D'
  clear m0 m1 e3 e4 hn hd hu hv hF
  have t0 := Two.new w n d 56
  have hB := below_new (Below.refl w.heap.size w) (.cells #[.int .u64 n, .int .u64 d] 56)
  have c0 := t0.c0
  have c1 := t0.c1
  replace hdiv := Lib.hid hdiv
  replace hfac := Lib.hid hfac
  replace hs := Lib.hid hs
  replace hfirst := Lib.hid hfirst
  replace e1 := Lib.hid e1
  replace e2 := Lib.hid e2
  unfold fV at *
  go_enter Try.func10, Try.ntmps10
  go_wp2_with (first
    | (go_at_call 37; (with_reducible refine (hr _).mono ?_); rintro e w1 ⟨rfl, hw1⟩; have hB1 := below_new (bnext hB hw1) (.cells #[.int .u64 (u : Nat), .int .u64 (v : Nat)] 56); have t1 := (t0.below hw1).alloc (.cells #[.int .u64 (u : Nat), .int .u64 (v : Nat)] 56); have t2 := Two.new w1 u v 56; have d0 := t1.c0; have d1 := t1.c1)
    | (go_at_call 33; ((with_reducible refine (b1 _).mono ?_); rintro e w2 ⟨rfl, hw2⟩; have hB2 := bnext hB1 hw2; have t3 := t1.below hw2; have t4 := t2.below hw2; clear b1)))
  have P2 : Pair w2 w.heap.size w1.heap.size n d u v := ⟨t3, t4⟩
  clear t0 t1 t2 t3 t4 d0 d1 c0 c1 hB hB1 hw1 hw2 hr
  generalize w1.heap.size = b7 at *
  have s0 := P2.drew.four
  have hBd := hB2.drew
  have Pd := P2.drew
  clear P2 hB2
  have lz0 : ∀ (w : World), Calls Try.prog 38 #[.int .u64 0, .int .u64 1] w fun e w' => e = .returned (.agg #[.int .u64 0, .int .u64 1]) ∧ Below w.heap.size w w' := fun w => of_lit 0 1 (by decide) (by decide) w
  have lz1 : ∀ (w : World), Calls Try.prog 38 #[.int .u64 1, .int .u64 0] w fun e w' => e = .returned (.agg #[.int .u64 1, .int .u64 0]) ∧ Below w.heap.size w w' := fun w => of_lit 1 0 (by decide) (by decide) w
  have s1 : ∀ (W : World), Pair W w.heap.size b7 n d u v → W.cell? ⟨w.heap.size, 0, none⟩ = some (.int .u64 n) ∧ W.cell? ⟨w.heap.size, 1, none⟩ = some (.int .u64 d) ∧ W.cell? ⟨b7, 0, none⟩ = some (.int .u64 u) ∧ W.cell? ⟨b7, 1, none⟩ = some (.int .u64 v) := fun W h => h.four
  have hpm : Try.prog.follows .mixedOrders = true := by kernel_rfl
  rcases hfirst.out with ⟨f0, f1, f2, f3⟩ | ⟨f0, f1, f2, f3⟩ | ⟨f0, f1⟩
  · have g1 : ((d : Int) == 0) = false := by rw [beq_eq_false_iff_ne]; omega
    have g0 : ((n : Int) == 0) = true := by simp [f0]
    have g2 : ((u : Int) == 0) = true := by simp [f2]
    have g3 : ((v : Int) == 1) = true := by simp [f3]
    clear f2 f3
    replace f0 := Lib.hid f0
    replace f1 := Lib.hid f1
    clear hfirst
    refine wp_region_held_drew (S := (fun w' => w'.cell? ⟨w.heap.size, 0, none⟩ = some (.int .u64 n) ∧ w'.cell? ⟨w.heap.size, 1, none⟩ = some (.int .u64 d) ∧ w'.cell? ⟨b7, 0, none⟩ = some (.int .u64 u) ∧ w'.cell? ⟨b7, 1, none⟩ = some (.int .u64 v))) hpm s0 (fun hHeld => ?_)
    refine wpAnyH_takeD 0 (some 27) (v := (.int .i64 0)) rfl rfl (by kernel_rfl) (by kernel_rfl) (by kernel_rfl) (fun _ _ _ h => h) (yieldsIf_calc rfl (fun w => by unfold execOp; go_simp)) (by assumption) ?_; try simp only [Act.put, List.setIfInBounds_toArray, List.set_cons_zero, List.set_cons_succ]
    refine wpAnyH_takeD 1 (some 28) (v := (.bool false)) rfl rfl (by kernel_rfl) (by kernel_rfl) (by kernel_rfl) (fun _ _ _ h => h) (yieldsIf_calc rfl (fun w => by unfold execOp; go_simp)) (by assumption) ?_; try simp only [Act.put, List.setIfInBounds_toArray, List.set_cons_zero, List.set_cons_succ]
    refine wpAnyH_takeD 2 (some 29) (v := (.bool false)) rfl rfl (by kernel_rfl) (by kernel_rfl) (by kernel_rfl) (fun _ _ _ h => h) (yieldsIf_calc rfl (fun w => by unfold execOp; go_simp)) (by assumption) ?_; try simp only [Act.put, List.setIfInBounds_toArray, List.set_cons_zero, List.set_cons_succ]
    refine wpAnyH_takeD 3 (some 30) (v := (.agg #[.int .u64 u, .int .u64 v])) rfl rfl (by kernel_rfl) (by kernel_rfl) (by kernel_rfl) (fun _ _ _ h => h) (.inl ⟨rfl, fun w hSw => by obtain ⟨y0, y1, y2, y3⟩ := hSw; unfold execOp; go_simp⟩) (by assumption) ?_; try simp only [Act.put, List.setIfInBounds_toArray, List.set_cons_zero, List.set_cons_succ]
    refine wpAnyH_one 4 rfl (by kernel_rfl) (fun K' hK' => ?_)
    go_simp
    (go_at_call 33; (with_reducible refine (b2 _).mono ?_); rintro e w3 ⟨rfl, hw3⟩)
    go_wp2
    have hB3 := bnext hBd hw3; have P3 := Pd.below hw3; have s3 := s1 _ P3
    refine hK'.out _ _ s3 ?_; clear hK' K'; try simp only [Act.put, List.setIfInBounds_toArray, List.set_cons_zero, List.set_cons_succ]
    refine wpAnyH_takeD 5 (some 32) (v := (.bool false)) rfl rfl (by kernel_rfl) (by kernel_rfl) (by kernel_rfl) (fun _ _ _ h => h) (yieldsIf_calc rfl (fun w => by unfold execOp; go_simp)) (by assumption) ?_; try simp only [Act.put, List.setIfInBounds_toArray, List.set_cons_zero, List.set_cons_succ]
    refine wpAnyH_takeD 6 (some 33) (v := (.bool false)) rfl rfl (by kernel_rfl) (by kernel_rfl) (by kernel_rfl) (fun _ _ _ h => h) (yieldsIf_calc rfl (fun w => by unfold execOp; go_simp)) (by assumption) ?_; try simp only [Act.put, List.setIfInBounds_toArray, List.set_cons_zero, List.set_cons_succ]
    refine wpAnyH_takeD 7 (some 34) (v := (.agg #[.int .u64 n, .int .u64 d])) rfl rfl (by kernel_rfl) (by kernel_rfl) (by kernel_rfl) (fun _ _ _ h => h) (.inl ⟨rfl, fun w hSw => by obtain ⟨y0, y1, y2, y3⟩ := hSw; unfold execOp; go_simp⟩) (by assumption) ?_; try simp only [Act.put, List.setIfInBounds_toArray, List.set_cons_zero, List.set_cons_succ]
    refine wpAnyH_takeD 8 (some 35) (v := (.agg #[.int .u64 u, .int .u64 v])) rfl rfl (by kernel_rfl) (by kernel_rfl) (by kernel_rfl) (fun _ _ _ h => h) (.inl ⟨rfl, fun w hSw => by obtain ⟨y0, y1, y2, y3⟩ := hSw; unfold execOp; go_simp⟩) (by assumption) ?_; try simp only [Act.put, List.setIfInBounds_toArray, List.set_cons_zero, List.set_cons_succ]
    refine wpAnyH_one 9 rfl (by kernel_rfl) (fun K' hK' => ?_)
    go_simp
    (go_at_call 34; (with_reducible refine (hc _).mono ?_); rintro e w4 ⟨rfl, hw4⟩)
    go_wp2
    have hB4 := bnext hB3 hw4; have P4 := P3.below hw4; have s4 := s1 _ P4
    refine hK'.out _ _ s4 ?_; clear hK' K'; try simp only [Act.put, List.setIfInBounds_toArray, List.set_cons_zero, List.set_cons_succ]
    refine wpAnyH_takeD 10 (some 37) (v := (.bool false)) rfl rfl (by kernel_rfl) (by kernel_rfl) (by kernel_rfl) (fun _ _ _ h => h) (yieldsIf_calc rfl (fun w => by unfold execOp; go_simp)) (by assumption) ?_; try simp only [Act.put, List.setIfInBounds_toArray, List.set_cons_zero, List.set_cons_succ]
    refine wpAnyH_takeD 11 (some 38) (v := (.bool false)) rfl rfl (by kernel_rfl) (by kernel_rfl) (by kernel_rfl) (fun _ _ _ h => h) (yieldsIf_calc rfl (fun w => by unfold execOp; go_simp)) (by assumption) ?_; try simp only [Act.put, List.setIfInBounds_toArray, List.set_cons_zero, List.set_cons_succ]
    refine wpAnyH_takeD 12 (some 39) (v := (.bool false)) rfl rfl (by kernel_rfl) (by kernel_rfl) (by kernel_rfl) (fun _ _ _ h => h) (yieldsIf_calc rfl (fun w => by unfold execOp; go_simp)) (by assumption) ?_; try simp only [Act.put, List.setIfInBounds_toArray, List.set_cons_zero, List.set_cons_succ]
    refine wpAnyH_takeD 13 (some 40) (v := (.pointer (some ⟨w.heap.size, 0, none⟩))) rfl rfl (by kernel_rfl) (by kernel_rfl) (by kernel_rfl) (fun _ _ _ h => h) (yieldsIf_calc rfl (fun w => by unfold execOp; go_simp)) (by assumption) ?_; try simp only [Act.put, List.setIfInBounds_toArray, List.set_cons_zero, List.set_cons_succ]
    refine wpAnyH_takeD 14 (some 41) (v := (.int .u64 n)) rfl rfl (by kernel_rfl) (by kernel_rfl) (by kernel_rfl) (fun _ _ _ h => h) (.inl ⟨rfl, fun w hSw => by obtain ⟨y0, y1, y2, y3⟩ := hSw; unfold execOp; go_simp⟩) (by assumption) ?_; try simp only [Act.put, List.setIfInBounds_toArray, List.set_cons_zero, List.set_cons_succ]
    refine wpAnyH_takeD 15 (some 42) (v := (.bool true)) rfl rfl (by kernel_rfl) (by kernel_rfl) (by kernel_rfl) (fun _ _ _ h => h) (yieldsIf_calc rfl (fun w => by unfold execOp; go_simp)) (by assumption) ?_; try simp only [Act.put, List.setIfInBounds_toArray, List.set_cons_zero, List.set_cons_succ]
    refine wpAnyH_takeD 16 (some 43) (v := (.bool true)) rfl rfl (by kernel_rfl) (by kernel_rfl) (by kernel_rfl) (fun _ _ _ h => h) (yieldsIf_calc rfl (fun w => by unfold execOp; go_simp)) (by assumption) ?_; try simp only [Act.put, List.setIfInBounds_toArray, List.set_cons_zero, List.set_cons_succ]
    refine wpAnyH_takeD 17 (some 44) (v := (.agg #[.int .u64 u, .int .u64 v])) rfl rfl (by kernel_rfl) (by kernel_rfl) (by kernel_rfl) (fun _ _ _ h => h) (.inl ⟨rfl, fun w hSw => by obtain ⟨y0, y1, y2, y3⟩ := hSw; unfold execOp; go_simp⟩) (by assumption) ?_; try simp only [Act.put, List.setIfInBounds_toArray, List.set_cons_zero, List.set_cons_succ]
    refine wpAnyH_one 18 rfl (by kernel_rfl) (fun K' hK' => ?_)
    go_simp
    (go_at_call 38; (with_reducible refine (lz0 _).mono ?_); rintro e w5 ⟨rfl, hw5⟩)
    go_wp2
    have hB5 := bnext hB4 hw5; have P5 := P4.below hw5; have s5 := s1 _ P5
    refine hK'.out _ _ s5 ?_; clear hK' K'; try simp only [Act.put, List.setIfInBounds_toArray, List.set_cons_zero, List.set_cons_succ]
    refine wpAnyH_takeD 19 (some 46) (v := (.bool false)) rfl rfl (by kernel_rfl) (by kernel_rfl) (by kernel_rfl) (fun _ _ _ h => h) (yieldsIf_calc rfl (fun w => by unfold execOp; go_simp)) (by assumption) ?_; try simp only [Act.put, List.setIfInBounds_toArray, List.set_cons_zero, List.set_cons_succ]
    refine wpAnyH_takeD 20 (some 47) (v := (.bool false)) rfl rfl (by kernel_rfl) (by kernel_rfl) (by kernel_rfl) (fun _ _ _ h => h) (yieldsIf_calc rfl (fun w => by unfold execOp; go_simp)) (by assumption) ?_; try simp only [Act.put, List.setIfInBounds_toArray, List.set_cons_zero, List.set_cons_succ]
    refine wpAnyH_takeD 21 (some 48) (v := (.bool false)) rfl rfl (by kernel_rfl) (by kernel_rfl) (by kernel_rfl) (fun _ _ _ h => h) (yieldsIf_calc rfl (fun w => by unfold execOp; go_simp)) (by assumption) ?_; try simp only [Act.put, List.setIfInBounds_toArray, List.set_cons_zero, List.set_cons_succ]
    refine wpAnyH_takeD 22 (some 49) (v := (.bool false)) rfl rfl (by kernel_rfl) (by kernel_rfl) (by kernel_rfl) (fun _ _ _ h => h) (yieldsIf_calc rfl (fun w => by unfold execOp; go_simp)) (by assumption) ?_; try simp only [Act.put, List.setIfInBounds_toArray, List.set_cons_zero, List.set_cons_succ]
    refine wpAnyH_takeD 23 (some 50) (v := (.pointer (some ⟨w.heap.size, 1, none⟩))) rfl rfl (by kernel_rfl) (by kernel_rfl) (by kernel_rfl) (fun _ _ _ h => h) (yieldsIf_calc rfl (fun w => by unfold execOp; go_simp)) (by assumption) ?_; try simp only [Act.put, List.setIfInBounds_toArray, List.set_cons_zero, List.set_cons_succ]
    refine wpAnyH_takeD 24 (some 51) (v := (.int .u64 d)) rfl rfl (by kernel_rfl) (by kernel_rfl) (by kernel_rfl) (fun _ _ _ h => h) (.inl ⟨rfl, fun w hSw => by obtain ⟨y0, y1, y2, y3⟩ := hSw; unfold execOp; go_simp⟩) (by assumption) ?_; try simp only [Act.put, List.setIfInBounds_toArray, List.set_cons_zero, List.set_cons_succ]
    refine wpAnyH_takeD 25 (some 52) (v := (.bool false)) rfl rfl (by kernel_rfl) (by kernel_rfl) (by kernel_rfl) (fun _ _ _ h => h) (yieldsIf_calc rfl (fun w => by unfold execOp; go_simp)) (by assumption) ?_; try simp only [Act.put, List.setIfInBounds_toArray, List.set_cons_zero, List.set_cons_succ]
    refine wpAnyH_takeD 26 (some 53) (v := (.bool false)) rfl rfl (by kernel_rfl) (by kernel_rfl) (by kernel_rfl) (fun _ _ _ h => h) (yieldsIf_calc rfl (fun w => by unfold execOp; go_simp)) (by assumption) ?_; try simp only [Act.put, List.setIfInBounds_toArray, List.set_cons_zero, List.set_cons_succ]
    refine wpAnyH_takeD 27 (some 54) (v := undef) rfl rfl (by kernel_rfl) (by kernel_rfl) (by kernel_rfl) (fun _ _ _ h => h) (.inr ⟨rfl, rfl⟩) (by assumption) ?_; try simp only [Act.put, List.setIfInBounds_toArray, List.set_cons_zero, List.set_cons_succ]
    refine wpAnyH_takeD 28 (some 55) (v := undef) rfl rfl (by kernel_rfl) (by kernel_rfl) (by kernel_rfl) (fun _ _ _ h => h) (.inr ⟨rfl, rfl⟩) (by assumption) ?_; try simp only [Act.put, List.setIfInBounds_toArray, List.set_cons_zero, List.set_cons_succ]
    refine wpAnyH_takeD 29 (some 56) (v := undef) rfl rfl (by kernel_rfl) (by kernel_rfl) (by kernel_rfl) (fun _ _ _ h => h) (.inr ⟨rfl, rfl⟩) (by assumption) ?_; try simp only [Act.put, List.setIfInBounds_toArray, List.set_cons_zero, List.set_cons_succ]
    refine wpAnyH_takeD 30 (some 57) (v := (.bool false)) rfl rfl (by kernel_rfl) (by kernel_rfl) (by kernel_rfl) (fun _ _ _ h => h) (yieldsIf_calc rfl (fun w => by unfold execOp; go_simp)) (by assumption) ?_; try simp only [Act.put, List.setIfInBounds_toArray, List.set_cons_zero, List.set_cons_succ]
    refine wpAnyH_takeD 31 (some 58) (v := (.bool false)) rfl rfl (by kernel_rfl) (by kernel_rfl) (by kernel_rfl) (fun _ _ _ h => h) (yieldsIf_calc rfl (fun w => by unfold execOp; go_simp)) (by assumption) ?_; try simp only [Act.put, List.setIfInBounds_toArray, List.set_cons_zero, List.set_cons_succ]
    refine wpAnyH_done (by kernel_rfl) ?_ _
    have HB := hB5
    have PP := P5
    have y0 := PP.t0.c0
    have y1 := PP.t0.c1
    have y2 := PP.t1.c0
    have y3 := PP.t1.c1
    clear hBd Pd s0 s1 s3 s4 s5 P3 P4 P5 hB3 hB4 hB5 b2 hc lz0 lz1 hHeld
    have e1 := e1.out
    have e2 := e2.out
    rcases hdiv.out with q1 | ⟨q1, q2⟩ | ⟨q1, rfl, q2⟩
    all_goals
      try have q3 : ((ru : Int) == 0) = false := by rw [beq_eq_false_iff_ne]; omega
      try have q4 : ((rv : Int) == 0) = false := by rw [beq_eq_false_iff_ne]; omega
      try have q5 : (D : Int) ≠ 0 := by omega
      try have f0' := f0.out
      try have f1' := f1.out
      rcases hfac.out with p1 | ⟨p1, p2⟩ | ⟨p1, p2, p3⟩ | ⟨p1, p2, p3, p4⟩ | ⟨p1, p2, p3, p4⟩
      · clear f0' f1'
        go_wp2_with (go_at_call 31; (with_reducible refine (hk _).mono ?_); rintro e w8 ⟨rfl, hw8⟩; have hB8 := bnext HB hw8)
        go_ret
        exact ⟨rfl, hB8⟩
      · clear f0' f1'
        go_wp2_with (go_at_call 31; (with_reducible refine (hk _).mono ?_); rintro e w8 ⟨rfl, hw8⟩; have hB8 := bnext HB hw8)
        go_ret
        exact ⟨rfl, hB8⟩
      · first
          | (exfalso; omega)
          | (clear f0' f1'
             have p1' : ¬ ((F : Int) < 1) := by omega
             have p2' : ¬ ((4294967296 : Int) ≤ F) := by omega
             clear p1 p2
             go_wp2_with (go_at_call 31; (with_reducible refine (hk _).mono ?_); rintro e w8 ⟨rfl, hw8⟩; have hB8 := bnext HB hw8)
             go_ret
             exact ⟨rfl, hB8⟩)
      · first
          | (exfalso; omega)
          | (clear f0' f1'
             have p1' : ¬ ((F : Int) < 1) := by omega
             have p2' : ¬ ((4294967296 : Int) ≤ F) := by omega
             have p3' : ¬ ((4294967296 : Int) ≤ n) := by omega
             clear p1 p2 p3
             go_wp2_with (go_at_call 31; (with_reducible refine (hk _).mono ?_); rintro e w8 ⟨rfl, hw8⟩; have hB8 := bnext HB hw8)
             go_ret
             exact ⟨rfl, hB8⟩)
      · obtain ⟨g5, g6, g7⟩ := hs.out (by omega) (by omega) (by omega) (by omega)
        have p1' : ¬ ((F : Int) < 1) := by omega
        have p2' : ¬ ((4294967296 : Int) ≤ F) := by omega
        have p3' : ¬ ((4294967296 : Int) ≤ n) := by omega
        have p4' : ¬ ((4294967296 : Int) ≤ d) := by omega
        clear hs f0' f1' p1 p2 p3 p4
        go_wp2_with (first
          | (go_at_call 38; (with_reducible refine (ho _).mono ?_); rintro e w6 ⟨rfl, hw6⟩; have hB6 := bnext HB hw6; have P6 := PP.below hw6)
          | (go_at_call 37; (with_reducible refine (g7 _).mono ?_); rintro e w7 ⟨rfl, hw7⟩; have hB7 := below_new (bnext hB6 hw7) (.cells #[.int .u64 (u : Nat), .int .u64 (v : Nat)] 56); have P7 := (P6.below hw7).alloc (.cells #[.int .u64 (u : Nat), .int .u64 (v : Nat)] 56); have T7 := Two.new w7 u v 56; have i0 := P7.t1.c0; have i1 := P7.t1.c1; have i2 := T7.c0; have i3 := T7.c1)
          | (go_at_call 31; (with_reducible refine (hk _).mono ?_); rintro e w8 ⟨rfl, hw8⟩; have hB8 := bnext hB7 hw8))
        go_ret
        exact ⟨rfl, hB8⟩
  · have g1 : ((d : Int) == 0) = true := by simp [f0]
    have g0 : ((n : Int) == 0) = false := by rw [beq_eq_false_iff_ne]; omega
    have g2 : ((u : Int) == 1) = true := by simp [f2]
    have g3 : ((v : Int) == 0) = true := by simp [f3]
    clear f2 f3
    replace f0 := Lib.hid f0
    replace f1 := Lib.hid f1
    clear hfirst
    refine wp_region_held_drew (S := (fun w' => w'.cell? ⟨w.heap.size, 0, none⟩ = some (.int .u64 n) ∧ w'.cell? ⟨w.heap.size, 1, none⟩ = some (.int .u64 d) ∧ w'.cell? ⟨b7, 0, none⟩ = some (.int .u64 u) ∧ w'.cell? ⟨b7, 1, none⟩ = some (.int .u64 v))) hpm s0 (fun hHeld => ?_)
    refine wpAnyH_takeD 0 (some 27) (v := (.int .i64 0)) rfl rfl (by kernel_rfl) (by kernel_rfl) (by kernel_rfl) (fun _ _ _ h => h) (yieldsIf_calc rfl (fun w => by unfold execOp; go_simp)) (by assumption) ?_; try simp only [Act.put, List.setIfInBounds_toArray, List.set_cons_zero, List.set_cons_succ]
    refine wpAnyH_takeD 1 (some 28) (v := (.bool false)) rfl rfl (by kernel_rfl) (by kernel_rfl) (by kernel_rfl) (fun _ _ _ h => h) (yieldsIf_calc rfl (fun w => by unfold execOp; go_simp)) (by assumption) ?_; try simp only [Act.put, List.setIfInBounds_toArray, List.set_cons_zero, List.set_cons_succ]
    refine wpAnyH_takeD 2 (some 29) (v := (.bool false)) rfl rfl (by kernel_rfl) (by kernel_rfl) (by kernel_rfl) (fun _ _ _ h => h) (yieldsIf_calc rfl (fun w => by unfold execOp; go_simp)) (by assumption) ?_; try simp only [Act.put, List.setIfInBounds_toArray, List.set_cons_zero, List.set_cons_succ]
    refine wpAnyH_takeD 3 (some 30) (v := (.agg #[.int .u64 u, .int .u64 v])) rfl rfl (by kernel_rfl) (by kernel_rfl) (by kernel_rfl) (fun _ _ _ h => h) (.inl ⟨rfl, fun w hSw => by obtain ⟨y0, y1, y2, y3⟩ := hSw; unfold execOp; go_simp⟩) (by assumption) ?_; try simp only [Act.put, List.setIfInBounds_toArray, List.set_cons_zero, List.set_cons_succ]
    refine wpAnyH_one 4 rfl (by kernel_rfl) (fun K' hK' => ?_)
    go_simp
    (go_at_call 33; (with_reducible refine (b2 _).mono ?_); rintro e w3 ⟨rfl, hw3⟩)
    go_wp2
    have hB3 := bnext hBd hw3; have P3 := Pd.below hw3; have s3 := s1 _ P3
    refine hK'.out _ _ s3 ?_; clear hK' K'; try simp only [Act.put, List.setIfInBounds_toArray, List.set_cons_zero, List.set_cons_succ]
    refine wpAnyH_takeD 5 (some 32) (v := (.bool false)) rfl rfl (by kernel_rfl) (by kernel_rfl) (by kernel_rfl) (fun _ _ _ h => h) (yieldsIf_calc rfl (fun w => by unfold execOp; go_simp)) (by assumption) ?_; try simp only [Act.put, List.setIfInBounds_toArray, List.set_cons_zero, List.set_cons_succ]
    refine wpAnyH_takeD 6 (some 33) (v := (.bool false)) rfl rfl (by kernel_rfl) (by kernel_rfl) (by kernel_rfl) (fun _ _ _ h => h) (yieldsIf_calc rfl (fun w => by unfold execOp; go_simp)) (by assumption) ?_; try simp only [Act.put, List.setIfInBounds_toArray, List.set_cons_zero, List.set_cons_succ]
    refine wpAnyH_takeD 7 (some 34) (v := (.agg #[.int .u64 n, .int .u64 d])) rfl rfl (by kernel_rfl) (by kernel_rfl) (by kernel_rfl) (fun _ _ _ h => h) (.inl ⟨rfl, fun w hSw => by obtain ⟨y0, y1, y2, y3⟩ := hSw; unfold execOp; go_simp⟩) (by assumption) ?_; try simp only [Act.put, List.setIfInBounds_toArray, List.set_cons_zero, List.set_cons_succ]
    refine wpAnyH_takeD 8 (some 35) (v := (.agg #[.int .u64 u, .int .u64 v])) rfl rfl (by kernel_rfl) (by kernel_rfl) (by kernel_rfl) (fun _ _ _ h => h) (.inl ⟨rfl, fun w hSw => by obtain ⟨y0, y1, y2, y3⟩ := hSw; unfold execOp; go_simp⟩) (by assumption) ?_; try simp only [Act.put, List.setIfInBounds_toArray, List.set_cons_zero, List.set_cons_succ]
    refine wpAnyH_one 9 rfl (by kernel_rfl) (fun K' hK' => ?_)
    go_simp
    (go_at_call 34; (with_reducible refine (hc _).mono ?_); rintro e w4 ⟨rfl, hw4⟩)
    go_wp2
    have hB4 := bnext hB3 hw4; have P4 := P3.below hw4; have s4 := s1 _ P4
    refine hK'.out _ _ s4 ?_; clear hK' K'; try simp only [Act.put, List.setIfInBounds_toArray, List.set_cons_zero, List.set_cons_succ]
    refine wpAnyH_takeD 10 (some 37) (v := (.bool false)) rfl rfl (by kernel_rfl) (by kernel_rfl) (by kernel_rfl) (fun _ _ _ h => h) (yieldsIf_calc rfl (fun w => by unfold execOp; go_simp)) (by assumption) ?_; try simp only [Act.put, List.setIfInBounds_toArray, List.set_cons_zero, List.set_cons_succ]
    refine wpAnyH_takeD 11 (some 38) (v := (.bool false)) rfl rfl (by kernel_rfl) (by kernel_rfl) (by kernel_rfl) (fun _ _ _ h => h) (yieldsIf_calc rfl (fun w => by unfold execOp; go_simp)) (by assumption) ?_; try simp only [Act.put, List.setIfInBounds_toArray, List.set_cons_zero, List.set_cons_succ]
    refine wpAnyH_takeD 12 (some 39) (v := (.bool false)) rfl rfl (by kernel_rfl) (by kernel_rfl) (by kernel_rfl) (fun _ _ _ h => h) (yieldsIf_calc rfl (fun w => by unfold execOp; go_simp)) (by assumption) ?_; try simp only [Act.put, List.setIfInBounds_toArray, List.set_cons_zero, List.set_cons_succ]
    refine wpAnyH_takeD 13 (some 40) (v := (.pointer (some ⟨w.heap.size, 0, none⟩))) rfl rfl (by kernel_rfl) (by kernel_rfl) (by kernel_rfl) (fun _ _ _ h => h) (yieldsIf_calc rfl (fun w => by unfold execOp; go_simp)) (by assumption) ?_; try simp only [Act.put, List.setIfInBounds_toArray, List.set_cons_zero, List.set_cons_succ]
    refine wpAnyH_takeD 14 (some 41) (v := (.int .u64 n)) rfl rfl (by kernel_rfl) (by kernel_rfl) (by kernel_rfl) (fun _ _ _ h => h) (.inl ⟨rfl, fun w hSw => by obtain ⟨y0, y1, y2, y3⟩ := hSw; unfold execOp; go_simp⟩) (by assumption) ?_; try simp only [Act.put, List.setIfInBounds_toArray, List.set_cons_zero, List.set_cons_succ]
    refine wpAnyH_takeD 15 (some 42) (v := (.bool false)) rfl rfl (by kernel_rfl) (by kernel_rfl) (by kernel_rfl) (fun _ _ _ h => h) (yieldsIf_calc rfl (fun w => by unfold execOp; go_simp)) (by assumption) ?_; try simp only [Act.put, List.setIfInBounds_toArray, List.set_cons_zero, List.set_cons_succ]
    refine wpAnyH_takeD 16 (some 43) (v := (.bool false)) rfl rfl (by kernel_rfl) (by kernel_rfl) (by kernel_rfl) (fun _ _ _ h => h) (yieldsIf_calc rfl (fun w => by unfold execOp; go_simp)) (by assumption) ?_; try simp only [Act.put, List.setIfInBounds_toArray, List.set_cons_zero, List.set_cons_succ]
    refine wpAnyH_takeD 17 (some 44) (v := undef) rfl rfl (by kernel_rfl) (by kernel_rfl) (by kernel_rfl) (fun _ _ _ h => h) (.inr ⟨rfl, rfl⟩) (by assumption) ?_; try simp only [Act.put, List.setIfInBounds_toArray, List.set_cons_zero, List.set_cons_succ]
    refine wpAnyH_takeD 18 (some 45) (v := undef) rfl rfl (by kernel_rfl) (by kernel_rfl) (by kernel_rfl) (fun _ _ _ h => h) (.inr ⟨rfl, rfl⟩) (by assumption) ?_; try simp only [Act.put, List.setIfInBounds_toArray, List.set_cons_zero, List.set_cons_succ]
    refine wpAnyH_takeD 19 (some 46) (v := undef) rfl rfl (by kernel_rfl) (by kernel_rfl) (by kernel_rfl) (fun _ _ _ h => h) (.inr ⟨rfl, rfl⟩) (by assumption) ?_; try simp only [Act.put, List.setIfInBounds_toArray, List.set_cons_zero, List.set_cons_succ]
    refine wpAnyH_takeD 20 (some 47) (v := (.bool false)) rfl rfl (by kernel_rfl) (by kernel_rfl) (by kernel_rfl) (fun _ _ _ h => h) (yieldsIf_calc rfl (fun w => by unfold execOp; go_simp)) (by assumption) ?_; try simp only [Act.put, List.setIfInBounds_toArray, List.set_cons_zero, List.set_cons_succ]
    refine wpAnyH_takeD 21 (some 48) (v := (.bool false)) rfl rfl (by kernel_rfl) (by kernel_rfl) (by kernel_rfl) (fun _ _ _ h => h) (yieldsIf_calc rfl (fun w => by unfold execOp; go_simp)) (by assumption) ?_; try simp only [Act.put, List.setIfInBounds_toArray, List.set_cons_zero, List.set_cons_succ]
    refine wpAnyH_takeD 22 (some 49) (v := (.bool false)) rfl rfl (by kernel_rfl) (by kernel_rfl) (by kernel_rfl) (fun _ _ _ h => h) (yieldsIf_calc rfl (fun w => by unfold execOp; go_simp)) (by assumption) ?_; try simp only [Act.put, List.setIfInBounds_toArray, List.set_cons_zero, List.set_cons_succ]
    refine wpAnyH_takeD 23 (some 50) (v := (.pointer (some ⟨w.heap.size, 1, none⟩))) rfl rfl (by kernel_rfl) (by kernel_rfl) (by kernel_rfl) (fun _ _ _ h => h) (yieldsIf_calc rfl (fun w => by unfold execOp; go_simp)) (by assumption) ?_; try simp only [Act.put, List.setIfInBounds_toArray, List.set_cons_zero, List.set_cons_succ]
    refine wpAnyH_takeD 24 (some 51) (v := (.int .u64 d)) rfl rfl (by kernel_rfl) (by kernel_rfl) (by kernel_rfl) (fun _ _ _ h => h) (.inl ⟨rfl, fun w hSw => by obtain ⟨y0, y1, y2, y3⟩ := hSw; unfold execOp; go_simp⟩) (by assumption) ?_; try simp only [Act.put, List.setIfInBounds_toArray, List.set_cons_zero, List.set_cons_succ]
    refine wpAnyH_takeD 25 (some 52) (v := (.bool true)) rfl rfl (by kernel_rfl) (by kernel_rfl) (by kernel_rfl) (fun _ _ _ h => h) (yieldsIf_calc rfl (fun w => by unfold execOp; go_simp)) (by assumption) ?_; try simp only [Act.put, List.setIfInBounds_toArray, List.set_cons_zero, List.set_cons_succ]
    refine wpAnyH_takeD 26 (some 53) (v := (.bool true)) rfl rfl (by kernel_rfl) (by kernel_rfl) (by kernel_rfl) (fun _ _ _ h => h) (yieldsIf_calc rfl (fun w => by unfold execOp; go_simp)) (by assumption) ?_; try simp only [Act.put, List.setIfInBounds_toArray, List.set_cons_zero, List.set_cons_succ]
    refine wpAnyH_takeD 27 (some 54) (v := (.agg #[.int .u64 u, .int .u64 v])) rfl rfl (by kernel_rfl) (by kernel_rfl) (by kernel_rfl) (fun _ _ _ h => h) (.inl ⟨rfl, fun w hSw => by obtain ⟨y0, y1, y2, y3⟩ := hSw; unfold execOp; go_simp⟩) (by assumption) ?_; try simp only [Act.put, List.setIfInBounds_toArray, List.set_cons_zero, List.set_cons_succ]
    refine wpAnyH_one 28 rfl (by kernel_rfl) (fun K' hK' => ?_)
    go_simp
    (go_at_call 38; (with_reducible refine (lz1 _).mono ?_); rintro e w5 ⟨rfl, hw5⟩)
    go_wp2
    have hB5 := bnext hB4 hw5; have P5 := P4.below hw5; have s5 := s1 _ P5
    refine hK'.out _ _ s5 ?_; clear hK' K'; try simp only [Act.put, List.setIfInBounds_toArray, List.set_cons_zero, List.set_cons_succ]
    refine wpAnyH_takeD 29 (some 56) (v := (.bool false)) rfl rfl (by kernel_rfl) (by kernel_rfl) (by kernel_rfl) (fun _ _ _ h => h) (yieldsIf_calc rfl (fun w => by unfold execOp; go_simp)) (by assumption) ?_; try simp only [Act.put, List.setIfInBounds_toArray, List.set_cons_zero, List.set_cons_succ]
    refine wpAnyH_takeD 30 (some 57) (v := (.bool false)) rfl rfl (by kernel_rfl) (by kernel_rfl) (by kernel_rfl) (fun _ _ _ h => h) (yieldsIf_calc rfl (fun w => by unfold execOp; go_simp)) (by assumption) ?_; try simp only [Act.put, List.setIfInBounds_toArray, List.set_cons_zero, List.set_cons_succ]
    refine wpAnyH_takeD 31 (some 58) (v := (.bool false)) rfl rfl (by kernel_rfl) (by kernel_rfl) (by kernel_rfl) (fun _ _ _ h => h) (yieldsIf_calc rfl (fun w => by unfold execOp; go_simp)) (by assumption) ?_; try simp only [Act.put, List.setIfInBounds_toArray, List.set_cons_zero, List.set_cons_succ]
    refine wpAnyH_done (by kernel_rfl) ?_ _
    have HB := hB5
    have PP := P5
    have y0 := PP.t0.c0
    have y1 := PP.t0.c1
    have y2 := PP.t1.c0
    have y3 := PP.t1.c1
    clear hBd Pd s0 s1 s3 s4 s5 P3 P4 P5 hB3 hB4 hB5 b2 hc lz0 lz1 hHeld
    have e1 := e1.out
    have e2 := e2.out
    rcases hdiv.out with q1 | ⟨q1, q2⟩ | ⟨q1, rfl, q2⟩
    all_goals
      try have q3 : ((ru : Int) == 0) = false := by rw [beq_eq_false_iff_ne]; omega
      try have q4 : ((rv : Int) == 0) = false := by rw [beq_eq_false_iff_ne]; omega
      try have q5 : (D : Int) ≠ 0 := by omega
      try have f0' := f0.out
      try have f1' := f1.out
      rcases hfac.out with p1 | ⟨p1, p2⟩ | ⟨p1, p2, p3⟩ | ⟨p1, p2, p3, p4⟩ | ⟨p1, p2, p3, p4⟩
      · clear f0' f1'
        go_wp2_with (go_at_call 31; (with_reducible refine (hk _).mono ?_); rintro e w8 ⟨rfl, hw8⟩; have hB8 := bnext HB hw8)
        go_ret
        exact ⟨rfl, hB8⟩
      · clear f0' f1'
        go_wp2_with (go_at_call 31; (with_reducible refine (hk _).mono ?_); rintro e w8 ⟨rfl, hw8⟩; have hB8 := bnext HB hw8)
        go_ret
        exact ⟨rfl, hB8⟩
      · first
          | (exfalso; omega)
          | (clear f0' f1'
             have p1' : ¬ ((F : Int) < 1) := by omega
             have p2' : ¬ ((4294967296 : Int) ≤ F) := by omega
             clear p1 p2
             go_wp2_with (go_at_call 31; (with_reducible refine (hk _).mono ?_); rintro e w8 ⟨rfl, hw8⟩; have hB8 := bnext HB hw8)
             go_ret
             exact ⟨rfl, hB8⟩)
      · first
          | (exfalso; omega)
          | (clear f0' f1'
             have p1' : ¬ ((F : Int) < 1) := by omega
             have p2' : ¬ ((4294967296 : Int) ≤ F) := by omega
             have p3' : ¬ ((4294967296 : Int) ≤ n) := by omega
             clear p1 p2 p3
             go_wp2_with (go_at_call 31; (with_reducible refine (hk _).mono ?_); rintro e w8 ⟨rfl, hw8⟩; have hB8 := bnext HB hw8)
             go_ret
             exact ⟨rfl, hB8⟩)
      · obtain ⟨g5, g6, g7⟩ := hs.out (by omega) (by omega) (by omega) (by omega)
        have p1' : ¬ ((F : Int) < 1) := by omega
        have p2' : ¬ ((4294967296 : Int) ≤ F) := by omega
        have p3' : ¬ ((4294967296 : Int) ≤ n) := by omega
        have p4' : ¬ ((4294967296 : Int) ≤ d) := by omega
        clear hs f0' f1' p1 p2 p3 p4
        go_wp2_with (first
          | (go_at_call 38; (with_reducible refine (ho _).mono ?_); rintro e w6 ⟨rfl, hw6⟩; have hB6 := bnext HB hw6; have P6 := PP.below hw6)
          | (go_at_call 37; (with_reducible refine (g7 _).mono ?_); rintro e w7 ⟨rfl, hw7⟩; have hB7 := below_new (bnext hB6 hw7) (.cells #[.int .u64 (u : Nat), .int .u64 (v : Nat)] 56); have P7 := (P6.below hw7).alloc (.cells #[.int .u64 (u : Nat), .int .u64 (v : Nat)] 56); have T7 := Two.new w7 u v 56; have i0 := P7.t1.c0; have i1 := P7.t1.c1; have i2 := T7.c0; have i3 := T7.c1)
          | (go_at_call 31; (with_reducible refine (hk _).mono ?_); rintro e w8 ⟨rfl, hw8⟩; have hB8 := bnext hB7 hw8))
        go_ret
        exact ⟨rfl, hB8⟩
  · have g0 : ((n : Int) == 0) = false := by rw [beq_eq_false_iff_ne]; omega
    have g1 : ((d : Int) == 0) = false := by rw [beq_eq_false_iff_ne]; omega
    replace f0 := Lib.hid f0
    replace f1 := Lib.hid f1
    clear hfirst
    refine wp_region_held_drew (S := (fun w' => w'.cell? ⟨w.heap.size, 0, none⟩ = some (.int .u64 n) ∧ w'.cell? ⟨w.heap.size, 1, none⟩ = some (.int .u64 d) ∧ w'.cell? ⟨b7, 0, none⟩ = some (.int .u64 u) ∧ w'.cell? ⟨b7, 1, none⟩ = some (.int .u64 v))) hpm s0 (fun hHeld => ?_)
    refine wpAnyH_takeD 0 (some 27) (v := (.int .i64 0)) rfl rfl (by kernel_rfl) (by kernel_rfl) (by kernel_rfl) (fun _ _ _ h => h) (yieldsIf_calc rfl (fun w => by unfold execOp; go_simp)) (by assumption) ?_; try simp only [Act.put, List.setIfInBounds_toArray, List.set_cons_zero, List.set_cons_succ]
    refine wpAnyH_takeD 1 (some 28) (v := (.bool false)) rfl rfl (by kernel_rfl) (by kernel_rfl) (by kernel_rfl) (fun _ _ _ h => h) (yieldsIf_calc rfl (fun w => by unfold execOp; go_simp)) (by assumption) ?_; try simp only [Act.put, List.setIfInBounds_toArray, List.set_cons_zero, List.set_cons_succ]
    refine wpAnyH_takeD 2 (some 29) (v := (.bool false)) rfl rfl (by kernel_rfl) (by kernel_rfl) (by kernel_rfl) (fun _ _ _ h => h) (yieldsIf_calc rfl (fun w => by unfold execOp; go_simp)) (by assumption) ?_; try simp only [Act.put, List.setIfInBounds_toArray, List.set_cons_zero, List.set_cons_succ]
    refine wpAnyH_takeD 3 (some 30) (v := (.agg #[.int .u64 u, .int .u64 v])) rfl rfl (by kernel_rfl) (by kernel_rfl) (by kernel_rfl) (fun _ _ _ h => h) (.inl ⟨rfl, fun w hSw => by obtain ⟨y0, y1, y2, y3⟩ := hSw; unfold execOp; go_simp⟩) (by assumption) ?_; try simp only [Act.put, List.setIfInBounds_toArray, List.set_cons_zero, List.set_cons_succ]
    refine wpAnyH_one 4 rfl (by kernel_rfl) (fun K' hK' => ?_)
    go_simp
    (go_at_call 33; (with_reducible refine (b2 _).mono ?_); rintro e w3 ⟨rfl, hw3⟩)
    go_wp2
    have hB3 := bnext hBd hw3; have P3 := Pd.below hw3; have s3 := s1 _ P3
    refine hK'.out _ _ s3 ?_; clear hK' K'; try simp only [Act.put, List.setIfInBounds_toArray, List.set_cons_zero, List.set_cons_succ]
    refine wpAnyH_takeD 5 (some 32) (v := (.bool false)) rfl rfl (by kernel_rfl) (by kernel_rfl) (by kernel_rfl) (fun _ _ _ h => h) (yieldsIf_calc rfl (fun w => by unfold execOp; go_simp)) (by assumption) ?_; try simp only [Act.put, List.setIfInBounds_toArray, List.set_cons_zero, List.set_cons_succ]
    refine wpAnyH_takeD 6 (some 33) (v := (.bool false)) rfl rfl (by kernel_rfl) (by kernel_rfl) (by kernel_rfl) (fun _ _ _ h => h) (yieldsIf_calc rfl (fun w => by unfold execOp; go_simp)) (by assumption) ?_; try simp only [Act.put, List.setIfInBounds_toArray, List.set_cons_zero, List.set_cons_succ]
    refine wpAnyH_takeD 7 (some 34) (v := (.agg #[.int .u64 n, .int .u64 d])) rfl rfl (by kernel_rfl) (by kernel_rfl) (by kernel_rfl) (fun _ _ _ h => h) (.inl ⟨rfl, fun w hSw => by obtain ⟨y0, y1, y2, y3⟩ := hSw; unfold execOp; go_simp⟩) (by assumption) ?_; try simp only [Act.put, List.setIfInBounds_toArray, List.set_cons_zero, List.set_cons_succ]
    refine wpAnyH_takeD 8 (some 35) (v := (.agg #[.int .u64 u, .int .u64 v])) rfl rfl (by kernel_rfl) (by kernel_rfl) (by kernel_rfl) (fun _ _ _ h => h) (.inl ⟨rfl, fun w hSw => by obtain ⟨y0, y1, y2, y3⟩ := hSw; unfold execOp; go_simp⟩) (by assumption) ?_; try simp only [Act.put, List.setIfInBounds_toArray, List.set_cons_zero, List.set_cons_succ]
    refine wpAnyH_one 9 rfl (by kernel_rfl) (fun K' hK' => ?_)
    go_simp
    (go_at_call 34; (with_reducible refine (hc _).mono ?_); rintro e w4 ⟨rfl, hw4⟩)
    go_wp2
    have hB4 := bnext hB3 hw4; have P4 := P3.below hw4; have s4 := s1 _ P4
    refine hK'.out _ _ s4 ?_; clear hK' K'; try simp only [Act.put, List.setIfInBounds_toArray, List.set_cons_zero, List.set_cons_succ]
    refine wpAnyH_takeD 10 (some 37) (v := (.bool false)) rfl rfl (by kernel_rfl) (by kernel_rfl) (by kernel_rfl) (fun _ _ _ h => h) (yieldsIf_calc rfl (fun w => by unfold execOp; go_simp)) (by assumption) ?_; try simp only [Act.put, List.setIfInBounds_toArray, List.set_cons_zero, List.set_cons_succ]
    refine wpAnyH_takeD 11 (some 38) (v := (.bool false)) rfl rfl (by kernel_rfl) (by kernel_rfl) (by kernel_rfl) (fun _ _ _ h => h) (yieldsIf_calc rfl (fun w => by unfold execOp; go_simp)) (by assumption) ?_; try simp only [Act.put, List.setIfInBounds_toArray, List.set_cons_zero, List.set_cons_succ]
    refine wpAnyH_takeD 12 (some 39) (v := (.bool false)) rfl rfl (by kernel_rfl) (by kernel_rfl) (by kernel_rfl) (fun _ _ _ h => h) (yieldsIf_calc rfl (fun w => by unfold execOp; go_simp)) (by assumption) ?_; try simp only [Act.put, List.setIfInBounds_toArray, List.set_cons_zero, List.set_cons_succ]
    refine wpAnyH_takeD 13 (some 40) (v := (.pointer (some ⟨w.heap.size, 0, none⟩))) rfl rfl (by kernel_rfl) (by kernel_rfl) (by kernel_rfl) (fun _ _ _ h => h) (yieldsIf_calc rfl (fun w => by unfold execOp; go_simp)) (by assumption) ?_; try simp only [Act.put, List.setIfInBounds_toArray, List.set_cons_zero, List.set_cons_succ]
    refine wpAnyH_takeD 14 (some 41) (v := (.int .u64 n)) rfl rfl (by kernel_rfl) (by kernel_rfl) (by kernel_rfl) (fun _ _ _ h => h) (.inl ⟨rfl, fun w hSw => by obtain ⟨y0, y1, y2, y3⟩ := hSw; unfold execOp; go_simp⟩) (by assumption) ?_; try simp only [Act.put, List.setIfInBounds_toArray, List.set_cons_zero, List.set_cons_succ]
    refine wpAnyH_takeD 15 (some 42) (v := (.bool false)) rfl rfl (by kernel_rfl) (by kernel_rfl) (by kernel_rfl) (fun _ _ _ h => h) (yieldsIf_calc rfl (fun w => by unfold execOp; go_simp)) (by assumption) ?_; try simp only [Act.put, List.setIfInBounds_toArray, List.set_cons_zero, List.set_cons_succ]
    refine wpAnyH_takeD 16 (some 43) (v := (.bool false)) rfl rfl (by kernel_rfl) (by kernel_rfl) (by kernel_rfl) (fun _ _ _ h => h) (yieldsIf_calc rfl (fun w => by unfold execOp; go_simp)) (by assumption) ?_; try simp only [Act.put, List.setIfInBounds_toArray, List.set_cons_zero, List.set_cons_succ]
    refine wpAnyH_takeD 17 (some 44) (v := undef) rfl rfl (by kernel_rfl) (by kernel_rfl) (by kernel_rfl) (fun _ _ _ h => h) (.inr ⟨rfl, rfl⟩) (by assumption) ?_; try simp only [Act.put, List.setIfInBounds_toArray, List.set_cons_zero, List.set_cons_succ]
    refine wpAnyH_takeD 18 (some 45) (v := undef) rfl rfl (by kernel_rfl) (by kernel_rfl) (by kernel_rfl) (fun _ _ _ h => h) (.inr ⟨rfl, rfl⟩) (by assumption) ?_; try simp only [Act.put, List.setIfInBounds_toArray, List.set_cons_zero, List.set_cons_succ]
    refine wpAnyH_takeD 19 (some 46) (v := undef) rfl rfl (by kernel_rfl) (by kernel_rfl) (by kernel_rfl) (fun _ _ _ h => h) (.inr ⟨rfl, rfl⟩) (by assumption) ?_; try simp only [Act.put, List.setIfInBounds_toArray, List.set_cons_zero, List.set_cons_succ]
    refine wpAnyH_takeD 20 (some 47) (v := (.bool false)) rfl rfl (by kernel_rfl) (by kernel_rfl) (by kernel_rfl) (fun _ _ _ h => h) (yieldsIf_calc rfl (fun w => by unfold execOp; go_simp)) (by assumption) ?_; try simp only [Act.put, List.setIfInBounds_toArray, List.set_cons_zero, List.set_cons_succ]
    refine wpAnyH_takeD 21 (some 48) (v := (.bool false)) rfl rfl (by kernel_rfl) (by kernel_rfl) (by kernel_rfl) (fun _ _ _ h => h) (yieldsIf_calc rfl (fun w => by unfold execOp; go_simp)) (by assumption) ?_; try simp only [Act.put, List.setIfInBounds_toArray, List.set_cons_zero, List.set_cons_succ]
    refine wpAnyH_takeD 22 (some 49) (v := (.bool false)) rfl rfl (by kernel_rfl) (by kernel_rfl) (by kernel_rfl) (fun _ _ _ h => h) (yieldsIf_calc rfl (fun w => by unfold execOp; go_simp)) (by assumption) ?_; try simp only [Act.put, List.setIfInBounds_toArray, List.set_cons_zero, List.set_cons_succ]
    refine wpAnyH_takeD 23 (some 50) (v := (.pointer (some ⟨w.heap.size, 1, none⟩))) rfl rfl (by kernel_rfl) (by kernel_rfl) (by kernel_rfl) (fun _ _ _ h => h) (yieldsIf_calc rfl (fun w => by unfold execOp; go_simp)) (by assumption) ?_; try simp only [Act.put, List.setIfInBounds_toArray, List.set_cons_zero, List.set_cons_succ]
    refine wpAnyH_takeD 24 (some 51) (v := (.int .u64 d)) rfl rfl (by kernel_rfl) (by kernel_rfl) (by kernel_rfl) (fun _ _ _ h => h) (.inl ⟨rfl, fun w hSw => by obtain ⟨y0, y1, y2, y3⟩ := hSw; unfold execOp; go_simp⟩) (by assumption) ?_; try simp only [Act.put, List.setIfInBounds_toArray, List.set_cons_zero, List.set_cons_succ]
    refine wpAnyH_takeD 25 (some 52) (v := (.bool false)) rfl rfl (by kernel_rfl) (by kernel_rfl) (by kernel_rfl) (fun _ _ _ h => h) (yieldsIf_calc rfl (fun w => by unfold execOp; go_simp)) (by assumption) ?_; try simp only [Act.put, List.setIfInBounds_toArray, List.set_cons_zero, List.set_cons_succ]
    refine wpAnyH_takeD 26 (some 53) (v := (.bool false)) rfl rfl (by kernel_rfl) (by kernel_rfl) (by kernel_rfl) (fun _ _ _ h => h) (yieldsIf_calc rfl (fun w => by unfold execOp; go_simp)) (by assumption) ?_; try simp only [Act.put, List.setIfInBounds_toArray, List.set_cons_zero, List.set_cons_succ]
    refine wpAnyH_takeD 27 (some 54) (v := undef) rfl rfl (by kernel_rfl) (by kernel_rfl) (by kernel_rfl) (fun _ _ _ h => h) (.inr ⟨rfl, rfl⟩) (by assumption) ?_; try simp only [Act.put, List.setIfInBounds_toArray, List.set_cons_zero, List.set_cons_succ]
    refine wpAnyH_takeD 28 (some 55) (v := undef) rfl rfl (by kernel_rfl) (by kernel_rfl) (by kernel_rfl) (fun _ _ _ h => h) (.inr ⟨rfl, rfl⟩) (by assumption) ?_; try simp only [Act.put, List.setIfInBounds_toArray, List.set_cons_zero, List.set_cons_succ]
    refine wpAnyH_takeD 29 (some 56) (v := undef) rfl rfl (by kernel_rfl) (by kernel_rfl) (by kernel_rfl) (fun _ _ _ h => h) (.inr ⟨rfl, rfl⟩) (by assumption) ?_; try simp only [Act.put, List.setIfInBounds_toArray, List.set_cons_zero, List.set_cons_succ]
    refine wpAnyH_takeD 30 (some 57) (v := (.bool false)) rfl rfl (by kernel_rfl) (by kernel_rfl) (by kernel_rfl) (fun _ _ _ h => h) (yieldsIf_calc rfl (fun w => by unfold execOp; go_simp)) (by assumption) ?_; try simp only [Act.put, List.setIfInBounds_toArray, List.set_cons_zero, List.set_cons_succ]
    refine wpAnyH_takeD 31 (some 58) (v := (.bool false)) rfl rfl (by kernel_rfl) (by kernel_rfl) (by kernel_rfl) (fun _ _ _ h => h) (yieldsIf_calc rfl (fun w => by unfold execOp; go_simp)) (by assumption) ?_; try simp only [Act.put, List.setIfInBounds_toArray, List.set_cons_zero, List.set_cons_succ]
    refine wpAnyH_done (by kernel_rfl) ?_ _
    have HB := hB4
    have PP := P4
    have y0 := PP.t0.c0
    have y1 := PP.t0.c1
    have y2 := PP.t1.c0
    have y3 := PP.t1.c1
    clear hBd Pd s0 s1 s3 s4 P3 P4 hB3 hB4 b2 hc lz0 lz1 hHeld
    have e1 := e1.out
    have e2 := e2.out
    rcases hdiv.out with q1 | ⟨q1, q2⟩ | ⟨q1, rfl, q2⟩
    all_goals
      try have q3 : ((ru : Int) == 0) = false := by rw [beq_eq_false_iff_ne]; omega
      try have q4 : ((rv : Int) == 0) = false := by rw [beq_eq_false_iff_ne]; omega
      try have q5 : (D : Int) ≠ 0 := by omega
      try have f0' := f0.out
      try have f1' := f1.out
      rcases hfac.out with p1 | ⟨p1, p2⟩ | ⟨p1, p2, p3⟩ | ⟨p1, p2, p3, p4⟩ | ⟨p1, p2, p3, p4⟩
      · clear f0' f1'
        go_wp2_with (go_at_call 31; (with_reducible refine (hk _).mono ?_); rintro e w8 ⟨rfl, hw8⟩; have hB8 := bnext HB hw8)
        go_ret
        exact ⟨rfl, hB8⟩
      · clear f0' f1'
        go_wp2_with (go_at_call 31; (with_reducible refine (hk _).mono ?_); rintro e w8 ⟨rfl, hw8⟩; have hB8 := bnext HB hw8)
        go_ret
        exact ⟨rfl, hB8⟩
      · first
          | (exfalso; omega)
          | (clear f0' f1'
             have p1' : ¬ ((F : Int) < 1) := by omega
             have p2' : ¬ ((4294967296 : Int) ≤ F) := by omega
             clear p1 p2
             go_wp2_with (go_at_call 31; (with_reducible refine (hk _).mono ?_); rintro e w8 ⟨rfl, hw8⟩; have hB8 := bnext HB hw8)
             go_ret
             exact ⟨rfl, hB8⟩)
      · first
          | (exfalso; omega)
          | (clear f0' f1'
             have p1' : ¬ ((F : Int) < 1) := by omega
             have p2' : ¬ ((4294967296 : Int) ≤ F) := by omega
             have p3' : ¬ ((4294967296 : Int) ≤ n) := by omega
             clear p1 p2 p3
             go_wp2_with (go_at_call 31; (with_reducible refine (hk _).mono ?_); rintro e w8 ⟨rfl, hw8⟩; have hB8 := bnext HB hw8)
             go_ret
             exact ⟨rfl, hB8⟩)
      · obtain ⟨g5, g6, g7⟩ := hs.out (by omega) (by omega) (by omega) (by omega)
        have p1' : ¬ ((F : Int) < 1) := by omega
        have p2' : ¬ ((4294967296 : Int) ≤ F) := by omega
        have p3' : ¬ ((4294967296 : Int) ≤ n) := by omega
        have p4' : ¬ ((4294967296 : Int) ≤ d) := by omega
        clear hs f0' f1' p1 p2 p3 p4
        go_wp2_with (first
          | (go_at_call 38; (with_reducible refine (ho _).mono ?_); rintro e w6 ⟨rfl, hw6⟩; have hB6 := bnext HB hw6; have P6 := PP.below hw6)
          | (go_at_call 37; (with_reducible refine (g7 _).mono ?_); rintro e w7 ⟨rfl, hw7⟩; have hB7 := below_new (bnext hB6 hw7) (.cells #[.int .u64 (u : Nat), .int .u64 (v : Nat)] 56); have P7 := (P6.below hw7).alloc (.cells #[.int .u64 (u : Nat), .int .u64 (v : Nat)] 56); have T7 := Two.new w7 u v 56; have i0 := P7.t1.c0; have i1 := P7.t1.c1; have i2 := T7.c0; have i3 := T7.c1)
          | (go_at_call 31; (with_reducible refine (hk _).mono ?_); rintro e w8 ⟨rfl, hw8⟩; have hB8 := bnext hB7 hw8))
        go_ret
        exact ⟨rfl, hB8⟩
theorem walk_RatioReduces (p : Nat × Nat) (hp : F64 p) (a : Int) (ha : (Lit.int .u64 a).wf = true) (b : Int) (hb : (Lit.int .u64 b).wf = true) (w : World) :
    Calls Try.prog 10 #[.agg (fV p), .int .u64 a, .int .u64 b] w fun e w' => e = .returned (.bool true) ∧ Below w.heap.size w w' := by
  obtain ⟨x, rfl, hx⟩ := u64_nat ha
  obtain ⟨y, rfl, _⟩ := u64_nat hb
  by_cases h : Bad p
  · exact reduces_bad p h x y w
  · exact reduces_ok p.1 p.2 hp h x y hx w
end Go.Proofs.Ytdnpbemkobhlcaa
