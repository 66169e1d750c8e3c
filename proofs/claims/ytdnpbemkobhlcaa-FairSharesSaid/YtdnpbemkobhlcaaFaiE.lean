/-
  The scheduler, walks: the order of the users with a rate.
-/
import Derived.Test.YtdnpbemkobhlcaaTl2
import Derived.Test.YtdnpbemkobhlcaaFaiF
set_option linter.unusedSimpArgs false
set_option linter.unusedVariables false
namespace Go.Proofs.Ytdnpbemkobhlcaa
open Go.RowKit
attribute [-go_sem] Instr.build
attribute [local go_sem] Oper.semAt_some

theorem zero28 : (Try.prog.info? 28).map (fun i => (i.zero, i.size)) = some (some (.slice none 0 0), 1) := by kernel_rfl
theorem zero62 : (Try.prog.info? 62).map (fun i => (i.zero, i.size)) = some (some (.slice none 0 0), 1) := by kernel_rfl
theorem actU_length (r S : Nat → Nat) : ∀ i, (actU r S i).length ≤ i
  | 0 => Nat.le_refl _
  | i + 1 => by
    have := actU_length r S i
    unfold actU
    split
    · rw [List.length_append]; simp; omega
    · omega
theorem actU_next (r S : Nat → Nat) (i : Nat) (h : 0 < r i) : actU r S i ++ [(i, (r i, S i))] = actU r S (i + 1) := by
  rw [actU, if_pos h]
theorem one_at {W : World} {c t : Nat} {x : Value} (h : Blk W c #[x] t) : ∀ j v, [x][j]? = some v → W.cell? ((⟨c, 0, none⟩ : Addr).add j) = some v := by
  intro j v hj
  rw [Go.WideShapes.add_plain, Nat.zero_add, h.cell]
  simpa using hj
theorem two_at {W : World} {c t : Nat} {x y : Value} (h : Blk W c #[x, y] t) : ∀ j v, [x, y][j]? = some v → W.cell? ((⟨c, 0, none⟩ : Addr).add j) = some v := by
  intro j v hj
  rw [Go.WideShapes.add_plain, Nat.zero_add, h.cell]
  simpa using hj
theorem one_all (u : Nat) : ∀ v ∈ [Value.int .i64 (u : Nat)], v.oneCell' = true := by
  intro v hv
  simp only [List.mem_singleton] at hv
  subst hv; rfl
theorem two_all (a b : Nat) : ∀ v ∈ [Value.int .u64 (a : Nat), Value.int .u64 (b : Nat)], v.oneCell' = true := by
  intro v hv
  simp only [List.mem_cons, List.not_mem_nil, or_false] at hv
  rcases hv with rfl | rfl <;> rfl
theorem wp_append_ownD {o : Oper} {a : Act} {K : Act → World → Prop} {Q : Exit → Act → World → Prop} (dd : Option Tmp) (hdd : o.dst = dd) (w : World) (s x : Operand) (t : TypeId)
    (ho : o.op = .call { callee := .builtin .append, args := #[s, x], argTypes := #[t, t] })
    (base : Nat) (e : TypeId) (i : TypeInfo) (z : Value) (size bytes : Nat) (ht : Try.prog.underlying t = some (.slice e)) (hi : Try.prog.info? e = some i) (hz : i.zero = some z)
    (hsize : i.size = size) (hby : i.bytes = bytes) (hzs : z.cells.size = size) (hsz : 0 < size)
    (v : Value) (n : Nat) (xs : List Value) (hs : a.eval s = v) (hown : w.ownsRow base e size v n xs)
    (ad : Addr) (m c : Nat) (news : List Value) (hx : a.eval x = .slice (some ad) m c) (hl : news.length = m * size) (hnews : ∀ j u, news[j]? = some u → w.cell? (ad.add j) = some u) (h1 : ∀ u ∈ news, u.oneCell' = true)
    (h63 : n + m ≤ maxLen) (hbytes : (n + m) * bytes ≤ 140737488355328) (hbase : base ≤ w.heap.size)
    (h : ∀ v' w', w'.ownsRow base e size v' (n + m) (xs ++ news) → w.grownBy w' v.ownBlock → (v' = .slice none 0 0 ↔ v = .slice none 0 0 ∧ m = 0) → K (a.put dd v') w') : o.wp Try.prog a w K Q := by
  subst hdd
  exact wp_append_own w s x t ho base e i z size bytes ht hi hz hsize hby hzs hsz v n xs hs hown ad m c news hx hl hnews h1 h63 hbytes hbase h
theorem wp_store_one {w : World} {op : Oper} {a : Act} {K : Act → World → Prop} {Q : Exit → Act → World → Prop} (dd : Option Tmp) (hdd : op.dst = dd) (ty : TypeId) (x y : Operand) (ho : op.op = .store ty x y)
    (b : Nat) (v : Value) (hx : a.eval x = .pointer (some ⟨b, 0, none⟩)) (hy : a.eval y = v) (hv : v.cells = #[v] ∧ v.oneCell' = true) {u : Value} {t : TypeId} (hb : Blk w b #[u] t) (hs : (Try.prog.info? ty).map (·.size) = some 1)
    (h : ∀ w', Blk w' b #[v] t → Only b w w' → K (a.put dd undef) w') : op.wp Try.prog a w K Q := by
  subst hdd
  have hst := run_storeCells_cells (P := Try.prog) b 0 [v] 0 w (fun j hj => by
      have : j = 0 := by simpa using hj
      subst this
      rw [hb.cell]; rfl) (fun j _ => hb.frozen _) (fun u hu => by
      have : u = v := by simpa using hu
      subst this; exact hv.2)
  have hrun : (storeVar ty ⟨b, 0, none⟩ v).run Try.prog w = .ok () (w.setCell ⟨b, 0, none⟩ v) := by
    cases hq : Try.prog.info? ty with
    | none => simp [hq] at hs
    | some i =>
      have hi : i.size = 1 := by simpa [hq] using hs
      simp [storeVar, sizeOf, typeInfo, hq, hi, hv.1, hst, World.setCells]
  unfold Oper.wp execOp
  simp only [ho, hx, hy, Instr.storeAt, Instr.sureAddr, Sem.run_bind, Sem.run_pure, Result.andThen_ok, hrun]
  exact h _ (hb.set 0 v) (Only.setCell w 0 v)
/-- The users of a list of users with metrics. -/
def usN (l : List (Nat × (Nat × Nat))) : List Nat := l.map (·.1)
theorem usN_length (l : List (Nat × (Nat × Nat))) : (usN l).length = l.length := by simp [usN]
theorem usersL_iv (l : List (Nat × (Nat × Nat))) : usersL l = iv (usN l) := by simp [usersL, iv, usN]
theorem actU_mem (r S : Nat → Nat) : ∀ i y, y ∈ actU r S i → y.2 = (r y.1, S y.1) ∧ y.1 < i ∧ 0 < r y.1
  | 0, y, h => by cases h
  | i + 1, y, h => by
    unfold actU at h
    split at h
    · rename_i hp
      rcases List.mem_append.1 h with h | h
      · obtain ⟨a, b, c⟩ := actU_mem r S i y h; exact ⟨a, by omega, c⟩
      · rw [List.mem_singleton] at h
        subst h
        exact ⟨rfl, Nat.lt_succ_self _, hp⟩
    · obtain ⟨a, b, c⟩ := actU_mem r S i y h; exact ⟨a, by omega, c⟩
theorem usN_mem (r S : Nat → Nat) : ∀ i x, x ∈ usN (actU r S i) ↔ x < i ∧ 0 < r x
  | 0, x => by simp [usN, actU]
  | i + 1, x => by
    have ih := usN_mem r S i x
    unfold actU
    split
    · rename_i hp
      rw [usN, List.map_append, List.mem_append, List.map_cons, List.map_nil, List.mem_singleton]
      constructor
      · rintro (h | rfl)
        · have := ih.1 h; exact ⟨by omega, this.2⟩
        · exact ⟨Nat.lt_succ_self _, hp⟩
      · rintro ⟨h1, h2⟩
        by_cases e : x = i
        · exact .inr e
        · exact .inl (ih.2 ⟨by omega, h2⟩)
    · rename_i hp
      rw [ih]
      constructor
      · rintro ⟨h1, h2⟩; exact ⟨by omega, h2⟩
      · rintro ⟨h1, h2⟩
        have : x ≠ i := fun e => hp (e ▸ h2)
        exact ⟨by omega, h2⟩
theorem usN_up (r S : Nat → Nat) : ∀ i, (usN (actU r S i)).Pairwise (· < ·)
  | 0 => List.Pairwise.nil
  | i + 1 => by
    have ih := usN_up r S i
    unfold actU
    split
    · rw [usN, List.map_append, List.pairwise_append]
      refine ⟨ih, by simp, fun x hx y hy => ?_⟩
      rw [List.map_cons, List.map_nil, List.mem_singleton] at hy
      subst hy
      exact ((usN_mem r S _ x).1 hx).1
    · exact ih
theorem gf_act (r S : Nat → Nat) (i j : Nat) (h : j < (usN (actU r S i)).length) : gf (fracsL (actU r S i)) j = mt r S ((usN (actU r S i)).getD j 0) := by
  have hm := actU_mem r S i
  generalize actU r S i = l at *
  rw [usN_length] at h
  have e1 : gf (fracsL l) j = (l[j]).2 := by unfold gf fracsL; simp [h]
  have e2 : (usN l).getD j 0 = (l[j]).1 := by unfold usN; simp [h]
  rw [e1, e2, (hm _ (List.getElem_mem h)).1]; rfl
theorem fracsL_length (l : List (Nat × (Nat × Nat))) : (fracsL l).length = l.length := by simp [fracsL]
/-- An order's row while its indices become users. -/
def mixF (us : List Nat) (g : Nat → Nat) (k : Nat) : Nat → Nat := fun i => if i < k then us.getD (g i) 0 else g i
theorem mixF_zero (us : List Nat) (g : Nat → Nat) : mixF us g 0 = g := by funext i; unfold mixF; rw [if_neg (Nat.not_lt_zero _)]
theorem mixF_at (us : List Nat) (g : Nat → Nat) (k : Nat) : mixF us g k k = g k := by unfold mixF; rw [if_neg (Nat.lt_irrefl _)]
theorem mixF_next (us : List Nat) (g : Nat → Nat) (k : Nat) : upd (mixF us g k) k (us.getD (g k) 0) = mixF us g (k + 1) := by
  funext i; unfold upd mixF
  by_cases h : i = k
  · subst h; rw [if_pos rfl, if_pos (by omega)]
  · rw [if_neg h]
    by_cases h2 : i < k
    · rw [if_pos h2, if_pos (by omega)]
    · rw [if_neg h2, if_neg (by omega)]
/-- What Order hands back: a new row with the users in order. -/
def OrdR (l : List Nat) (base : Nat) (e : Ending) (w : World) : Prop := ∃ b, e = .returned (.tuple #[.slice (some ⟨b, 0, none⟩) l.length l.length, .int .i64 0]) ∧ base ≤ b ∧ Blk w b (rowV (fun i => l.getD i 0) l.length) 3
theorem cf62 : ∀ args w, (callFunc 62 args).run Try.prog w = .ok (.enter 62 args) w := by
  intro args w
  simp [go_sem]
set_option maxRecDepth 100000 in
set_option maxHeartbeats 8000000 in
theorem forder_ok {sb rb n m : Nat} {S r : Nat → Nat} (w : World) (hs : Sch w sb rb n m S) (kr o cap : Nat) (xs : List Int) (hx : Ints w (some ⟨kr, o, none⟩) xs) (hn : n = xs.length) (hr : ∀ i, i < n → xs.getD i 0 = (r i : Int) ∧ r i ≤ 4294967296) :
    Calls Try.prog 23 #[.pointer (some ⟨sb, 0, none⟩), .slice (some ⟨kr, o, none⟩) n cap] w fun e w' => OrdR (ordU r S n) w.heap.size e w' ∧ Below w.heap.size w w' := by
  have h0 := none_any w hs
  have n0 := hs.n0
  have n1 := hs.n1
  have c0 : w.cell? ⟨sb, 0, none⟩ = some (.slice (some ⟨rb, 0, none⟩) n m) := hs.c.cell 0
  have hBz := below_new (below_new (Below.refl w.heap.size w) (.cells #[.slice none 0 0] 28)) (.cells #[.slice none 0 0] 62)
  have c1 : ((w.alloc (.cells #[.slice none 0 0] 28)).alloc (.cells #[.slice none 0 0] 62)).cell? ⟨sb, 0, none⟩ = some (.slice (some ⟨rb, 0, none⟩) n m) := (hBz.cell (p := ⟨sb, 0, none⟩) hs.c.lt).trans c0
  have bu : Blk ((w.alloc (.cells #[.slice none 0 0] 28)).alloc (.cells #[.slice none 0 0] 62)) w.heap.size #[.slice none 0 0] 28 := (Blk.new' rfl).alloc _
  have bm : Blk ((w.alloc (.cells #[.slice none 0 0] 28)).alloc (.cells #[.slice none 0 0] 62)) (w.heap.size + 1) #[.slice none 0 0] 62 := Blk.new' (by simp)
  have hmin := min_any xs (some ⟨kr, o, none⟩) cap w hx (by omega) (by omega) n hn
  have hmax := max_any xs (some ⟨kr, o, none⟩) cap w hx (by omega) (by omega) n hn
  have b1 : ¬ (minI xs (n - 1) < 0) := by
    obtain ⟨i, hi, e⟩ := minI_at xs (n - 1)
    have := (hr i (by omega)).1
    omega
  have b2 : ¬ (4294967296 < maxI xs (n - 1)) := by
    obtain ⟨i, hi, e⟩ := maxI_at xs (n - 1)
    have := hr i (by omega)
    omega
  generalize minI xs (n - 1) = lo at *
  generalize maxI xs (n - 1) = hi at *
  have z1 : ∀ w, (zeroValue 28).run Try.prog w = .ok (.slice none 0 0) w := (zero_of_info zero28).1
  have z2 : ∀ w, (zeroValue 62).run Try.prog w = .ok (.slice none 0 0) w := (zero_of_info zero62).1
  have hact := fun (v : Value) (W : World) => active_any v (some ⟨kr, o, none⟩) n cap rb n m W
  have e0 : ((n : Int) != n) = false := by simp
  replace hr := Lib.hid hr
  have HX := Lib.hid hx
  have HN := Lib.hid hn
  have HS := Lib.hid hs
  clear hx hn hs
  refine (callsIn_wide (n := 3)).1 ?_
  refine callsIn_of_wp_marks Try.func23 rfl trivial ?_ rfl
  generalize hQ : bodyPostM Fence.wide 3 Try.prog _ _ = Q
  replace hQ := Lib.hid hQ
  simp only [Try.ntmps23, List.size_toArray, List.length_cons, List.length_nil, Nat.reduceAdd, Nat.reduceSub, Array.replicate_succ, Array.replicate_zero, List.push_toArray, List.append_toArray, List.nil_append, List.cons_append]
  refine (wpIn_wide).2 ?_
  go_wp2_with (first
    | (go_at_call 44; (with_reducible refine h0.mono ?_); rintro e w' ⟨rfl, hw⟩; rw [hw]; clear hw)
    | (go_at_call 46; (with_reducible refine hmin.mono ?_); rintro e w' ⟨rfl, hw⟩; rw [hw]; clear hw)
    | (go_at_call 47; (with_reducible refine hmax.mono ?_); rintro e w' ⟨rfl, hw⟩; rw [hw]; clear hw)
    | (go_at_call 48; (with_reducible refine (hact _ _).mono ?_); rintro e wL ⟨rfl, hwL⟩; replace hwL := Lib.hid hwL)
    | fail)
  replace hwL := hwL.out
  obtain ⟨W0, hW0⟩ : ∃ W0, W0 = (w.alloc (.cells #[.slice none 0 0] 28)).alloc (.cells #[.slice none 0 0] 62) := ⟨_, rfl⟩
  have hz0 : W0.heap.size = w.heap.size + 2 := by rw [hW0]; simp
  rw [← hW0] at hBz bu bm c1
  have hBL : Below W0.heap.size W0 wL := by rw [hwL, hW0]; exact below_new (below_new (Below.refl _ _) _) _
  have bb1 : Blk wL (w.heap.size + 2) #[.slice (some ⟨kr, o, none⟩) n cap] 28 := by rw [hwL]; exact (Blk.new' (by simp)).alloc _
  have bb2 : Blk wL (w.heap.size + 3) #[.func (.func 49) #[.slice (some ⟨rb, 0, none⟩) n m] #[]] 85 := by rw [hwL]; exact Blk.new' (by simp)
  have hsL : wL.heap.size = w.heap.size + 4 := by rw [hwL]; simp
  have bu2 := bu.below hBL bu.lt
  have bm2 := bm.below hBL bm.lt
  have hB := bnext hBz hBL
  clear hwL hW0 hBz hBL bu bm c1 hmin hmax h0 hact z1 z2 c0 hz0
  have hSw := HS.out
  have hsbl := hSw.c.lt
  have hrbl := hSw.ltr
  have hkrl : kr < w.heap.size := by
    obtain ⟨b, o', e, hl, _⟩ := HX.out (by have := HN.out; omega)
    simp only [Option.some.injEq, Addr.mk.injEq, and_true] at e
    obtain ⟨rfl, rfl⟩ := e
    exact hl
  have hA : ActW wL (w.heap.size + 2) (w.heap.size + 3) kr o rb n cap m r S := ⟨bb1, bb2, by omega, by omega, fun i hi => by
    obtain ⟨b, o', e, hl, hc⟩ := HX.out (by have := HN.out; omega)
    simp only [Option.some.injEq, Addr.mk.injEq, and_true] at e
    obtain ⟨rfl, rfl⟩ := e
    rw [(hB.cell (p := ⟨kr, o + i, none⟩) hl), hc i (by have := HN.out; omega), (hr.out i hi).1], fun i hi => (hB.cell (p := ⟨rb, i, none⟩) hrbl).trans (hSw.cell i hi)⟩
  have hseq := active_seq 2 r S (w.heap.size + 2) (w.heap.size + 3) kr o rb n cap m wL hA n1 (fun i hi => (hr.out i hi).2) (fun i hi => (hSw.bd i hi).2)
  have hKL : ∀ k, actK (w.heap.size + 2) (w.heap.size + 3) kr rb k → k < wL.heap.size := by
    rintro k (rfl | rfl | rfl | rfl) <;> omega
  have hI0 : OrdI w w.heap.size w.heap.size (w.heap.size + 1) (wL.heap.size + 2) [] wL := ⟨⟨.slice none 0 0, .slice none 0 0, bu2, bm2, World.ownsRow_nil _ _ _ _, World.ownsRow_nil _ _ _ _, fun g h => by cases h⟩, hB⟩
  refine (wpIn_wide (n := 3)).1 ?_
  refine wpIn_rangeFunc_frac (F := Fence.wide) (n := 3) (P := Try.prog) (t := 56) (p := 44) (p' := 45) (q := 8) (q' := 9) (e := fun x : Nat × (Nat × Nat) => .int .i64 x.1) (c := fun x => #[.int .u64 x.2.1, .int .u64 x.2.2]) rfl (by decide) (gf := 62) (lb := #[.pointer (some ⟨w.heap.size + 2, 0, none⟩), .pointer (some ⟨w.heap.size + 3, 0, none⟩)]) rfl trivial cf62
    (K := actK (w.heap.size + 2) (w.heap.size + 3) kr rb) (R := actR r S n) (S := fun l => l = actU r S n) (w0 := wL) hseq (Below.refl _ _) hKL
    (fun pre A => (∃ i, i ≤ n ∧ pre = actU r S i) ∧ OrdI w w.heap.size w.heap.size (w.heap.size + 1) (wL.heap.size + 2) pre A) (fun _ _ _ => False)
    (fun s A A' h k => ⟨h.1, h.2.keeps k (by show w.heap.size ≠ _; omega) (by show w.heap.size + 1 ≠ _; omega) (fun g hg => by show g ≠ _; omega) (fun g hg => by show g ≠ _; omega) (Nat.le_refl _)⟩) (fun _ _ _ _ h _ => h) ⟨⟨0, Nat.zero_le _, rfl⟩, hI0⟩ ?assign ?body ?done ?stop
  case assign =>
    rintro l pre x W C hR hC
    simp only [setFr, List.setIfInBounds_toArray, List.set_cons_zero, List.set_cons_succ] at hC ⊢
    have z56 : ∀ w, (zeroValue 56).run Try.prog w = .ok (.agg #[.int .u64 0, .int .u64 0]) w := (zero_of_info zero56).1
    have HC := Lib.hid hC
    clear hC
    gi_wp2
    exact HC.out _ _ (Nat.le_refl _) (Blk.new _ _ _) (below_new (Below.refl _ _) _)
  case body =>
    rintro l pre x g W0 W hN ⟨⟨i, hi, hp⟩, hI⟩ hk hR hg hb
    simp only [setFr, List.setIfInBounds_toArray, List.set_cons_zero, List.set_cons_succ]
    obtain ⟨⟨vu, vm, hbu, hbm, hru, hrm, hsep⟩, hBW⟩ := hI
    have hlen : pre.length ≤ 32 := by have := actU_length r S i; rw [hp]; omega
    obtain ⟨i', hi', hp', rfl, hpos⟩ := hR
    have hnxt := actU_next r S i' hpos
    rw [← hp'] at hnxt
    have ru := own_keepsP hru hk fun g hg => by have := (hru.lt g hg).1; show g ≠ _; omega
    have rm := own_keepsP hrm hk fun g hg => by have := (hrm.lt g hg).1; show g ≠ _; omega
    have hgm : ∀ k, vm.ownBlock = some k → k ≠ g := fun k hk' => by have := (hrm.lt k hk').2; omega
    have bu := hbu.keepsP hk (by show w.heap.size ≠ _; omega)
    have bm := hbm.keepsP hk (by show w.heap.size + 1 ≠ _; omega)
    have hBV : Below w.heap.size w W := hBW.trans ⟨hk.os, hk.tape, hk.output, hk.size, fun k hk2 => hk.same k (by have := hBW.size; omega) (by show k ≠ _; omega)⟩
    dsimp only at hb ⊢
    clear hbu hbm hru hrm hsep hBW hk hseq hA hI0 hKL bb1 bb2 bu2 bm2
    generalize i' = u at *
    generalize r u = fn at *
    generalize S u = fd at *
    have HSL := Lib.hid hsL
    clear hsL
    gi_wp2
    have hsL := HSL.out
    refine wpIn_draw_fit (by kernel_rfl) (by kernel_rfl) (by rintro ⟨_, _, hf⟩; exact hf) ?_
    refine wpAny_of_till (S := fun w' => Blk w' w.heap.size #[vu] 28 ∧ Blk w' (w.heap.size + 1) #[vm] 62 ∧ Blk w' g #[.int .u64 (fn : Nat), .int .u64 (fd : Nat)] 56) (m := 7) _ _ _ _ ?_
    have s0 : Blk W.drew w.heap.size #[vu] 28 ∧ Blk W.drew (w.heap.size + 1) #[vm] 62 ∧ Blk W.drew g #[.int .u64 (fn : Nat), .int .u64 (fd : Nat)] 56 := ⟨bu.drew, bm.drew, hb.drew⟩
    refine wpAnyT_takeD 0 (some 46) [3, 7] (v := vu) rfl rfl (by kernel_rfl) (by kernel_rfl) (by kernel_rfl) (by kernel_rfl) (fun _ _ _ h => h) (.inl ⟨rfl, fun w' hS => by have c := hS.1.cell 0; simp only [List.getElem?_toArray, List.getElem?_cons_zero] at c; unfold execOp; go_simp⟩) s0 ?_
    try simp only [Act.put, List.setIfInBounds_toArray, List.set_cons_zero, List.set_cons_succ, Array.toArray_toList]
    refine wpAnyT_takeD 1 (some 47) [2, 3, 7] (v := .int .i64 (u : Nat)) rfl rfl (by kernel_rfl) (by kernel_rfl) (by kernel_rfl) (by kernel_rfl) (fun _ _ _ h => h) (yieldsIf_calc rfl (fun w => by unfold execOp; go_simp)) s0 ?_
    try simp only [Act.put, List.setIfInBounds_toArray, List.set_cons_zero, List.set_cons_succ, Array.toArray_toList]
    refine wpAnyT_takeD 4 (some 50) [7] (v := vm) rfl rfl (by kernel_rfl) (by kernel_rfl) (by kernel_rfl) (by kernel_rfl) (fun _ _ _ h => h) (.inl ⟨rfl, fun w' hS => by have c := hS.2.1.cell 0; simp only [List.getElem?_toArray, List.getElem?_cons_zero] at c; unfold execOp; go_simp⟩) s0 ?_
    try simp only [Act.put, List.setIfInBounds_toArray, List.set_cons_zero, List.set_cons_succ, Array.toArray_toList]
    refine wpAnyT_takeD 5 (some 51) [6, 7] (v := .agg #[.int .u64 (fn : Nat), .int .u64 (fd : Nat)]) rfl rfl (by kernel_rfl) (by kernel_rfl) (by kernel_rfl) (by kernel_rfl) (fun _ _ _ h => h) (.inl ⟨rfl, fun w' hS => by have c := hS.2.2.cell 0; have c' := hS.2.2.cell 1; simp only [List.getElem?_toArray, List.getElem?_cons_zero, List.getElem?_cons_succ] at c c'; unfold execOp; go_simp⟩) s0 ?_
    try simp only [Act.put, List.setIfInBounds_toArray, List.set_cons_zero, List.set_cons_succ, Array.toArray_toList]
    obtain ⟨i3, hi3, hz3⟩ := Option.map_eq_some_iff.1 info3
    simp only [Prod.mk.injEq] at hz3
    obtain ⟨hz30, hz31, hz32⟩ := hz3
    obtain ⟨i5, hi5, hz5⟩ := Option.map_eq_some_iff.1 info56
    simp only [Prod.mk.injEq] at hz5
    obtain ⟨hz50, hz51, hz52⟩ := hz5
    have q0 : RegS (fun k => actK (w.heap.size + 2) (w.heap.size + 3) kr rb k ∨ k = wL.heap.size ∨ k = wL.heap.size + 1) w.heap.size (w.heap.size + 1) g (wL.heap.size + 2) vu vm fn fd w W W.drew := ⟨bu.drew, bm.drew, hb.drew, ⟨rfl, rfl, rfl, Nat.le_refl _, fun _ _ _ => rfl⟩, hBV.drew⟩
    have ru0 : W.drew.ownsRow (wL.heap.size + 2) 3 1 vu pre.length (usersL pre) := ru
    have rm0 : W.drew.ownsRow (wL.heap.size + 2) 56 2 vm pre.length (fcells (fracsL pre)) := rm
    have sz0 : wL.heap.size + 2 ≤ W.drew.heap.size := by have := hb.lt; show _ ≤ W.heap.size; omega
    have hKb : ∀ b, (actK (w.heap.size + 2) (w.heap.size + 3) kr rb b ∨ b = wL.heap.size ∨ b = wL.heap.size + 1) → b < wL.heap.size + 2 := by
      rintro b ((rfl | rfl | rfl | rfl) | rfl | rfl) <;> omega
    have hKu : ¬ (actK (w.heap.size + 2) (w.heap.size + 3) kr rb w.heap.size ∨ w.heap.size = wL.heap.size ∨ w.heap.size = wL.heap.size + 1) := by
      rintro ((h | h | h | h) | h | h) <;> omega
    have hKm : ¬ (actK (w.heap.size + 2) (w.heap.size + 3) kr rb (w.heap.size + 1) ∨ w.heap.size + 1 = wL.heap.size ∨ w.heap.size + 1 = wL.heap.size + 1) := by
      rintro ((h | h | h | h) | h | h) <;> omega
    clear ru rm bu bm hgm s0
    have hnl : (pre ++ [(u, fn, fd)]).length = pre.length + 1 := by simp
    have hnu := usersL_next pre (u, fn, fd)
    have hnf := fracsL_next pre (u, fn, fd)
    have fin : ∀ (Y : World) (vu' vm' : Value), KeepsP (fun k => actK (w.heap.size + 2) (w.heap.size + 3) kr rb k ∨ k = wL.heap.size ∨ k = wL.heap.size + 1) W Y → Blk Y w.heap.size #[vu'] 28 → Blk Y (w.heap.size + 1) #[vm'] 62 →
        Y.ownsRow (wL.heap.size + 2) 3 1 vu' (pre.length + 1) (usersL pre ++ [.int .i64 (u : Nat)]) → Y.ownsRow (wL.heap.size + 2) 56 2 vm' (pre.length + 1) (fcells (fracsL pre) ++ [.int .u64 (fn : Nat), .int .u64 (fd : Nat)]) → Below w.heap.size w Y →
        KeepsP (fun k => actK (w.heap.size + 2) (w.heap.size + 3) kr rb k ∨ k = wL.heap.size ∨ k = wL.heap.size + 1) W Y ∧ (∃ i, i ≤ n ∧ pre ++ [(u, fn, fd)] = actU r S i) ∧ OrdI w w.heap.size w.heap.size (w.heap.size + 1) (wL.heap.size + 2) (pre ++ [(u, fn, fd)]) Y := fun Y vu' vm' a1 a2 a3 a4 a5 a6 =>
      ⟨a1, ⟨u + 1, hi', hnxt⟩, ⟨⟨vu', vm', a2, a3, by rw [hnl, hnu]; exact a4, by rw [hnl, hnf]; exact a5, fun k e => own_apart (by decide) a4 a5 k e⟩, a6⟩⟩
    replace hnl := Lib.hid hnl
    replace hnu := Lib.hid hnu
    replace hnf := Lib.hid hnf
    replace hnxt := Lib.hid hnxt
    replace hp := Lib.hid hp
    replace hp' := Lib.hid hp'
    generalize W.drew = V0 at *
    try simp only [Act.put, List.setIfInBounds_toArray, List.set_cons_zero, List.set_cons_succ, Array.toArray_toList]
    refine wpAnyT_two 2 6 rfl rfl (by kernel_rfl) (fun K' hK' => ?_) (fun K' hK' => ?_)
    · skip
      go_simp
      have qV1 := q0.alloc (.cells #[.int .i64 (u : Nat)] 3) (Nat.le_refl _)
      have ruV1 := own_alloc ru0 (.cells #[.int .i64 (u : Nat)] 3)
      have rmV1 := own_alloc rm0 (.cells #[.int .i64 (u : Nat)] 3)
      have nbV1 : Blk (V0.alloc (.cells #[.int .i64 (u : Nat)] 3)) V0.heap.size #[.int .i64 (u : Nat)] 3 := Blk.new _ _ _
      have nlV1 : wL.heap.size + 2 ≤ V0.heap.size := sz0
      have nsV1 : wL.heap.size + 2 ≤ (V0.alloc (.cells #[.int .i64 (u : Nat)] 3)).heap.size := le_alloc nlV1 _
      refine hK'.out _ _ (.inr qV1.st) ?_; clear hK' K'; try simp only [Act.put, List.setIfInBounds_toArray, List.set_cons_zero, List.set_cons_succ, Array.toArray_toList]
      generalize V0.alloc (.cells #[.int .i64 (u : Nat)] 3) = V1 at *
      generalize V0.heap.size = cV1 at *
      refine wpAnyT_two 3 6 rfl rfl (by kernel_rfl) (fun K' hK' => ?_) (fun K' hK' => ?_)
      · skip
        refine ite_go rfl ?_
        refine wp_append_ownD (some 49) rfl V1 (.tmp 46) (.tmp 48) 28 rfl (wL.heap.size + 2) 3 i3 (.int .i64 0) 1 8 elem28 hi3 hz30 hz31 hz32 rfl (by decide) vu pre.length (usersL pre) rfl ruV1 ⟨cV1, 0, none⟩ 1 1 [.int .i64 (u : Nat)] rfl rfl (one_at nbV1) (one_all _) ?_ ?_ nsV1 ?_
        · unfold maxLen; omega
        · omega
        intro vu' V2 h1 h2 _
        have qV2 := qV1.grown h2 (fun b e => ⟨(ruV1.lt b e).1, own_blk_apart (by decide) ruV1 qV1.bg b e⟩) (by omega) (by omega) hKb (Nat.le_refl _)
        have rmV2 := own_grown_apart rmV1 h2 (fun k e => own_apart (by decide) ruV1 rmV1 k e)
        have nsV2 : wL.heap.size + 2 ≤ V2.heap.size := Nat.le_trans nsV1 h2.size
        refine hK'.out _ _ (.inr qV2.st) ?_; clear hK' K'; try simp only [Act.put, List.setIfInBounds_toArray, List.set_cons_zero, List.set_cons_succ, Array.toArray_toList]
        refine wpAnyT_one 6 rfl (by kernel_rfl) (fun K' hK' => ?_)
        go_simp
        have qV3 := qV2.alloc (.cells #[.int .u64 (fn : Nat), .int .u64 (fd : Nat)] 56) (Nat.le_refl _)
        have ruV3 := own_alloc h1 (.cells #[.int .u64 (fn : Nat), .int .u64 (fd : Nat)] 56)
        have rmV3 := own_alloc rmV2 (.cells #[.int .u64 (fn : Nat), .int .u64 (fd : Nat)] 56)
        have nbV3 : Blk (V2.alloc (.cells #[.int .u64 (fn : Nat), .int .u64 (fd : Nat)] 56)) V2.heap.size #[.int .u64 (fn : Nat), .int .u64 (fd : Nat)] 56 := Blk.new _ _ _
        have nlV3 : wL.heap.size + 2 ≤ V2.heap.size := nsV2
        have nsV3 : wL.heap.size + 2 ≤ (V2.alloc (.cells #[.int .u64 (fn : Nat), .int .u64 (fd : Nat)] 56)).heap.size := le_alloc nlV3 _
        have obuV3 := nbV1.alloc (.cells #[.int .u64 (fn : Nat), .int .u64 (fd : Nat)] 56)
        refine hK'.out _ _ (.inr qV3.st) ?_; clear hK' K'; try simp only [Act.put, List.setIfInBounds_toArray, List.set_cons_zero, List.set_cons_succ, Array.toArray_toList]
        generalize V2.alloc (.cells #[.int .u64 (fn : Nat), .int .u64 (fd : Nat)] 56) = V3 at *
        generalize V2.heap.size = cV3 at *
        refine wpAnyT_one 7 rfl (by kernel_rfl) (fun K' hK' => ?_)
        refine ite_go rfl ?_
        refine wp_append_ownD (some 53) rfl V3 (.tmp 50) (.tmp 52) 62 rfl (wL.heap.size + 2) 56 i5 _ 2 16 Try.underlying62 hi5 hz50 hz51 hz52 rfl (by decide) vm pre.length (fcells (fracsL pre)) rfl rmV3 ⟨cV3, 0, none⟩ 1 1 [.int .u64 (fn : Nat), .int .u64 (fd : Nat)] rfl rfl (two_at nbV3) (two_all _ _) ?_ ?_ nsV3 ?_
        · unfold maxLen; omega
        · omega
        intro vm' V4 h3 h4 _
        have ku := qV3.bu.grown h4 (fun e => by have := (rmV3.lt _ e.symm).1; omega)
        have km := qV3.bm.grown h4 (fun e => by have := (rmV3.lt _ e.symm).1; omega)
        have kp := qV3.keep.grown h4 (fun b e hk => by have := (rmV3.lt _ e).1; have := hKb b hk; omega)
        have kB : Below w.heap.size w V4 := qV3.below.trans ⟨h4.os, h4.tape, h4.output, h4.size, fun k hk => h4.block k (by have := qV3.below.size; omega) (fun e => by have := (rmV3.lt _ e.symm).1; omega)⟩
        have ru9 := own_grown_apart ruV3 h4 (fun k e => own_apart (by decide) rmV3 ruV3 k e)
        refine hK'.out _ _ (.inl rfl) ?_; clear hK' K'; try simp only [Act.put, List.setIfInBounds_toArray, List.set_cons_zero, List.set_cons_succ, Array.toArray_toList]
        refine wpAnyT_one 8 rfl (by kernel_rfl) (fun K' hK' => ?_)
        refine ite_go rfl ?_
        refine wp_store_one none rfl 28 (.tmp 6) (.tmp 49) rfl w.heap.size vu' rfl rfl (own_slice h1) ku rfl ?_
        intro Y1 ku2 on1
        refine hK'.out _ _ (.inl rfl) ?_; clear hK' K'; try simp only [Act.put, List.setIfInBounds_toArray, List.set_cons_zero, List.set_cons_succ, Array.toArray_toList]
        refine wpAnyT_one 9 rfl (by kernel_rfl) (fun K' hK' => ?_)
        refine ite_go rfl ?_
        refine wp_store_one none rfl 62 (.tmp 7) (.tmp 53) rfl (w.heap.size + 1) vm' rfl rfl (own_slice h3) (km.only on1 (by omega)) rfl ?_
        intro Y2 km2 on2
        refine hK'.out _ _ (.inl rfl) ?_; clear hK' K'; try simp only [Act.put, List.setIfInBounds_toArray, List.set_cons_zero, List.set_cons_succ, Array.toArray_toList]
        refine wpAnyT_done (by kernel_rfl) ?_ _
        have kp2 := (kp.only on1 (fun h => hKu h)).only on2 (fun h => hKm h)
        have ru10 := own_only (own_only ru9 on1 (fun k e => by have := (ru9.lt k e).1; omega)) on2 (fun k e => by have := (ru9.lt k e).1; omega)
        have rm10 := own_only (own_only h3 on1 (fun k e => by have := (h3.lt k e).1; omega)) on2 (fun k e => by have := (h3.lt k e).1; omega)
        have ku3 := ku2.only on2 (by omega)
        have kB2 := below_only (below_only kB on1 (Nat.le_refl _)) on2 (Nat.le_succ _)
        clear hsL
        gi_wp2
        exact fin Y2 vu' vm' kp2 ku3 km2 ru10 rm10 kB2
      · skip
        go_simp
        have qV5 := qV1.alloc (.cells #[.int .u64 (fn : Nat), .int .u64 (fd : Nat)] 56) (Nat.le_refl _)
        have ruV5 := own_alloc ruV1 (.cells #[.int .u64 (fn : Nat), .int .u64 (fd : Nat)] 56)
        have rmV5 := own_alloc rmV1 (.cells #[.int .u64 (fn : Nat), .int .u64 (fd : Nat)] 56)
        have nbV5 : Blk (V1.alloc (.cells #[.int .u64 (fn : Nat), .int .u64 (fd : Nat)] 56)) V1.heap.size #[.int .u64 (fn : Nat), .int .u64 (fd : Nat)] 56 := Blk.new _ _ _
        have nlV5 : wL.heap.size + 2 ≤ V1.heap.size := nsV1
        have nsV5 : wL.heap.size + 2 ≤ (V1.alloc (.cells #[.int .u64 (fn : Nat), .int .u64 (fd : Nat)] 56)).heap.size := le_alloc nlV5 _
        have obuV5 := nbV1.alloc (.cells #[.int .u64 (fn : Nat), .int .u64 (fd : Nat)] 56)
        refine hK'.out _ _ (.inr qV5.st) ?_; clear hK' K'; try simp only [Act.put, List.setIfInBounds_toArray, List.set_cons_zero, List.set_cons_succ, Array.toArray_toList]
        generalize V1.alloc (.cells #[.int .u64 (fn : Nat), .int .u64 (fd : Nat)] 56) = V5 at *
        generalize V1.heap.size = cV5 at *
        refine wpAnyT_one 3 rfl (by kernel_rfl) (fun K' hK' => ?_)
        refine ite_go rfl ?_
        refine wp_append_ownD (some 49) rfl V5 (.tmp 46) (.tmp 48) 28 rfl (wL.heap.size + 2) 3 i3 (.int .i64 0) 1 8 elem28 hi3 hz30 hz31 hz32 rfl (by decide) vu pre.length (usersL pre) rfl ruV5 ⟨cV1, 0, none⟩ 1 1 [.int .i64 (u : Nat)] rfl rfl (one_at obuV5) (one_all _) ?_ ?_ nsV5 ?_
        · unfold maxLen; omega
        · omega
        intro vu' V6 h1 h2 _
        have qV6 := qV5.grown h2 (fun b e => ⟨(ruV5.lt b e).1, own_blk_apart (by decide) ruV5 qV5.bg b e⟩) (by omega) (by omega) hKb (Nat.le_refl _)
        have rmV6 := own_grown_apart rmV5 h2 (fun k e => own_apart (by decide) ruV5 rmV5 k e)
        have nsV6 : wL.heap.size + 2 ≤ V6.heap.size := Nat.le_trans nsV5 h2.size
        have obmV6 := nbV5.grown h2 (fun e => own_blk_apart (by decide) ruV5 nbV5 _ e.symm rfl)
        refine hK'.out _ _ (.inr qV6.st) ?_; clear hK' K'; try simp only [Act.put, List.setIfInBounds_toArray, List.set_cons_zero, List.set_cons_succ, Array.toArray_toList]
        refine wpAnyT_one 7 rfl (by kernel_rfl) (fun K' hK' => ?_)
        refine ite_go rfl ?_
        refine wp_append_ownD (some 53) rfl V6 (.tmp 50) (.tmp 52) 62 rfl (wL.heap.size + 2) 56 i5 _ 2 16 Try.underlying62 hi5 hz50 hz51 hz52 rfl (by decide) vm pre.length (fcells (fracsL pre)) rfl rmV6 ⟨cV5, 0, none⟩ 1 1 [.int .u64 (fn : Nat), .int .u64 (fd : Nat)] rfl rfl (two_at obmV6) (two_all _ _) ?_ ?_ nsV6 ?_
        · unfold maxLen; omega
        · omega
        intro vm' V7 h3 h4 _
        have ku := qV6.bu.grown h4 (fun e => by have := (rmV6.lt _ e.symm).1; omega)
        have km := qV6.bm.grown h4 (fun e => by have := (rmV6.lt _ e.symm).1; omega)
        have kp := qV6.keep.grown h4 (fun b e hk => by have := (rmV6.lt _ e).1; have := hKb b hk; omega)
        have kB : Below w.heap.size w V7 := qV6.below.trans ⟨h4.os, h4.tape, h4.output, h4.size, fun k hk => h4.block k (by have := qV6.below.size; omega) (fun e => by have := (rmV6.lt _ e.symm).1; omega)⟩
        have ru9 := own_grown_apart h1 h4 (fun k e => own_apart (by decide) rmV6 h1 k e)
        refine hK'.out _ _ (.inl rfl) ?_; clear hK' K'; try simp only [Act.put, List.setIfInBounds_toArray, List.set_cons_zero, List.set_cons_succ, Array.toArray_toList]
        refine wpAnyT_one 8 rfl (by kernel_rfl) (fun K' hK' => ?_)
        refine ite_go rfl ?_
        refine wp_store_one none rfl 28 (.tmp 6) (.tmp 49) rfl w.heap.size vu' rfl rfl (own_slice h1) ku rfl ?_
        intro Y1 ku2 on1
        refine hK'.out _ _ (.inl rfl) ?_; clear hK' K'; try simp only [Act.put, List.setIfInBounds_toArray, List.set_cons_zero, List.set_cons_succ, Array.toArray_toList]
        refine wpAnyT_one 9 rfl (by kernel_rfl) (fun K' hK' => ?_)
        refine ite_go rfl ?_
        refine wp_store_one none rfl 62 (.tmp 7) (.tmp 53) rfl (w.heap.size + 1) vm' rfl rfl (own_slice h3) (km.only on1 (by omega)) rfl ?_
        intro Y2 km2 on2
        refine hK'.out _ _ (.inl rfl) ?_; clear hK' K'; try simp only [Act.put, List.setIfInBounds_toArray, List.set_cons_zero, List.set_cons_succ, Array.toArray_toList]
        refine wpAnyT_done (by kernel_rfl) ?_ _
        have kp2 := (kp.only on1 (fun h => hKu h)).only on2 (fun h => hKm h)
        have ru10 := own_only (own_only ru9 on1 (fun k e => by have := (ru9.lt k e).1; omega)) on2 (fun k e => by have := (ru9.lt k e).1; omega)
        have rm10 := own_only (own_only h3 on1 (fun k e => by have := (h3.lt k e).1; omega)) on2 (fun k e => by have := (h3.lt k e).1; omega)
        have ku3 := ku2.only on2 (by omega)
        have kB2 := below_only (below_only kB on1 (Nat.le_refl _)) on2 (Nat.le_succ _)
        clear hsL
        gi_wp2
        exact fin Y2 vu' vm' kp2 ku3 km2 ru10 rm10 kB2
    · skip
      go_simp
      have qV8 := q0.alloc (.cells #[.int .u64 (fn : Nat), .int .u64 (fd : Nat)] 56) (Nat.le_refl _)
      have ruV8 := own_alloc ru0 (.cells #[.int .u64 (fn : Nat), .int .u64 (fd : Nat)] 56)
      have rmV8 := own_alloc rm0 (.cells #[.int .u64 (fn : Nat), .int .u64 (fd : Nat)] 56)
      have nbV8 : Blk (V0.alloc (.cells #[.int .u64 (fn : Nat), .int .u64 (fd : Nat)] 56)) V0.heap.size #[.int .u64 (fn : Nat), .int .u64 (fd : Nat)] 56 := Blk.new _ _ _
      have nlV8 : wL.heap.size + 2 ≤ V0.heap.size := sz0
      have nsV8 : wL.heap.size + 2 ≤ (V0.alloc (.cells #[.int .u64 (fn : Nat), .int .u64 (fd : Nat)] 56)).heap.size := le_alloc nlV8 _
      refine hK'.out _ _ (.inr qV8.st) ?_; clear hK' K'; try simp only [Act.put, List.setIfInBounds_toArray, List.set_cons_zero, List.set_cons_succ, Array.toArray_toList]
      generalize V0.alloc (.cells #[.int .u64 (fn : Nat), .int .u64 (fd : Nat)] 56) = V8 at *
      generalize V0.heap.size = cV8 at *
      refine wpAnyT_one 2 rfl (by kernel_rfl) (fun K' hK' => ?_)
      go_simp
      have qV9 := qV8.alloc (.cells #[.int .i64 (u : Nat)] 3) (Nat.le_refl _)
      have ruV9 := own_alloc ruV8 (.cells #[.int .i64 (u : Nat)] 3)
      have rmV9 := own_alloc rmV8 (.cells #[.int .i64 (u : Nat)] 3)
      have nbV9 : Blk (V8.alloc (.cells #[.int .i64 (u : Nat)] 3)) V8.heap.size #[.int .i64 (u : Nat)] 3 := Blk.new _ _ _
      have nlV9 : wL.heap.size + 2 ≤ V8.heap.size := nsV8
      have nsV9 : wL.heap.size + 2 ≤ (V8.alloc (.cells #[.int .i64 (u : Nat)] 3)).heap.size := le_alloc nlV9 _
      have obmV9 := nbV8.alloc (.cells #[.int .i64 (u : Nat)] 3)
      refine hK'.out _ _ (.inr qV9.st) ?_; clear hK' K'; try simp only [Act.put, List.setIfInBounds_toArray, List.set_cons_zero, List.set_cons_succ, Array.toArray_toList]
      generalize V8.alloc (.cells #[.int .i64 (u : Nat)] 3) = V9 at *
      generalize V8.heap.size = cV9 at *
      refine wpAnyT_one 3 rfl (by kernel_rfl) (fun K' hK' => ?_)
      refine ite_go rfl ?_
      refine wp_append_ownD (some 49) rfl V9 (.tmp 46) (.tmp 48) 28 rfl (wL.heap.size + 2) 3 i3 (.int .i64 0) 1 8 elem28 hi3 hz30 hz31 hz32 rfl (by decide) vu pre.length (usersL pre) rfl ruV9 ⟨cV9, 0, none⟩ 1 1 [.int .i64 (u : Nat)] rfl rfl (one_at nbV9) (one_all _) ?_ ?_ nsV9 ?_
      · unfold maxLen; omega
      · omega
      intro vu' V10 h1 h2 _
      have qV10 := qV9.grown h2 (fun b e => ⟨(ruV9.lt b e).1, own_blk_apart (by decide) ruV9 qV9.bg b e⟩) (by omega) (by omega) hKb (Nat.le_refl _)
      have rmV10 := own_grown_apart rmV9 h2 (fun k e => own_apart (by decide) ruV9 rmV9 k e)
      have nsV10 : wL.heap.size + 2 ≤ V10.heap.size := Nat.le_trans nsV9 h2.size
      have obmV10 := obmV9.grown h2 (fun e => own_blk_apart (by decide) ruV9 obmV9 _ e.symm rfl)
      refine hK'.out _ _ (.inr qV10.st) ?_; clear hK' K'; try simp only [Act.put, List.setIfInBounds_toArray, List.set_cons_zero, List.set_cons_succ, Array.toArray_toList]
      refine wpAnyT_one 7 rfl (by kernel_rfl) (fun K' hK' => ?_)
      refine ite_go rfl ?_
      refine wp_append_ownD (some 53) rfl V10 (.tmp 50) (.tmp 52) 62 rfl (wL.heap.size + 2) 56 i5 _ 2 16 Try.underlying62 hi5 hz50 hz51 hz52 rfl (by decide) vm pre.length (fcells (fracsL pre)) rfl rmV10 ⟨cV8, 0, none⟩ 1 1 [.int .u64 (fn : Nat), .int .u64 (fd : Nat)] rfl rfl (two_at obmV10) (two_all _ _) ?_ ?_ nsV10 ?_
      · unfold maxLen; omega
      · omega
      intro vm' V11 h3 h4 _
      have ku := qV10.bu.grown h4 (fun e => by have := (rmV10.lt _ e.symm).1; omega)
      have km := qV10.bm.grown h4 (fun e => by have := (rmV10.lt _ e.symm).1; omega)
      have kp := qV10.keep.grown h4 (fun b e hk => by have := (rmV10.lt _ e).1; have := hKb b hk; omega)
      have kB : Below w.heap.size w V11 := qV10.below.trans ⟨h4.os, h4.tape, h4.output, h4.size, fun k hk => h4.block k (by have := qV10.below.size; omega) (fun e => by have := (rmV10.lt _ e.symm).1; omega)⟩
      have ru9 := own_grown_apart h1 h4 (fun k e => own_apart (by decide) rmV10 h1 k e)
      refine hK'.out _ _ (.inl rfl) ?_; clear hK' K'; try simp only [Act.put, List.setIfInBounds_toArray, List.set_cons_zero, List.set_cons_succ, Array.toArray_toList]
      refine wpAnyT_one 8 rfl (by kernel_rfl) (fun K' hK' => ?_)
      refine ite_go rfl ?_
      refine wp_store_one none rfl 28 (.tmp 6) (.tmp 49) rfl w.heap.size vu' rfl rfl (own_slice h1) ku rfl ?_
      intro Y1 ku2 on1
      refine hK'.out _ _ (.inl rfl) ?_; clear hK' K'; try simp only [Act.put, List.setIfInBounds_toArray, List.set_cons_zero, List.set_cons_succ, Array.toArray_toList]
      refine wpAnyT_one 9 rfl (by kernel_rfl) (fun K' hK' => ?_)
      refine ite_go rfl ?_
      refine wp_store_one none rfl 62 (.tmp 7) (.tmp 53) rfl (w.heap.size + 1) vm' rfl rfl (own_slice h3) (km.only on1 (by omega)) rfl ?_
      intro Y2 km2 on2
      refine hK'.out _ _ (.inl rfl) ?_; clear hK' K'; try simp only [Act.put, List.setIfInBounds_toArray, List.set_cons_zero, List.set_cons_succ, Array.toArray_toList]
      refine wpAnyT_done (by kernel_rfl) ?_ _
      have kp2 := (kp.only on1 (fun h => hKu h)).only on2 (fun h => hKm h)
      have ru10 := own_only (own_only ru9 on1 (fun k e => by have := (ru9.lt k e).1; omega)) on2 (fun k e => by have := (ru9.lt k e).1; omega)
      have rm10 := own_only (own_only h3 on1 (fun k e => by have := (h3.lt k e).1; omega)) on2 (fun k e => by have := (h3.lt k e).1; omega)
      have ku3 := ku2.only on2 (by omega)
      have kB2 := below_only (below_only kB on1 (Nat.le_refl _)) on2 (Nat.le_succ _)
      clear hsL
      gi_wp2
      exact fin Y2 vu' vm' kp2 ku3 km2 ru10 rm10 kB2
  case done =>
    rintro D ys A hD hS ⟨_, hI⟩ hK'
    subst hS
    have hy := actU_mem r S n
    have hup := usN_up r S n
    have hum := usN_mem r S n
    have hgfa := gf_act r S n
    obtain ⟨⟨vu, vm, hbu, hbm, hru, hrm, _⟩, hBA⟩ := hI
    have hlen := actU_length r S n
    generalize actU r S n = ys at *
    have h64 : G64 (fracsL ys) := G64.of fun p hp => by
      unfold fracsL at hp
      obtain ⟨y, hy1, rfl⟩ := List.mem_map.1 hp
      obtain ⟨e1, e2, e3⟩ := hy y hy1
      rw [e1]
      exact ⟨by have := (hr.out y.1 e2).2; show r y.1 < _; omega, by have := (HS.out.bd y.1 e2).2; show S y.1 < _; omega⟩
    have hgood : anyBad (fracsL ys) = false := anyBad_none _ fun i hi hbad => by
      rw [fracsL_length] at hi
      rw [hgfa i (by rw [usN_length]; exact hi)] at hbad
      have hx : (usN ys).getD i 0 ∈ usN ys := by rw [List.getD_eq_getElem?_getD, List.getElem?_eq_getElem (by rw [usN_length]; exact hi)]; exact List.getElem_mem _
      have := ((hum _).1 hx).2
      unfold mt Bad at hbad
      simp only at hbad; omega
    obtain ⟨N, hN⟩ : ∃ N, N = ys.length := ⟨_, rfl⟩
    obtain ⟨am, cm, rfl, _⟩ := own_slice_form hrm
    have hFr : Frc A am (fracsL ys) := by
      refine frc_own (base := wL.heap.size + 2) (cap := cm) ?_
      rw [fracsL_length]; exact hrm
    have hOu : OwnI A (wL.heap.size + 2) vu (usN ys) := by
      unfold OwnI
      rw [usN_length, ← usersL_iv]; exact hru
    have hcall := order_ok (fracsL ys) h64 hgood am cm A hFr (by rw [fracsL_length]; omega)
    unfold Ordered at hcall
    rw [fracsL_length, ← hN] at hcall
    have cm0 := hbm.cell 0
    simp only [List.getElem?_toArray, List.getElem?_cons_zero] at cm0
    rw [← hN] at cm0
    have hDl : D < A.heap.size := (Array.getElem?_eq_some_iff.1 hK').1
    have hbul := hbu.lt
    have hN32 : N ≤ 32 := by omega
    have HUS := Lib.hid (ord_of r S n (usN ys) hup hum (gf (fracsL ys)) (fun i hi => hgfa i hi))
    have HNN := Lib.hid hN
    have HUL := Lib.hid (show (usN ys).length = N by rw [usN_length, hN])
    have HLEN := Lib.hid hlen
    have HKD := Lib.hid hK'
    have HOU := Lib.hid hOu
    have HBU := Lib.hid hbu
    clear hy hup hum hgfa hru hrm hFr h64 hgood hN hlen hK' hOu hbu hI0 hseq hKL hA bb1 bb2 bu2 bm2 hbm
    generalize usN ys = us at *
    gi_wp2
    go_wp2_with (go_at_call 36; (with_reducible refine hcall.mono ?_); rintro e w2 ⟨⟨b, g, rfl, hbA, hbk, hsm, hst⟩, hw2⟩)
    have HK : KeepsP (fun x => x ≠ b) w2 w2 := KeepsP.refl _ _
    have hord := HUS.out g (by rw [HUL.out]; exact hsm) (by rw [HUL.out]; exact hst)
    have HOL : RowKit.Hid ((ordU r S n).length = N) := Lib.hid (by rw [← hord, List.length_map, List.length_range]; exact HUL.out)
    have HOV : RowKit.Hid (∀ i, i < N → us.getD (g i) 0 = (ordU r S n).getD i 0) := Lib.hid (fun i hi => by rw [← hord]; have := HUL.out; simp [hi, this])
    have hgN : ∀ i, i < N → g i < N := fun i hi => by
      obtain ⟨j, _, hj, e⟩ := hsm.1 i (Nat.zero_le _) hi
      have e : g i = j := e
      omega
    have HGN := Lib.hid hgN
    have hwD := Lib.hid hD
    clear hord hgN hsm hst hcall hD
    go_loopw [61] (fun t wr => ∃ k : Nat, k ≤ N ∧ t = .int .i64 k ∧ Blk wr b (rowV (mixF us g k) N) 3 ∧ KeepsP (fun x => x ≠ b) w2 wr) (fun t _ => N - (intOf t).toNat)
    case atStart => exact ⟨0, Nat.zero_le _, rfl, by rw [mixF_zero]; exact hbk, HK⟩
    case round =>
      clear hbk HK cm0
      obtain ⟨k, hk, rfl, hbk, HK⟩ := hrel
      by_cases hlt : k < N
      · have c0 := hbk.row k hlt
        rw [mixF_at] at c0
        have f0 := hbk.frozen k
        have hgk := HGN.out k hlt
        rcases HOU.out.form with ⟨_, he⟩ | ⟨ub, ucap, rfl, h1, h2, _, _, h3, _⟩
        · have := HUL.out
          rw [he] at this
          simp at this; omega
        · have d0 := cell_keepsP (p := ⟨ub, g k, none⟩) ((hw2.cell (p := ⟨ub, g k, none⟩) h2).trans (h3 (g k) (by rw [HUL.out]; exact hgk))) HK (Nat.lt_of_lt_of_le h2 hw2.size) (show ub ≠ b by omega)
          have d1 := ((HBU.out.below hw2 hbul).keepsP HK (show w.heap.size ≠ b by omega)).cell 0
          simp only [List.getElem?_toArray, List.getElem?_cons_zero] at d1
          have q := hbk.set k (.int .i64 (us.getD (g k) 0 : Nat))
          rw [rowV_set, mixF_next] at q
          have HUL' := HUL.out
          rw [HUL'] at d1
          have HQ := Lib.hid q
          clear hbk h3 q HUL'
          generalize us.getD (g k) 0 = x at *
          generalize g k = y at *
          go_wp2
          exact ⟨⟨k + 1, by omega, by go_num, HQ.out, HK.only (Only.setCell wr k _) (fun h => h rfl)⟩, by simp [intOf]; omega⟩
      · obtain rfl : k = N := by omega
        go_wp2
        rw [← hQ.out]
        have hKD : wr.heap[D]? = some (.deferred (some [])) := (HK.same D (Nat.lt_of_lt_of_le hDl hw2.size) (show D ≠ b by omega)).trans ((hw2.block D hDl).trans HKD.out)
        refine ⟨by simp, .inl ⟨_, _, rfl, run_takeDeferred hKD, ?_⟩⟩
        have hwD' := hwD.out
        refine ⟨_, results_tmp2 rfl _ _ _, ⟨b, ?_, ?_, ?_⟩, ?_⟩
        · rw [HOL.out]; rfl
        · have := hBA.size; omega
        · rw [HOL.out, ← rowV_congr (mixF us g k) (fun i => (ordU r S n).getD i 0) k (fun i hi => by unfold mixF; rw [if_pos hi]; exact HOV.out i hi)]
          show (wr.putObj D (.deferred none)).heap[b]? = _
          rw [World.putObj_heap_other (by omega)]
          exact hbk
        · have hA2 := bnext hBA hw2
          refine (hA2.trans ⟨HK.os, HK.tape, HK.output, HK.size, fun i hi => HK.same i (by have := hA2.size; omega) (by show i ≠ b; have := hBA.size; omega)⟩).trans (below_put _ _ _ (by omega))
  case stop =>
    rintro D cd pre A hD hf hK'
    exact hf.elim
end Go.Proofs.Ytdnpbemkobhlcaa
