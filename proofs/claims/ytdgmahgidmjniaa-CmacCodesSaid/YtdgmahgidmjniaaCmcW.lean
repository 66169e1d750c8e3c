/-
  CMAC: the reference's Code, the law on the codes.
-/
import Derived.Test.YtdgmahgidmjniaaCmcN
set_option linter.unusedSimpArgs false
set_option linter.unusedVariables false
namespace Go.Proofs.Ytdgmahgidmjniaa
open Go.RowKit
attribute [-go_sem] Instr.build

theorem wp_append_opt {P : Program} {w : World} {o : Oper} {a : Act} {K : Act → World → Prop} {Q : Exit → Act → World → Prop} (s x : Operand) (t : TypeId)
    (ho : o.op = .call { callee := .builtin .append, args := #[s, x], argTypes := #[t, t] })
    (base : Nat) (e : TypeId) (i : TypeInfo) (ht : P.underlying t = some (.slice e)) (hi : P.info? e = some i) (hz : i.zero = some (.int .u8 0)) (hsize : i.size = 1) (hby : i.bytes = 1)
    (v : Value) (l : List UInt8) (hs : a.eval s = v) (hown : w.ownsRow base e 1 v l.length (l.map B))
    (ad : Option Addr) (m : List UInt8) (c : Nat) (hx : a.eval x = .slice ad m.length c) (h0 : ad = none → c = 0) (hb : Byt w ad m) (hlen : l.length + m.length ≤ 100000000000) (hbase : base ≤ w.heap.size)
    (h : ∀ v' w', w'.ownsRow base e 1 v' (l ++ m).length ((l ++ m).map B) → w.grownBy w' v.ownBlock → K (a.put o.dst v') w') : o.wp P a w K Q := by
  cases ad with
  | none =>
    have hl : m = [] := by
      cases m with
      | nil => rfl
      | cons x r =>
        obtain ⟨b, o, e, _⟩ := hb (by simp)
        cases e
    subst hl
    rw [h0 rfl] at hx
    have hrun := run_append_owned_none (P := P) (w := w) base t o.type e i 1 ht hi v l.length (l.map B) hown
    have h2 := h v w (by simpa using hown) ⟨rfl, rfl, rfl, Nat.le_refl _, fun _ _ _ => rfl⟩
    unfold Oper.wp
    simp [execOp, ho, resolve, invoke, builtin, hs, hx, hrun, Result.andThen]
    exact h2
  | some ad =>
    refine wp_append_own w s x t ho base e i (.int .u8 0) 1 1 ht hi hz hsize hby rfl (by decide) v l.length (l.map B) hs hown ad m.length c (m.map B) hx (by simp) (fun j u hj => ?_) (B_one m) (by unfold maxLen; omega) (by omega) hbase
      (fun v' w' h1 h2 _ => h v' w' (by rw [List.length_append, List.map_append]; exact h1) h2)
    have hj' : j < m.length := by
      have := (List.getElem?_eq_some_iff.1 hj).1
      simpa using this
    obtain ⟨b, o, e, _, hc⟩ := hb (by omega)
    simp only [Option.some.injEq] at e
    subst e
    have h1 := hc j hj'
    rw [List.getElem?_map, List.getElem?_eq_getElem hj', Option.map_some, Option.some.injEq] at hj
    subst hj
    rw [Go.WideShapes.add_plain]
    simpa [gd, hj', B] using h1
theorem gd_app (a b : List UInt8) (i : Nat) (h : i < a.length) : gd (a ++ b) i = gd a i := by
  unfold gd
  rw [List.getD_eq_getElem?_getD, List.getD_eq_getElem?_getD, List.getElem?_append_left h]
theorem accN_four (L : List UInt8) : accN L 4 = (((gd L 0).toNat * 16777216 + (gd L 1).toNat * 65536) + (gd L 2).toNat * 256) + (gd L 3).toNat := by
  simp only [accN]; omega
set_option maxRecDepth 100000 in
set_option maxHeartbeats 8000000 in
theorem refcode_any (key : List UInt8) (hk : key.length = 16) (c b d : Nat) (hb : b ≤ 31) (hd : d ≤ 1) (v : Value) (l : List UInt8) (w : World) (hv : Bsl w v l) (hlen : l.length ≤ 300) :
    Calls Try.prog 55 #[.agg (bytesV key), .int .u32 c, .int .i64 b, .int .i64 d, v] w fun e w' => e = .returned (.int .u32 (codeL key c b d l)) ∧ Below w.heap.size w w' := by
  obtain ⟨i0, hi, hz0, hz1, hz2⟩ := info_parts info5
  have z2 : ∀ w, (zeroValue 22).run Try.prog w = .ok (.agg (bytesV Z16)) w := (zero_of_info zero22).1
  have hblk : ∀ w, Calls Try.prog 30 #[.int .u32 (c : Int), .int .i64 (b : Int), .int .i64 (d : Int), .int .u64 0] w fun e w' => e = .returned (.agg (bytesV (cblk c b d 0))) ∧ Below w.heap.size w w' := fun w => refblock_ok c b d 0 hb hd w
  obtain ⟨p, hp⟩ : ∃ p, p = half (pre c b d) := ⟨_, rfl⟩
  have lp := Lib.hid (show p.length = 8 by rw [hp, len_half])
  have hL : preL c b d l = p ++ l := by rw [preL, hp]
  obtain ⟨CB, hCB⟩ : ∃ CB, CB = cblk c b d 0 := ⟨_, rfl⟩
  have lcb := Lib.hid (show CB.length = 16 by rw [hCB, cblk_length])
  have hcp : ∀ i, i < p.length → gd CB i = gd p i := fun i h => by rw [hCB, cblk, ← hp]; exact gd_app _ _ i h
  rw [← hCB] at hblk
  clear hp hCB
  have hsum := fun v w h => refsum_any key hk v (p ++ l) w h (by rw [List.length_append, lp.out]; omega)
  have hcl := Lib.hid (cmacL_length key (p ++ l))
  have hcode : codeL key c b d l = accN (cmacL key (p ++ l)) 4 := by rw [codeL, hL]
  obtain ⟨CM, hCM⟩ : ∃ CM, CM = cmacL key (p ++ l) := ⟨_, rfl⟩
  rw [← hCM] at hsum hcl hcode
  clear hCM hL
  rw [hcode]
  replace hcode := Lib.hid hcode
  obtain ⟨a, cap, rfl, q1, q2, q3, q4⟩ := hv
  have h3 := Lib.hid q3
  have h4 := Lib.hid q4
  clear q1 q2 q3 q4
  have b0 : Blk (w.alloc (.cells (bytesV key) 22)) w.heap.size (bytesV key) 22 := Blk.new' rfl
  have hB : Below w.heap.size w (w.alloc (.cells (bytesV key) 22)) := (Below.refl _ _).alloc (Nat.le_refl _) _
  go_enter Try.func55, Try.ntmps55
  go_wp2_with (first
    | (go_at_call 30; (with_reducible refine (hblk _).mono ?_); rintro e w1 ⟨rfl, hb1⟩; replace b0 := b0.below hb1 b0.lt; replace hB := bnext hB hb1; have n0 := b0.lt; clear hb1)
    | ((with_reducible refine wpList_store_blk rfl 22 (.tmp 11) (.tmp 16) rfl w1.heap.size 0 16 (bytesV CB) rfl rfl (C := bytesV Z16) (t := 22) ?_ row22 ?_ ?_ (bytesV_one _) ?_); (exact Blk.new' rfl); (rw [bytesV_size, lcb.out]); (rw [bytesV_size]; decide); intro w2 g1 ho2; rw [splice_all _ _ (by rw [lcb.out]; rfl)] at g1; have hb2 := below_only ((Below.refl w1.heap.size w1).alloc (Nat.le_refl _) (.cells (bytesV Z16) 22)) ho2 (Nat.le_refl _); replace b0 := b0.below hb2 b0.lt; replace hB := bnext hB hb2; clear hb2 ho2)
    | fail)
  obtain ⟨b11, hb11⟩ : ∃ b11, b11 = w1.heap.size := ⟨_, rfl⟩
  rw [← hb11] at g1 ⊢
  have hby := Lib.hid (fun W (h : Blk W b11 (bytesV CB) 22) => (fun _ => ⟨b11, 0, rfl, h.lt, fun i hi => by rw [Nat.zero_add, ← hcp i hi]; exact h.gd i (by rw [lcb.out]; have := lp.out; omega)⟩ : Byt W (some ⟨b11, 0, none⟩) p))
  clear hb11 hcp
  simp only [Act.put]
  go_cut [12] (fun s12 wx => ∃ g, s12 = .pointer (some ⟨g, 0, none⟩) ∧ Blk wx g (bytesV CM) 22 ∧ Below w.heap.size w wx)
  case first =>
    have r1 : (Try.prog.info? 22).map (·.size) = some (bytesV key).toList.length := by rw [Array.length_toList, bytesV_size, hk]; exact row22.2
    have hB2 := hB.drew
    have kb := b0.drew
    have k11 := g1.drew
    obtain ⟨Sw, hSw⟩ : ∃ Sw : World → Prop, Sw = fun w' => w'.rangeAt w.heap.size 0 (bytesV key).toList := ⟨_, rfl⟩
    have a0 : ∀ w', Blk w' w.heap.size (bytesV key) 22 → Sw w' := fun w' h => by
      have := h.range 0 16
      rw [bytesV_whole key 16 hk] at this
      rw [hSw]; exact this
    have a1 : ∀ w', Sw w' → w'.rangeAt w.heap.size 0 (bytesV key).toList := fun w' h => by rw [hSw] at h; exact h
    have hs9 := a0 _ kb
    clear hSw hB b0 g1
    refine wp_region_held_drew (S := Sw) (by kernel_rfl) hs9 (fun hHeld => ?_)
    clear hHeld
    obtain ⟨V, hV⟩ : ∃ V, V = w2.drew := ⟨_, rfl⟩
    rw [← hV] at hB2 kb k11 hs9 ⊢
    clear hV
    refine wpAnyH_takeD 0 (some 17) rfl rfl (by kernel_rfl) (by kernel_rfl) (by kernel_rfl) (fun _ _ _ h => h) (yieldsIf_load_mid rfl 22 _ rfl w.heap.size 0 rfl (bytesV key).toList _ a1 Try.underlying22 rfl r1) hs9 ?_
    try simp only [Act.put, List.setIfInBounds_toArray, List.set_cons_zero, List.set_cons_succ, Array.toArray_toList]
    refine wpAnyH_takeD 1 (some 18) rfl rfl (by kernel_rfl) (by kernel_rfl) (by kernel_rfl) (fun _ _ _ h => h) (yieldsIf_calc (v := .slice (some ⟨b11, 0, none⟩) 8 16) rfl (fun w => by unfold execOp; go_simp)) hs9 ?_
    try simp only [Act.put, List.setIfInBounds_toArray, List.set_cons_zero, List.set_cons_succ, Array.toArray_toList]
    refine wpAnyH_takeD 3 (some 20) rfl rfl (by kernel_rfl) (by kernel_rfl) (by kernel_rfl) (fun _ _ _ h => h) (yieldsIf_move rfl _ rfl (.slice a l.length cap) rfl) hs9 ?_
    try simp only [Act.put, List.setIfInBounds_toArray, List.set_cons_zero, List.set_cons_succ, Array.toArray_toList]
    clear hs9
    refine wpAnyH_two 2 6 rfl rfl (by kernel_rfl) (fun K' hK' => ?_) (fun K' hK' => ?_)
    · skip
      refine ite_go rfl ?_
      refine wp_append_opt (.const (.slice none 0 0)) (.tmp 18) 37 rfl w.heap.size 5 i0 elem37 hi hz0 hz1 hz2 (.slice none 0 0) [] rfl (World.ownsRow_nil _ _ _ _) (some ⟨b11, 0, none⟩) p 16 (by rw [lp.out]; rfl) (fun h => nomatch h) (hby.out _ k11) (by simp [lp.out]) hB2.size ?_
      intro v8 V1 o8 g8
      rw [List.nil_append] at o8
      have hbx : Below w.heap.size V V1 := (Below.refl _ _).grown g8 hB2.size (fun k hk => by cases hk)
      replace kb := kb.grown g8 (fun e => by cases e); replace hB2 := hB2.trans hbx; (try replace hz := hz.grown g8 (fun e => by cases e))
      clear k11 hbx g8
      generalize V1 = V at *
      refine hK'.out _ _ (a0 _ kb) ?_; clear hK' K'; try simp only [Act.put, List.setIfInBounds_toArray, List.set_cons_zero, List.set_cons_succ, Array.toArray_toList]
      refine wpAnyH_two 4 6 rfl rfl (by kernel_rfl) (fun K' hK' => ?_) (fun K' hK' => ?_)
      · skip
        refine ite_go rfl ?_
        refine wp_append_opt (.tmp 19) (.tmp 20) 37 rfl w.heap.size 5 i0 elem37 hi hz0 hz1 hz2 v8 p rfl o8 a l cap rfl h3.out (h4.out.cells hB2) (by rw [lp.out]; omega) hB2.size ?_
        intro v9 V2 o9 g9
        have hbx : Below w.heap.size V V2 := (Below.refl _ _).grown g9 hB2.size (own_ge o8)
        replace kb := kb.grown g9 (own_type o8 kb (by decide)); replace hB2 := hB2.trans hbx; (try replace hz := hz.grown g9 (own_type o8 hz (by decide)))
        clear hbx o8 g9
        generalize V2 = V at *
        refine hK'.out _ _ (a0 _ kb) ?_; clear hK' K'; try simp only [Act.put, List.setIfInBounds_toArray, List.set_cons_zero, List.set_cons_succ, Array.toArray_toList]
        refine wpAnyH_two 5 6 rfl rfl (by kernel_rfl) (fun K' hK' => ?_) (fun K' hK' => ?_)
        · skip
          go_simp
          (go_at_call 53; (with_reducible refine (hsum _ _ (bsl_own o9)).mono ?_); rintro e V3 ⟨rfl, hbx⟩)
          go_wp2
          replace kb := kb.below hbx kb.lt; replace hB2 := bnext hB2 hbx; (try replace hz := hz.below hbx hz.lt)
          clear hbx o9
          generalize V3 = V at *
          refine hK'.out _ _ (a0 _ kb) ?_; clear hK' K'; try simp only [Act.put, List.setIfInBounds_toArray, List.set_cons_zero, List.set_cons_succ, Array.toArray_toList]
          refine wpAnyH_one 6 rfl (by kernel_rfl) (fun K' hK' => ?_)
          go_simp
          obtain ⟨VA, hVA⟩ : ∃ VA, VA = V.alloc (.cells (bytesV Z16) 22) := ⟨_, rfl⟩
          rw [← hVA]
          have hbx : Below V.heap.size V VA := by rw [hVA]; exact (Below.refl _ _).alloc (Nat.le_refl _) _
          have hz : Blk VA V.heap.size (bytesV Z16) 22 := by rw [hVA]; exact Blk.new' rfl
          obtain ⟨gA, hgA⟩ : ∃ gA, gA = V.heap.size := ⟨_, rfl⟩
          rw [← hgA] at hz ⊢
          have hgw : w.heap.size < gA := by rw [hgA]; exact kb.lt
          replace kb := kb.below hbx kb.lt; replace hB2 := bnext hB2 hbx; (try replace k11 := k11.below hbx k11.lt); (try replace o8 := own_below o8 hbx); (try replace o9 := own_below o9 hbx)
          clear hVA hbx hgA
          generalize VA = V at *
          refine hK'.out _ _ (a0 _ kb) ?_; clear hK' K'; try simp only [Act.put, List.setIfInBounds_toArray, List.set_cons_zero, List.set_cons_succ, Array.toArray_toList]
          refine wpAnyH_one 7 rfl (by kernel_rfl) (fun K' hK' => ?_)
          refine ite_go rfl ?_
          refine wp_store_blk 22 (.tmp 12) (.tmp 22) rfl gA 0 16 (bytesV CM) rfl rfl hz row22 (by rw [bytesV_size, hcl.out]) (by rw [bytesV_size]; decide) (bytesV_one _) ?_
          intro wz iz oz
          rw [splice_all _ _ (by rw [hcl.out]; rfl)] at iz
          have kz := kb.only oz (by omega)
          refine hK'.out _ _ (a0 _ kz) ?_; clear hK' K'; try simp only [Act.put, List.setIfInBounds_toArray, List.set_cons_zero, List.set_cons_succ, Array.toArray_toList]
          refine wpAnyH_done (by kernel_rfl) ?_ _
          go_wp2
          go_meet
          exact ⟨gA, rfl, iz, below_only hB2 oz (by omega)⟩
        · skip
          go_simp
          obtain ⟨VA, hVA⟩ : ∃ VA, VA = V.alloc (.cells (bytesV Z16) 22) := ⟨_, rfl⟩
          rw [← hVA]
          have hbx : Below V.heap.size V VA := by rw [hVA]; exact (Below.refl _ _).alloc (Nat.le_refl _) _
          have hz : Blk VA V.heap.size (bytesV Z16) 22 := by rw [hVA]; exact Blk.new' rfl
          obtain ⟨gA, hgA⟩ : ∃ gA, gA = V.heap.size := ⟨_, rfl⟩
          rw [← hgA] at hz ⊢
          have hgw : w.heap.size < gA := by rw [hgA]; exact kb.lt
          replace kb := kb.below hbx kb.lt; replace hB2 := bnext hB2 hbx; (try replace k11 := k11.below hbx k11.lt); (try replace o8 := own_below o8 hbx); (try replace o9 := own_below o9 hbx)
          clear hVA hbx hgA
          generalize VA = V at *
          refine hK'.out _ _ (a0 _ kb) ?_; clear hK' K'; try simp only [Act.put, List.setIfInBounds_toArray, List.set_cons_zero, List.set_cons_succ, Array.toArray_toList]
          refine wpAnyH_one 5 rfl (by kernel_rfl) (fun K' hK' => ?_)
          go_simp
          (go_at_call 53; (with_reducible refine (hsum _ _ (bsl_own o9)).mono ?_); rintro e V3 ⟨rfl, hbx⟩)
          go_wp2
          replace kb := kb.below hbx kb.lt; replace hB2 := bnext hB2 hbx; (try replace hz := hz.below hbx hz.lt)
          clear hbx o9
          generalize V3 = V at *
          refine hK'.out _ _ (a0 _ kb) ?_; clear hK' K'; try simp only [Act.put, List.setIfInBounds_toArray, List.set_cons_zero, List.set_cons_succ, Array.toArray_toList]
          refine wpAnyH_one 7 rfl (by kernel_rfl) (fun K' hK' => ?_)
          refine ite_go rfl ?_
          refine wp_store_blk 22 (.tmp 12) (.tmp 22) rfl gA 0 16 (bytesV CM) rfl rfl hz row22 (by rw [bytesV_size, hcl.out]) (by rw [bytesV_size]; decide) (bytesV_one _) ?_
          intro wz iz oz
          rw [splice_all _ _ (by rw [hcl.out]; rfl)] at iz
          have kz := kb.only oz (by omega)
          refine hK'.out _ _ (a0 _ kz) ?_; clear hK' K'; try simp only [Act.put, List.setIfInBounds_toArray, List.set_cons_zero, List.set_cons_succ, Array.toArray_toList]
          refine wpAnyH_done (by kernel_rfl) ?_ _
          go_wp2
          go_meet
          exact ⟨gA, rfl, iz, below_only hB2 oz (by omega)⟩
      · skip
        go_simp
        obtain ⟨VA, hVA⟩ : ∃ VA, VA = V.alloc (.cells (bytesV Z16) 22) := ⟨_, rfl⟩
        rw [← hVA]
        have hbx : Below V.heap.size V VA := by rw [hVA]; exact (Below.refl _ _).alloc (Nat.le_refl _) _
        have hz : Blk VA V.heap.size (bytesV Z16) 22 := by rw [hVA]; exact Blk.new' rfl
        obtain ⟨gA, hgA⟩ : ∃ gA, gA = V.heap.size := ⟨_, rfl⟩
        rw [← hgA] at hz ⊢
        have hgw : w.heap.size < gA := by rw [hgA]; exact kb.lt
        replace kb := kb.below hbx kb.lt; replace hB2 := bnext hB2 hbx; (try replace k11 := k11.below hbx k11.lt); (try replace o8 := own_below o8 hbx); (try replace o9 := own_below o9 hbx)
        clear hVA hbx hgA
        generalize VA = V at *
        refine hK'.out _ _ (a0 _ kb) ?_; clear hK' K'; try simp only [Act.put, List.setIfInBounds_toArray, List.set_cons_zero, List.set_cons_succ, Array.toArray_toList]
        refine wpAnyH_one 4 rfl (by kernel_rfl) (fun K' hK' => ?_)
        refine ite_go rfl ?_
        refine wp_append_opt (.tmp 19) (.tmp 20) 37 rfl w.heap.size 5 i0 elem37 hi hz0 hz1 hz2 v8 p rfl o8 a l cap rfl h3.out (h4.out.cells hB2) (by rw [lp.out]; omega) hB2.size ?_
        intro v9 V2 o9 g9
        have hbx : Below w.heap.size V V2 := (Below.refl _ _).grown g9 hB2.size (own_ge o8)
        replace kb := kb.grown g9 (own_type o8 kb (by decide)); replace hB2 := hB2.trans hbx; (try replace hz := hz.grown g9 (own_type o8 hz (by decide)))
        clear hbx o8 g9
        generalize V2 = V at *
        refine hK'.out _ _ (a0 _ kb) ?_; clear hK' K'; try simp only [Act.put, List.setIfInBounds_toArray, List.set_cons_zero, List.set_cons_succ, Array.toArray_toList]
        refine wpAnyH_one 5 rfl (by kernel_rfl) (fun K' hK' => ?_)
        go_simp
        (go_at_call 53; (with_reducible refine (hsum _ _ (bsl_own o9)).mono ?_); rintro e V3 ⟨rfl, hbx⟩)
        go_wp2
        replace kb := kb.below hbx kb.lt; replace hB2 := bnext hB2 hbx; (try replace hz := hz.below hbx hz.lt)
        clear hbx o9
        generalize V3 = V at *
        refine hK'.out _ _ (a0 _ kb) ?_; clear hK' K'; try simp only [Act.put, List.setIfInBounds_toArray, List.set_cons_zero, List.set_cons_succ, Array.toArray_toList]
        refine wpAnyH_one 7 rfl (by kernel_rfl) (fun K' hK' => ?_)
        refine ite_go rfl ?_
        refine wp_store_blk 22 (.tmp 12) (.tmp 22) rfl gA 0 16 (bytesV CM) rfl rfl hz row22 (by rw [bytesV_size, hcl.out]) (by rw [bytesV_size]; decide) (bytesV_one _) ?_
        intro wz iz oz
        rw [splice_all _ _ (by rw [hcl.out]; rfl)] at iz
        have kz := kb.only oz (by omega)
        refine hK'.out _ _ (a0 _ kz) ?_; clear hK' K'; try simp only [Act.put, List.setIfInBounds_toArray, List.set_cons_zero, List.set_cons_succ, Array.toArray_toList]
        refine wpAnyH_done (by kernel_rfl) ?_ _
        go_wp2
        go_meet
        exact ⟨gA, rfl, iz, below_only hB2 oz (by omega)⟩
    · skip
      go_simp
      obtain ⟨VA, hVA⟩ : ∃ VA, VA = V.alloc (.cells (bytesV Z16) 22) := ⟨_, rfl⟩
      rw [← hVA]
      have hbx : Below V.heap.size V VA := by rw [hVA]; exact (Below.refl _ _).alloc (Nat.le_refl _) _
      have hz : Blk VA V.heap.size (bytesV Z16) 22 := by rw [hVA]; exact Blk.new' rfl
      obtain ⟨gA, hgA⟩ : ∃ gA, gA = V.heap.size := ⟨_, rfl⟩
      rw [← hgA] at hz ⊢
      have hgw : w.heap.size < gA := by rw [hgA]; exact kb.lt
      replace kb := kb.below hbx kb.lt; replace hB2 := bnext hB2 hbx; (try replace k11 := k11.below hbx k11.lt); (try replace o8 := own_below o8 hbx); (try replace o9 := own_below o9 hbx)
      clear hVA hbx hgA
      generalize VA = V at *
      refine hK'.out _ _ (a0 _ kb) ?_; clear hK' K'; try simp only [Act.put, List.setIfInBounds_toArray, List.set_cons_zero, List.set_cons_succ, Array.toArray_toList]
      refine wpAnyH_one 2 rfl (by kernel_rfl) (fun K' hK' => ?_)
      refine ite_go rfl ?_
      refine wp_append_opt (.const (.slice none 0 0)) (.tmp 18) 37 rfl w.heap.size 5 i0 elem37 hi hz0 hz1 hz2 (.slice none 0 0) [] rfl (World.ownsRow_nil _ _ _ _) (some ⟨b11, 0, none⟩) p 16 (by rw [lp.out]; rfl) (fun h => nomatch h) (hby.out _ k11) (by simp [lp.out]) hB2.size ?_
      intro v8 V1 o8 g8
      rw [List.nil_append] at o8
      have hbx : Below w.heap.size V V1 := (Below.refl _ _).grown g8 hB2.size (fun k hk => by cases hk)
      replace kb := kb.grown g8 (fun e => by cases e); replace hB2 := hB2.trans hbx; (try replace hz := hz.grown g8 (fun e => by cases e))
      clear k11 hbx g8
      generalize V1 = V at *
      refine hK'.out _ _ (a0 _ kb) ?_; clear hK' K'; try simp only [Act.put, List.setIfInBounds_toArray, List.set_cons_zero, List.set_cons_succ, Array.toArray_toList]
      refine wpAnyH_one 4 rfl (by kernel_rfl) (fun K' hK' => ?_)
      refine ite_go rfl ?_
      refine wp_append_opt (.tmp 19) (.tmp 20) 37 rfl w.heap.size 5 i0 elem37 hi hz0 hz1 hz2 v8 p rfl o8 a l cap rfl h3.out (h4.out.cells hB2) (by rw [lp.out]; omega) hB2.size ?_
      intro v9 V2 o9 g9
      have hbx : Below w.heap.size V V2 := (Below.refl _ _).grown g9 hB2.size (own_ge o8)
      replace kb := kb.grown g9 (own_type o8 kb (by decide)); replace hB2 := hB2.trans hbx; (try replace hz := hz.grown g9 (own_type o8 hz (by decide)))
      clear hbx o8 g9
      generalize V2 = V at *
      refine hK'.out _ _ (a0 _ kb) ?_; clear hK' K'; try simp only [Act.put, List.setIfInBounds_toArray, List.set_cons_zero, List.set_cons_succ, Array.toArray_toList]
      refine wpAnyH_one 5 rfl (by kernel_rfl) (fun K' hK' => ?_)
      go_simp
      (go_at_call 53; (with_reducible refine (hsum _ _ (bsl_own o9)).mono ?_); rintro e V3 ⟨rfl, hbx⟩)
      go_wp2
      replace kb := kb.below hbx kb.lt; replace hB2 := bnext hB2 hbx; (try replace hz := hz.below hbx hz.lt)
      clear hbx o9
      generalize V3 = V at *
      refine hK'.out _ _ (a0 _ kb) ?_; clear hK' K'; try simp only [Act.put, List.setIfInBounds_toArray, List.set_cons_zero, List.set_cons_succ, Array.toArray_toList]
      refine wpAnyH_one 7 rfl (by kernel_rfl) (fun K' hK' => ?_)
      refine ite_go rfl ?_
      refine wp_store_blk 22 (.tmp 12) (.tmp 22) rfl gA 0 16 (bytesV CM) rfl rfl hz row22 (by rw [bytesV_size, hcl.out]) (by rw [bytesV_size]; decide) (bytesV_one _) ?_
      intro wz iz oz
      rw [splice_all _ _ (by rw [hcl.out]; rfl)] at iz
      have kz := kb.only oz (by omega)
      refine hK'.out _ _ (a0 _ kz) ?_; clear hK' K'; try simp only [Act.put, List.setIfInBounds_toArray, List.set_cons_zero, List.set_cons_succ, Array.toArray_toList]
      refine wpAnyH_done (by kernel_rfl) ?_ _
      go_wp2
      go_meet
      exact ⟨gA, rfl, iz, below_only hB2 oz (by omega)⟩
  case rest =>
    obtain ⟨g, rfl, hg, hB⟩ := hcut
    have c0 := hg.gd 0 (by rw [hcl.out]; decide)
    have c1 := hg.gd 1 (by rw [hcl.out]; decide)
    have c2 := hg.gd 2 (by rw [hcl.out]; decide)
    have c3 := hg.gd 3 (by rw [hcl.out]; decide)
    have e4 := Lib.hid (accN_four CM)
    have l0 := lt256 (gd CM 0)
    have l1 := lt256 (gd CM 1)
    have l2 := lt256 (gd CM 2)
    have l3 := lt256 (gd CM 3)
    generalize (gd CM 0).toNat = x0 at *
    generalize (gd CM 1).toNat = x1 at *
    generalize (gd CM 2).toNat = x2 at *
    generalize (gd CM 3).toNat = x3 at *
    have o1 := or_u32 (x0 * 16777216) (x1 * 65536) (x0 * 16777216 + x1 * 65536) 24 ⟨x0, by omega⟩ (by omega) rfl (by omega)
    have o2 := or_u32 (x0 * 16777216 + x1 * 65536) (x2 * 256) (x0 * 16777216 + x1 * 65536 + x2 * 256) 16 ⟨x0 * 256 + x1, by omega⟩ (by omega) rfl (by omega)
    have o3 := or_u32 (x0 * 16777216 + x1 * 65536 + x2 * 256) x3 (x0 * 16777216 + x1 * 65536 + x2 * 256 + x3) 8 ⟨x0 * 65536 + x1 * 256 + x2, by omega⟩ (by omega) rfl (by omega)
    replace o1 := Lib.hid o1
    replace o2 := Lib.hid o2
    replace o3 := Lib.hid o3
    go_wp2_with fail
    rw [o1.out ((x0 : Int) * 16777216) ((x1 : Int) * 65536) (by omega) (by omega), o2.out _ ((x2 : Int) * 256) rfl (by omega), o3.out _ (x3 : Int) rfl rfl]
    go_ret
    exact ⟨by rw [e4.out]; rfl, hB⟩
set_option maxRecDepth 100000 in
set_option maxHeartbeats 4000000 in
theorem cmaccodes_ok (key : List UInt8) (hk : key.length = 16) (c b d : Nat) (hc : c < 2 ^ 32) (hb : b ≤ 31) (hd : d ≤ 1) (v : Value) (l : List UInt8) (w : World) (hv : Bsl w v l) (hlen : l.length ≤ 300) :
    Calls Try.prog 20 #[.agg (parV key c b d), v] w fun e w' => e = .returned (.bool true) ∧ Below w.heap.size w w' := by
  have hcode := fun w h => code_ok key hk c b d hc hb hd v l w h (by omega)
  have href := fun w h => refcode_any key hk c b d hb hd v l w h hlen
  obtain ⟨X, hX⟩ : ∃ X, X = codeL key c b d l := ⟨_, rfl⟩
  rw [← hX] at hcode href
  clear hX
  obtain ⟨C, hC⟩ : ∃ C, C = parV key c b d := ⟨_, rfl⟩
  have a0 : PBox (w.alloc (.cells C 26)) w.heap.size key c b d := ⟨by rw [hC]; exact Blk.new' rfl, hk⟩
  have hkC := Lib.hid (fun w' (h : PBox w' w.heap.size key c b d) => h.blk)
  have hB : Below w.heap.size w (w.alloc (.cells C 26)) := (Below.refl _ _).alloc (Nat.le_refl _) _
  have hkx := Lib.hid (parV_key key hk c b d)
  have hks := Lib.hid (parV_size key hk c b d)
  rw [← hC] at hkx hks hkC ⊢
  clear hC
  have q := a0.cells
  obtain ⟨q0, q1, q2⟩ := q
  obtain ⟨a, cap, rfl, h1, h2, h3, h4⟩ := hv
  have hv : Bsl w (.slice a l.length cap) l := ⟨a, cap, rfl, h1, h2, h3, h4⟩
  have hv' := hv.below hB
  clear h1 h2 h3 h4
  have hlt : (l.length : Int) ≤ 300 := by omega
  go_enter Try.func20, Try.ntmps20
  go_wp2_with (first
    | ((with_reducible refine wpList_load_blk rfl 22 (.tmp 12) rfl w.heap.size 0 16 rfl (hkC.out _ a0) row22 ?_ (bytesV key) hkx.out ?_); (rw [hks.out]; decide))
    | (go_at_call 54; refine (hcode _ hv').mono ?_; rintro e w1 ⟨rfl, hb1⟩; replace a0 := a0.below hb1; replace hv' := hv'.below hb1; replace hB := bnext hB hb1; clear hb1 q0 q1 q2; obtain ⟨q0, q1, q2⟩ := a0.cells)
    | (go_at_call 28; (with_reducible refine (valid_ok b d hb hd _).mono ?_); rintro e w5 ⟨rfl, rfl⟩)
    | ((with_reducible refine wpList_load_blk_g 22 (.tmp 43) rfl w.heap.size 0 16 rfl (hkC.out _ a0) row22 ?_ ?_ (bytesV key) hkx.out ?_); (rfl); (rw [hks.out]; decide))
    | (go_at_call 55; refine (href _ hv').mono ?_; rintro e w2 ⟨rfl, hb2⟩; replace hB := bnext hB hb2; clear hb2 q0 q1 q2)
    | (go_at_call 51; refine (known41 _).mono ?_; rintro e w4 ⟨rfl, hb4⟩; replace hB := bnext hB hb4; clear hb4)
    | fail)
  go_ret
  exact ⟨rfl, hB⟩
set_option maxRecDepth 100000 in
set_option maxHeartbeats 4000000 in
theorem cmaccodes_err (key : List UInt8) (hk : key.length = 16) (c b d : Int) (hbad : b < 0 ∨ 31 < b ∨ (d ≠ 0 ∧ d ≠ 1)) (v : Value) (l : List UInt8) (w : World) (hv : Bsl w v l) (hlen : l.length ≤ 300) :
    Calls Try.prog 20 #[.agg (parV key c b d), v] w fun e w' => e = .returned (.bool true) ∧ Below w.heap.size w w' := by
  obtain ⟨C, hC⟩ : ∃ C, C = parV key c b d := ⟨_, rfl⟩
  have a0 : PBox (w.alloc (.cells C 26)) w.heap.size key c b d := ⟨by rw [hC]; exact Blk.new' rfl, hk⟩
  have hkC := Lib.hid (fun w' (h : PBox w' w.heap.size key c b d) => h.blk)
  have hB : Below w.heap.size w (w.alloc (.cells C 26)) := (Below.refl _ _).alloc (Nat.le_refl _) _
  have hkx := Lib.hid (parV_key key hk c b d)
  have hks := Lib.hid (parV_size key hk c b d)
  rw [← hC] at hkx hks hkC ⊢
  clear hC
  obtain ⟨q0, q1, q2⟩ := a0.cells
  obtain ⟨a, cap, rfl, h1, h2, h3, h4⟩ := hv
  clear h1 h2 h3 h4
  have hlt : (l.length : Int) ≤ 300 := by omega
  go_enter Try.func20, Try.ntmps20
  go_wp2_with (first
    | ((with_reducible refine wpList_load_blk rfl 22 (.tmp 12) rfl w.heap.size 0 16 rfl (hkC.out _ a0) row22 ?_ (bytesV key) hkx.out ?_); (rw [hks.out]; decide))
    | (go_at_call 54; refine (code_err key c b d hbad _ _ _ _).mono ?_; rintro e w1 ⟨rfl, hb1⟩; replace a0 := a0.below hb1; replace hB := bnext hB hb1; clear hb1 q0 q1 q2; obtain ⟨q0, q1, q2⟩ := a0.cells)
    | (go_at_call 28; (with_reducible refine (valid_err b d hbad _).mono ?_); rintro e w5 ⟨rfl, rfl⟩)
    | (go_at_call 51; refine (known41 _).mono ?_; rintro e w4 ⟨rfl, hb4⟩; replace hB := bnext hB hb4; clear hb4)
    | fail)
  go_ret
  exact ⟨rfl, hB⟩
theorem walk_CmacCodes (key : List UInt8) (hk : key.length = 16) (c b d : Int) (wc : (Lit.int .u32 c).wf = true) (v : Value) (l : List UInt8) (w : World) (hv : Bsl w v l) :
    Calls Try.prog 20 #[.agg (parV key c b d), v] w fun e w' => e = .returned (.bool true) ∧ Below w.heap.size w w' := by
  obtain ⟨c0, c1⟩ := bounds_u32' wc
  obtain ⟨c, rfl⟩ := Int.eq_ofNat_of_zero_le c0
  by_cases hlen : l.length ≤ 300
  · rcases cases_par b d with ⟨b', d', rfl, rfl, hb, hd⟩ | h
    · exact cmaccodes_ok key hk c b' d' (by omega) hb hd v l w hv hlen
    · exact cmaccodes_err key hk c b d h v l w hv hlen
  · have hB : Below w.heap.size w (w.alloc (.cells (parV key c b d) 26)) := (Below.refl _ _).alloc (Nat.le_refl _) _
    obtain ⟨C, hC⟩ : ∃ C, C = parV key c b d := ⟨_, rfl⟩
    rw [← hC] at hB ⊢
    clear hC
    obtain ⟨a, cap, rfl, h1, h2, h3, h4⟩ := hv
    clear h1 h2 h3 h4
    have hlt : (300 : Int) < l.length := by omega
    go_enter Try.func20, Try.ntmps20
    go_wp2_with (first
      | (go_at_call 51; refine (known41 _).mono ?_; rintro e w4 ⟨rfl, hb4⟩; replace hB := bnext hB hb4; clear hb4)
      | fail)
    go_ret
    exact ⟨rfl, hB⟩
end Go.Proofs.Ytdgmahgidmjniaa
