/-
  Message authentication codes: the subkeys, by the program and by the reference.
-/
import Derived.Test.YtdgmahgidmjniaaCmcA
import Derived.Test.YtdgmahgidmjniaaCtrG
import Derived.Test.YtdgmahgidmjniaaLawA
import Derived.Test.YtdgmahgidmjniaaCmcT
namespace Go.Proofs.Ytdgmahgidmjniaa
open Go.RowKit
attribute [-go_sem] Instr.build

theorem results_blk2 {P : Program} {fn : Func} {p q : Tmp} {ty : TypeId} (h : fn.results = #[.cell p ty, .cell q ty]) (tmps : Array Value) (w : World) (b b' : Nat) (C D : Array Value) (t : TypeId) (n : Nat)
    (hp : tmps.getD p undef = .pointer (some ⟨b, 0, none⟩)) (hq : tmps.getD q undef = .pointer (some ⟨b', 0, none⟩)) (hb : Blk w b C t) (hd : Blk w b' D t) (hr : RowTy P ty n) (hn : C.size = n) (hm : D.size = n) :
    (results fn tmps).run P w = .ok (.tuple #[.agg C, .agg D]) w := by
  obtain ⟨⟨d, hu, hd'⟩, hi⟩ := hr
  have hp' : tmps[p]?.getD undef = .pointer (some ⟨b, 0, none⟩) := by simpa using hp
  have hq' : tmps[q]?.getD undef = .pointer (some ⟨b', 0, none⟩) := by simpa using hq
  have e1 := run_loadVar_row w b t ty C (0, 0) d hb hu (by cases d <;> first | rfl | cases hd') (by rw [hn]; exact hi)
  have e2 := run_loadVar_row w b' t ty D (0, 0) d hd hu (by cases d <;> first | rfl | cases hd') (by rw [hm]; exact hi)
  simp [results, h, hp', hq', asAddr, e1, e2]

/-- The subkeys. -/
def sub1 (key : List UInt8) : List UInt8 := dblL (encR (ksL key 160) Z16 10)
def sub2 (key : List UInt8) : List UInt8 := dblL (sub1 key)
theorem sub1_length (key : List UInt8) : (sub1 key).length = 16 := dblL_length _
theorem sub2_length (key : List UInt8) : (sub2 key).length = 16 := dblL_length _
theorem build22 (w : World) : (Instr.build 22 #[]).run Try.prog w = .ok (.agg (bytesV Z16)) w := run_build w 22 _ _ (by kernel_rfl)
set_option maxRecDepth 100000 in
set_option maxHeartbeats 4000000 in
theorem subkeys_any (key : List UInt8) (hk : key.length = 16) (w : World) :
    Calls Try.prog 49 #[.agg (bytesV key)] w fun e w' => e = .returned (.tuple #[.agg (bytesV (sub1 key)), .agg (bytesV (sub2 key))]) ∧ Below w.heap.size w w' := by
  have z1 : ∀ w, (zeroValue 22).run Try.prog w = .ok (.agg (bytesV Z16)) w := (zero_of_info zero22).1
  have z2 : ∀ w, (zeroValue 97).run Try.prog w = .ok (.agg (bytesV Z16)) w := (zero_of_info zero97).1
  have u1 := build22
  obtain ⟨K, hK⟩ : ∃ K, K = ksL key 160 := ⟨_, rfl⟩
  have hKl := Lib.hid (show K.length = 176 by rw [hK, ksL_length key hk])
  have hnew := fun w => new_any key hk w
  rw [← hK] at hnew
  obtain ⟨E, hE⟩ : ∃ E, E = encR K Z16 10 := ⟨_, rfl⟩
  have hEl := Lib.hid (show E.length = 16 by rw [hE, encR_length])
  have henc : ∀ (w : World) (g : Nat), Blk w g (bytesV (cip K)) 59 → Calls Try.prog 40 #[.pointer (some ⟨g, 0, none⟩), .agg (bytesV Z16)] w fun e w' => e = .returned (.agg (bytesV E)) ∧ Below w.heap.size w w' := fun w g h => by
    rw [hE]; exact encrypt_any K hKl.out Z16 rfl _ w (.inl ⟨g, rfl, h⟩)
  obtain ⟨A, hA⟩ : ∃ A, A = dblL E := ⟨_, rfl⟩
  obtain ⟨B', hB'⟩ : ∃ B', B' = dblL A := ⟨_, rfl⟩
  have h1 : sub1 key = A := by rw [hA, hE, hK]; rfl
  have h2 : sub2 key = B' := by rw [sub2, h1, hB']
  have hd1 := fun w => doubled_any E hEl.out w
  rw [← hA] at hd1
  have hAl := Lib.hid (show A.length = 16 by rw [hA, dblL_length])
  have hBl := Lib.hid (show B'.length = 16 by rw [hB', dblL_length])
  have hd2 := fun w => doubled_any A hAl.out w
  rw [← hB'] at hd2
  have H1 := Lib.hid h1
  have H2 := Lib.hid h2
  clear hK hE hA hB' h1 h2
  obtain ⟨W, hW⟩ : ∃ W, W = ((w.alloc (.cells (bytesV key) 22)).alloc (.cells (bytesV Z16) 22)).alloc (.cells (bytesV Z16) 22) := ⟨_, rfl⟩
  have b0 : Blk W w.heap.size (bytesV key) 22 := by rw [hW]; exact ((Blk.new' rfl).alloc _).alloc _
  have b1 : Blk W (w.heap.size + 1) (bytesV Z16) 22 := by rw [hW]; exact (Blk.new' (by simp)).alloc _
  have b2 : Blk W (w.heap.size + 1 + 1) (bytesV Z16) 22 := by rw [hW]; exact Blk.new' (by simp)
  have hB : Below w.heap.size w W := by rw [hW]; exact (((Below.refl _ _).alloc (Nat.le_refl _) _).alloc (by simp) _).alloc (by simp; omega) _
  have HW := Lib.hid hW
  clear hW
  go_enter Try.func49, Try.ntmps49
  go_wp2_with (first
    | ((with_reducible refine wpList_load_blk rfl 22 (.tmp 1) rfl w.heap.size 0 16 rfl (HW.out ▸ b0) row22 ?_ (bytesV key) ?_ ?_); (rw [bytesV_size, hk]; exact Nat.le_refl _); (exact bytesV_whole _ _ hk))
    | (go_at_call 39; rw [← HW.out]; refine (hnew _).mono ?_; rintro e w2 ⟨bC, rfl, hC, hb1⟩; replace b1 := b1.below hb1 b1.lt; replace b2 := b2.below hb1 b2.lt; replace hB := bnext hB hb1; clear hb1 b0)
    | (go_at_call 40; (with_reducible refine (henc _ _ hC).mono ?_); rintro e w3 ⟨rfl, hb1⟩; replace b1 := b1.below hb1 b1.lt; replace b2 := b2.below hb1 b2.lt; replace hB := bnext hB hb1; clear hb1 hC)
    | (go_at_call 72; (with_reducible refine (hd1 _).mono ?_); rintro e w4 ⟨rfl, hb1⟩; replace b1 := b1.below hb1 b1.lt; replace b2 := b2.below hb1 b2.lt; replace hB := bnext hB hb1; clear hb1; have n1 := b1.lt; have n2 := b2.lt)
    | ((with_reducible refine wpList_store_blk rfl 97 (.tmp 4) (.tmp 9) rfl w4.heap.size 0 16 (bytesV A) rfl rfl (C := bytesV Z16) (t := 97) ?_ row97 ?_ ?_ (bytesV_one _) ?_); (exact Blk.new' rfl); (rw [bytesV_size, hAl.out]); (rw [bytesV_size]; decide); intro w5 g1 ho2; rw [splice_all _ _ (by rw [hAl.out]; rfl)] at g1; have hb2 := below_only ((Below.refl w4.heap.size w4).alloc (Nat.le_refl _) (.cells (bytesV Z16) 97)) ho2 (Nat.le_refl _); replace b1 := b1.below hb2 b1.lt; replace b2 := b2.below hb2 b2.lt; replace hB := bnext hB hb2; clear hb2 ho2)
    | fail)
  obtain ⟨Sw, hSw⟩ : ∃ Sw : World → Prop, Sw = fun w' => w'.rangeAt w4.heap.size 0 (bytesV A).toList := ⟨_, rfl⟩
  have hr : ∀ w', Blk w' w4.heap.size (bytesV A) 97 → w'.rangeAt w4.heap.size 0 (bytesV A).toList := fun w' h => by
    have := h.range 0 16
    rwa [bytesV_whole A 16 hAl.out] at this
  have a0 : ∀ w', Blk w' w4.heap.size (bytesV A) 97 → Sw w' := fun w' h => by rw [hSw]; exact hr _ h
  have a1 : ∀ w', Sw w' → w'.rangeAt w4.heap.size 0 (bytesV A).toList := fun w' h => by rw [hSw] at h; exact h
  have r1 : (Try.prog.info? 97).map (·.size) = some (bytesV A).toList.length := by rw [Array.length_toList, bytesV_size, hAl.out]; exact row97.2
  have s0 := a0 _ g1.drew
  clear hSw hr
  refine wp_region_held_drew (S := Sw) (by kernel_rfl) s0 (fun hHeld => ?_)
  clear hHeld
  refine wpAnyH_takeD 0 (some 10) rfl rfl (by kernel_rfl) (by kernel_rfl) (by kernel_rfl) (fun _ _ _ h => h) (yieldsIf_load_mid rfl 97 _ rfl w4.heap.size 0 rfl (bytesV A).toList _ a1 Try.underlying97 rfl r1) (by assumption) ?_
  try simp only [Act.put, List.setIfInBounds_toArray, List.set_cons_zero, List.set_cons_succ]
  refine wpAnyH_takeD 1 (some 11) rfl rfl (by kernel_rfl) (by kernel_rfl) (by kernel_rfl) (fun _ _ _ h => h) (yieldsIf_load_mid rfl 97 _ rfl w4.heap.size 0 rfl (bytesV A).toList _ a1 Try.underlying97 rfl r1) (by assumption) ?_
  try simp only [Act.put, List.setIfInBounds_toArray, List.set_cons_zero, List.set_cons_succ, Array.toArray_toList]
  refine wpAnyH_one 2 rfl (by kernel_rfl) (fun K' hK' => ?_)
  go_simp
  (go_at_call 72; (with_reducible refine (hd2 _).mono ?_); rintro e w6 ⟨rfl, hb6⟩)
  go_wp2
  have g3 := g1.drew.below hb6 g1.lt
  have b3 := b1.drew.below hb6 b1.lt
  have b4 := b2.drew.below hb6 b2.lt
  have hB3 := bnext hB.drew hb6
  have s3 := a0 _ g3
  refine hK'.out _ _ (by assumption) ?_; clear hK' K'; try simp only [Act.put, List.setIfInBounds_toArray, List.set_cons_zero, List.set_cons_succ]
  refine wpAnyH_one 3 rfl (by kernel_rfl) (fun K' hK' => ?_)
  refine ite_go rfl ?_
  refine wp_store_blk 22 (.tmp 2) (.tmp 10) rfl (w.heap.size + 1) 0 16 (bytesV A) rfl rfl b3 row22 (by rw [bytesV_size, hAl.out]) (by rw [bytesV_size]; decide) (bytesV_one _) ?_
  intro w7 d1 o7
  rw [splice_all _ _ (by rw [hAl.out]; rfl)] at d1
  have g4 := g3.only o7 (by omega)
  have b5 := b4.only o7 (by omega)
  have hB4 := below_only hB3 o7 (by omega)
  have s4 := a0 _ g4
  refine hK'.out _ _ (by assumption) ?_; clear hK' K'; try simp only [Act.put, List.setIfInBounds_toArray, List.set_cons_zero, List.set_cons_succ]
  refine wpAnyH_one 4 rfl (by kernel_rfl) (fun K' hK' => ?_)
  refine ite_go rfl ?_
  refine wp_store_blk 22 (.tmp 3) (.tmp 12) rfl (w.heap.size + 1 + 1) 0 16 (bytesV B') rfl rfl b5 row22 (by rw [bytesV_size, hBl.out]) (by rw [bytesV_size]; decide) (bytesV_one _) ?_
  intro w8 d2 o8
  rw [splice_all _ _ (by rw [hBl.out]; rfl)] at d2
  have g5 := g4.only o8 (by omega)
  have d3 := d1.only o8 (by omega)
  have hB5 := below_only hB4 o8 (by omega)
  have s5 := a0 _ g5
  refine hK'.out _ _ (by assumption) ?_; clear hK' K'; try simp only [Act.put, List.setIfInBounds_toArray, List.set_cons_zero, List.set_cons_succ]
  refine wpAnyH_done (by kernel_rfl) ?_ _
  go_wp2
  refine bodyPost_ret (results_blk2 rfl _ _ _ _ (bytesV A) (bytesV B') 22 16 rfl rfl d3 d2 row22 (by rw [bytesV_size, hAl.out]) (by rw [bytesV_size, hBl.out])) rfl ?_
  rw [H1.out, H2.out]
  exact ⟨rfl, hB5⟩

set_option maxRecDepth 100000 in
set_option maxHeartbeats 4000000 in
theorem refsubkeys_any (key : List UInt8) (hk : key.length = 16) (w : World) :
    Calls Try.prog 50 #[.agg (bytesV key)] w fun e w' => e = .returned (.tuple #[.agg (bytesV (sub1 key)), .agg (bytesV (sub2 key))]) ∧ Below w.heap.size w w' := by
  have z1 : ∀ w, (zeroValue 22).run Try.prog w = .ok (.agg (bytesV Z16)) w := (zero_of_info zero22).1
  have u1 := build22
  obtain ⟨E, hE⟩ : ∃ E, E = encR (ksL key 160) Z16 10 := ⟨_, rfl⟩
  have hEl := Lib.hid (show E.length = 16 by rw [hE, encR_length])
  have henc := fun w => refencrypt_any key Z16 hk rfl w
  rw [← hE] at henc
  obtain ⟨A, hA⟩ : ∃ A, A = dblL E := ⟨_, rfl⟩
  obtain ⟨B', hB'⟩ : ∃ B', B' = dblL A := ⟨_, rfl⟩
  have h1 : sub1 key = A := by rw [hA, hE]; rfl
  have h2 : sub2 key = B' := by rw [sub2, h1, hB']
  have hd1 := fun w => refdouble_any E hEl.out w
  rw [← hA] at hd1
  have hAl := Lib.hid (show A.length = 16 by rw [hA, dblL_length])
  have hBl := Lib.hid (show B'.length = 16 by rw [hB', dblL_length])
  have hd2 := fun w => refdouble_any A hAl.out w
  rw [← hB'] at hd2
  have H1 := Lib.hid h1
  have H2 := Lib.hid h2
  clear hE hA hB' h1 h2
  obtain ⟨W, hW⟩ : ∃ W, W = ((w.alloc (.cells (bytesV key) 22)).alloc (.cells (bytesV Z16) 22)).alloc (.cells (bytesV Z16) 22) := ⟨_, rfl⟩
  have b0 : Blk W w.heap.size (bytesV key) 22 := by rw [hW]; exact ((Blk.new' rfl).alloc _).alloc _
  have b1 : Blk W (w.heap.size + 1) (bytesV Z16) 22 := by rw [hW]; exact (Blk.new' (by simp)).alloc _
  have b2 : Blk W (w.heap.size + 1 + 1) (bytesV Z16) 22 := by rw [hW]; exact Blk.new' (by simp)
  have hB : Below w.heap.size w W := by rw [hW]; exact (((Below.refl _ _).alloc (Nat.le_refl _) _).alloc (by simp) _).alloc (by simp; omega) _
  have HW := Lib.hid hW
  clear hW
  go_enter Try.func50, Try.ntmps50
  go_wp2_with (first
    | ((with_reducible refine wpList_load_blk rfl 22 (.tmp 1) rfl w.heap.size 0 16 rfl (HW.out ▸ b0) row22 ?_ (bytesV key) ?_ ?_); (rw [bytesV_size, hk]; exact Nat.le_refl _); (exact bytesV_whole _ _ hk))
    | (go_at_call 41; rw [← HW.out]; (with_reducible refine (henc _).mono ?_); rintro e w3 ⟨rfl, hb1⟩; replace b1 := b1.below hb1 b1.lt; replace b2 := b2.below hb1 b2.lt; replace hB := bnext hB hb1; clear hb1)
    | (go_at_call 73; (with_reducible refine (hd1 _).mono ?_); rintro e w4 ⟨rfl, hb1⟩; replace b1 := b1.below hb1 b1.lt; replace b2 := b2.below hb1 b2.lt; replace hB := bnext hB hb1; clear hb1; have n1 := b1.lt; have n2 := b2.lt)
    | ((with_reducible refine wpList_store_blk rfl 22 (.tmp 4) (.tmp 8) rfl w4.heap.size 0 16 (bytesV A) rfl rfl (C := bytesV Z16) (t := 22) ?_ row22 ?_ ?_ (bytesV_one _) ?_); (exact Blk.new' rfl); (rw [bytesV_size, hAl.out]); (rw [bytesV_size]; decide); intro w5 g1 ho2; rw [splice_all _ _ (by rw [hAl.out]; rfl)] at g1; have hb2 := below_only ((Below.refl w4.heap.size w4).alloc (Nat.le_refl _) (.cells (bytesV Z16) 22)) ho2 (Nat.le_refl _); replace b1 := b1.below hb2 b1.lt; replace b2 := b2.below hb2 b2.lt; replace hB := bnext hB hb2; clear hb2 ho2)
    | fail)
  obtain ⟨Sw, hSw⟩ : ∃ Sw : World → Prop, Sw = fun w' => w'.rangeAt w4.heap.size 0 (bytesV A).toList := ⟨_, rfl⟩
  have hr : ∀ w', Blk w' w4.heap.size (bytesV A) 22 → w'.rangeAt w4.heap.size 0 (bytesV A).toList := fun w' h => by
    have := h.range 0 16
    rwa [bytesV_whole A 16 hAl.out] at this
  have a0 : ∀ w', Blk w' w4.heap.size (bytesV A) 22 → Sw w' := fun w' h => by rw [hSw]; exact hr _ h
  have a1 : ∀ w', Sw w' → w'.rangeAt w4.heap.size 0 (bytesV A).toList := fun w' h => by rw [hSw] at h; exact h
  have r1 : (Try.prog.info? 22).map (·.size) = some (bytesV A).toList.length := by rw [Array.length_toList, bytesV_size, hAl.out]; exact row22.2
  have s0 := a0 _ g1.drew
  clear hSw hr
  refine wp_region_held_drew (S := Sw) (by kernel_rfl) s0 (fun hHeld => ?_)
  clear hHeld
  refine wpAnyH_takeD 0 (some 9) rfl rfl (by kernel_rfl) (by kernel_rfl) (by kernel_rfl) (fun _ _ _ h => h) (yieldsIf_load_mid rfl 22 _ rfl w4.heap.size 0 rfl (bytesV A).toList _ a1 Try.underlying22 rfl r1) (by assumption) ?_
  try simp only [Act.put, List.setIfInBounds_toArray, List.set_cons_zero, List.set_cons_succ]
  refine wpAnyH_takeD 1 (some 10) rfl rfl (by kernel_rfl) (by kernel_rfl) (by kernel_rfl) (fun _ _ _ h => h) (yieldsIf_load_mid rfl 22 _ rfl w4.heap.size 0 rfl (bytesV A).toList _ a1 Try.underlying22 rfl r1) (by assumption) ?_
  try simp only [Act.put, List.setIfInBounds_toArray, List.set_cons_zero, List.set_cons_succ, Array.toArray_toList]
  refine wpAnyH_one 2 rfl (by kernel_rfl) (fun K' hK' => ?_)
  go_simp
  (go_at_call 73; (with_reducible refine (hd2 _).mono ?_); rintro e w6 ⟨rfl, hb6⟩)
  go_wp2
  have g3 := g1.drew.below hb6 g1.lt
  have b3 := b1.drew.below hb6 b1.lt
  have b4 := b2.drew.below hb6 b2.lt
  have hB3 := bnext hB.drew hb6
  have s3 := a0 _ g3
  refine hK'.out _ _ (by assumption) ?_; clear hK' K'; try simp only [Act.put, List.setIfInBounds_toArray, List.set_cons_zero, List.set_cons_succ]
  refine wpAnyH_one 3 rfl (by kernel_rfl) (fun K' hK' => ?_)
  refine ite_go rfl ?_
  refine wp_store_blk 22 (.tmp 2) (.tmp 9) rfl (w.heap.size + 1) 0 16 (bytesV A) rfl rfl b3 row22 (by rw [bytesV_size, hAl.out]) (by rw [bytesV_size]; decide) (bytesV_one _) ?_
  intro w7 d1 o7
  rw [splice_all _ _ (by rw [hAl.out]; rfl)] at d1
  have g4 := g3.only o7 (by omega)
  have b5 := b4.only o7 (by omega)
  have hB4 := below_only hB3 o7 (by omega)
  have s4 := a0 _ g4
  refine hK'.out _ _ (by assumption) ?_; clear hK' K'; try simp only [Act.put, List.setIfInBounds_toArray, List.set_cons_zero, List.set_cons_succ]
  refine wpAnyH_one 4 rfl (by kernel_rfl) (fun K' hK' => ?_)
  refine ite_go rfl ?_
  refine wp_store_blk 22 (.tmp 3) (.tmp 11) rfl (w.heap.size + 1 + 1) 0 16 (bytesV B') rfl rfl b5 row22 (by rw [bytesV_size, hBl.out]) (by rw [bytesV_size]; decide) (bytesV_one _) ?_
  intro w8 d2 o8
  rw [splice_all _ _ (by rw [hBl.out]; rfl)] at d2
  have g5 := g4.only o8 (by omega)
  have d3 := d1.only o8 (by omega)
  have hB5 := below_only hB4 o8 (by omega)
  have s5 := a0 _ g5
  refine hK'.out _ _ (by assumption) ?_; clear hK' K'; try simp only [Act.put, List.setIfInBounds_toArray, List.set_cons_zero, List.set_cons_succ]
  refine wpAnyH_done (by kernel_rfl) ?_ _
  go_wp2
  refine bodyPost_ret (results_blk2 rfl _ _ _ _ (bytesV A) (bytesV B') 22 16 rfl rfl d3 d2 row22 (by rw [bytesV_size, hAl.out]) (by rw [bytesV_size, hBl.out])) rfl ?_
  rw [H1.out, H2.out]
  exact ⟨rfl, hB5⟩

set_option maxRecDepth 100000 in
set_option maxHeartbeats 4000000 in
theorem plus_any (a b : List UInt8) (ha : a.length = 16) (hb : b.length = 16) (w : World) :
    Calls Try.prog 87 #[.agg (bytesV a), .agg (bytesV b)] w fun e w' => e = .returned (.agg (bytesV (xrL a b))) ∧ Below w.heap.size w w' := by
  have z1 : ∀ w, (zeroValue 97).run Try.prog w = .ok (.agg (bytesV Z16)) w := (zero_of_info zero97).1
  obtain ⟨M, hM⟩ : ∃ M, M = xrL a b := ⟨_, rfl⟩
  have hMl := Lib.hid (show M.length = 16 by rw [hM, xrL_length]; omega)
  have hMg : Hid (∀ k, k < 16 → x8 (gd a k) (gd b k) = gd M k) := fun k hk => by
    rw [hM, xrL]
    simp [gd, ha, hb, hk]
  have hix : Hid (∀ (k : Nat) (w : World), k < 16 → (Instr.index 97 (.agg (bytesV b)) (.int .i64 k)).run Try.prog w = .ok (.int .u8 (gd b k).toNat) w) := fun k w hk => by
    exact run_index_agg Try.underlying97 Try.underlying5 (by kernel_rfl) _ _ _ k rfl hk _ (by rw [bytesV_gd _ _ (by omega)]) _
  rw [← hM]
  have HM := Lib.hid hM
  clear hM
  obtain ⟨W, hW⟩ : ∃ W, W = ((w.alloc (.cells (bytesV a) 97)).alloc (.cells (bytesV b) 97)).alloc (.cells (bytesV Z16) 97) := ⟨_, rfl⟩
  have b0 : Blk W w.heap.size (bytesV (M.take 0 ++ a.drop 0)) 97 := by rw [hW]; exact ((Blk.new' rfl).alloc _).alloc _
  have b1 : Blk W (w.heap.size + 1) (bytesV b) 97 := by rw [hW]; exact (Blk.new' (by simp)).alloc _
  have b2 : Blk W (w.heap.size + 1 + 1) (bytesV Z16) 97 := by rw [hW]; exact Blk.new' (by simp)
  have hB : Below w.heap.size w W := by rw [hW]; exact (((Below.refl _ _).alloc (Nat.le_refl _) _).alloc (by simp) _).alloc (by simp; omega) _
  have HW := Lib.hid hW
  clear hW
  have s5 : (Try.prog.info? 5).map (·.size) = some 1 := by kernel_rfl
  go_enter Try.func87, Try.ntmps87
  go_wp2_with (first
    | (rw [← HW.out]; (with_reducible refine wpList_load_blk rfl 97 (.tmp 3) rfl (w.heap.size + 1) 0 16 rfl b1 row97 ?_ (bytesV b) ?_ ?_); (rw [bytesV_size, hb]; exact Nat.le_refl _); (exact bytesV_whole _ _ hb))
    | fail)
  obtain ⟨V, hV⟩ : ∃ V, V = bytesV b := ⟨_, rfl⟩
  rw [← hV] at hix ⊢
  clear hV
  go_loopw [8] (fun t8 wr => ∃ k : Nat, k ≤ 16 ∧ t8 = .int .i64 k ∧ Blk wr w.heap.size (bytesV (M.take k ++ a.drop k)) 97 ∧ Blk wr (w.heap.size + 1 + 1) (bytesV Z16) 97 ∧ Below w.heap.size w wr) (fun t _ => 16 - (intOf t).toNat)
  case atStart => exact ⟨0, by omega, rfl, b0, b2, hB⟩
  case round =>
    clear b0 b1 b2 hB HW z1
    obtain ⟨k, hk, rfl, b0, b2, hB⟩ := hrel
    by_cases hlt : k < 16
    · have hls : (M.take k ++ a.drop k).length = 16 := by simp [hMl.out, ha]; omega
      have c0 := b0.gd k (by omega)
      have hga : gd (M.take k ++ a.drop k) k = gd a k := by
        rw [gd_append_right _ _ _ (by simp [hMl.out]; omega), gd_drop]
        congr 1; simp [hMl.out]; omega
      rw [hga] at c0
      have hf := b0.frozen k
      have hi := hix.out k wr hlt
      have hx8 := bits_x8
      have hset : ∀ x, x = gd M k → (bytesV (M.take k ++ a.drop k)).setIfInBounds k (.int .u8 x.toNat) = bytesV (M.take (k + 1) ++ a.drop (k + 1)) := fun x hx => by
        rw [hx]
        have h2 := bytesV_set (M.take k ++ a.drop k) k (gd M k)
        rw [take_set_succ _ _ _ (by rw [hMl.out]; exact hlt) (by rw [hMl.out, ha]; exact Nat.le_refl _)] at h2
        exact h2
      have HS := Lib.hid hset
      clear hset hga
      go_wp2_with (first
        | ((with_reducible refine wpList_store_int rfl 5 (.tmp 17) (.tmp 16) rfl w.heap.size k .u8 _ rfl rfl b0 s5 ?_ ?_); (rw [bytesV_size, hls]; exact hlt); intro w2 d1 o1; rw [HS.out _ (hMg.out k hlt)] at d1; replace b2 := b2.only o1 (by omega); replace hB := below_only hB o1 (Nat.le_refl _); clear o1 b0)
        | fail)
      first
        | exact ⟨⟨k + 1, by omega, by go_num, d1, b2, hB⟩, by simp [intOf]; omega⟩
        | (refine ⟨?_, by simp [intOf]; omega⟩; (repeat apply Exists.intro); exact ⟨⟨k + 1, by omega, by go_num, d1, b2, hB⟩, rfl⟩)
    · obtain rfl : k = 16 := by omega
      have e1 : M.take 16 ++ a.drop 16 = M := by
        rw [List.take_of_length_le (by rw [hMl.out]; exact Nat.le_refl _), List.drop_eq_nil_of_le (by omega), List.append_nil]
      rw [e1] at b0
      go_wp2_with (first
        | ((with_reducible refine wpList_load_blk rfl 97 (.tmp 2) rfl w.heap.size 0 16 rfl b0 row97 ?_ (bytesV M) ?_ ?_); (rw [bytesV_size, hMl.out]; exact Nat.le_refl _); (exact bytesV_whole _ _ hMl.out))
        | ((with_reducible refine wpList_store_blk rfl 97 (.tmp 4) (.tmp 19) rfl (w.heap.size + 1 + 1) 0 16 (bytesV M) rfl rfl b2 row97 ?_ ?_ (bytesV_one _) ?_); (rw [bytesV_size, hMl.out]); (rw [bytesV_size]; decide); intro w8 hb8 ho8; rw [splice_all _ _ (by rw [hMl.out]; rfl)] at hb8)
        | fail)
      refine bodyPost_ret (results_blk rfl _ _ _ (bytesV M) 97 16 rfl hb8 row97 (by rw [bytesV_size, hMl.out])) rfl ?_
      exact ⟨rfl, below_only hB ho8 (by omega)⟩
end Go.Proofs.Ytdgmahgidmjniaa
