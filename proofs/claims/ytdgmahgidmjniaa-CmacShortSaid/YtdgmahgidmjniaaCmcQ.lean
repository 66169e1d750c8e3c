/-
  Message authentication codes: the statement CmacShort.
-/
import Derived.Test.YtdgmahgidmjniaaCmcP
namespace Go.Proofs.Ytdgmahgidmjniaa
open Go.RowKit
attribute [-go_sem] Instr.build

set_option maxRecDepth 100000 in
set_option maxHeartbeats 8000000 in
theorem cmacshort_ok (key : List UInt8) (hk : key.length = 16) (v : Value) (l : List UInt8) (u : Value) (m : List UInt8) (w : World) (hv : Bsl w v l) (hu : Bsl w u m) (hll : l.length ≤ 16) (hmm : m.length ≤ 16) (hw : (l.length = 16 ∧ m.length = 16) ∨ (l.length < 16 ∧ m.length < 16)) :
    Calls Try.prog 21 #[.agg (bytesV key), v, u] w fun e w' => e = .returned (.bool true) ∧ Below w.heap.size w w' := by
  have z2 : ∀ w, (zeroValue 22).run Try.prog w = .ok (.agg (bytesV Z16)) w := (zero_of_info zero22).1
  have hsa := fun v w h => cmacsum_ok key hk v l w h (by omega)
  have hsb := fun v w h => cmacsum_ok key hk v m w h (by omega)
  have hlCA := Lib.hid (cmacL_length key l)
  have hlCB := Lib.hid (cmacL_length key m)
  have hin := cmac_short key l m hll hmm (by omega)
  obtain ⟨CA, hCA⟩ : ∃ CM, CM = cmacL key l := ⟨_, rfl⟩
  obtain ⟨CB, hCB⟩ : ∃ CM, CM = cmacL key m := ⟨_, rfl⟩
  rw [← hCA] at hsa hlCA hin
  rw [← hCB] at hsb hlCB hin
  clear hCA hCB
  obtain ⟨D, hD⟩ : ∃ D, D = decide (l = m) := ⟨_, rfl⟩
  have hDc : decide (CA = CB) = D := by rw [hD]; exact decide_eq_decide.2 hin
  have hDl := Lib.hid hD.symm
  have hDD : (D == D) = true := by cases D <;> rfl
  have e1 : ∀ w, (binOp .eql 22 (.agg (bytesV CA)) (.agg (bytesV CB))).run Try.prog w = .ok (.bool D) w := fun w => by rw [run_eql22 _ _ hlCA.out hlCB.out, hDc]
  clear hD hin hDc
  replace hDl : decide (l = m) = D := hDl.out
  have hg := guard22'
  obtain ⟨ad, ca, rfl, q1, q2, q3, q4⟩ := hv
  have hv : Bsl w (.slice ad l.length ca) l := ⟨ad, ca, rfl, q1, q2, q3, q4⟩
  clear q1 q2 q3 q4
  obtain ⟨bd, cb, rfl, q1, q2, q3, q4⟩ := hu
  have hu : Bsl w (.slice bd m.length cb) m := ⟨bd, cb, rfl, q1, q2, q3, q4⟩
  clear q1 q2 q3 q4
  have b0 : Blk (w.alloc (.cells (bytesV key) 22)) w.heap.size (bytesV key) 22 := Blk.new' rfl
  have hB : Below w.heap.size w (w.alloc (.cells (bytesV key) 22)) := (Below.refl _ _).alloc (Nat.le_refl _) _
  have hv' := hv.below hB
  have hu' := hu.below hB
  clear hv hu
  obtain ⟨p1, p2, p3⟩ : (l.length : Int) ≤ 16 ∧ (m.length : Int) ≤ 16 ∧ (((l.length : Int) == 16) = ((m.length : Int) == 16)) := by
    refine ⟨by omega, by omega, ?_⟩
    rcases hw with ⟨h1, h2⟩ | ⟨h1, h2⟩
    · rw [h1, h2]
    · rw [beq_eq_false_iff_ne.2 (by omega), beq_eq_false_iff_ne.2 (by omega)]
  replace hDl := Lib.hid hDl
  obtain ⟨q, hq1, hq2⟩ : ∃ q, ((l.length : Int) == 16) = q ∧ ((m.length : Int) == 16) = q := ⟨_, rfl, p3.symm⟩
  have hqq : (q != q) = false := by cases q <;> rfl
  clear p3
  go_enter Try.func21, Try.ntmps21
  go_wp2_with (first
    | ((with_reducible refine wpList_load_blk rfl 22 (.tmp 3) rfl w.heap.size 0 16 rfl b0 row22 ?_ (bytesV key) ?_ ?_); (rw [bytesV_size, hk]; exact Nat.le_refl _); (exact bytesV_whole _ _ hk))
    | (go_at_call 52; (with_reducible refine (hsa _ _ hv').mono ?_); rintro e w1 ⟨rfl, hb2⟩; replace b0 := b0.below hb2 b0.lt; replace hv' := hv'.below hb2; replace hu' := hu'.below hb2; replace hB := bnext hB hb2; clear hb2)
    | (go_at_call 52; (with_reducible refine (hsb _ _ hu').mono ?_); rintro e w3 ⟨rfl, hb2⟩; replace b0 := b0.below hb2 b0.lt; replace hv' := hv'.below hb2; replace hu' := hu'.below hb2; replace gCA := gCA.below hb2 gCA.lt; replace hB := bnext hB hb2; clear hb2)
    | ((with_reducible refine wpList_store_blk rfl 22 (.tmp 7) (.tmp 33) rfl w1.heap.size 0 16 (bytesV CA) rfl rfl (C := bytesV Z16) (t := 22) ?_ row22 ?_ ?_ (bytesV_one _) ?_); (exact Blk.new' rfl); (rw [bytesV_size, hlCA.out]); (rw [bytesV_size]; decide); intro w2 gCA ho2; rw [splice_all _ _ (by rw [hlCA.out]; rfl)] at gCA; have hb2 := below_only ((Below.refl w1.heap.size w1).alloc (Nat.le_refl _) (.cells (bytesV Z16) 22)) ho2 (Nat.le_refl _); replace b0 := b0.below hb2 b0.lt; replace hv' := hv'.below hb2; replace hu' := hu'.below hb2; replace hB := bnext hB hb2; clear hb2 ho2)
    | ((with_reducible refine wpList_store_blk rfl 22 (.tmp 9) (.tmp 39) rfl w3.heap.size 0 16 (bytesV CB) rfl rfl (C := bytesV Z16) (t := 22) ?_ row22 ?_ ?_ (bytesV_one _) ?_); (exact Blk.new' rfl); (rw [bytesV_size, hlCB.out]); (rw [bytesV_size]; decide); intro w4 gCB ho2; rw [splice_all _ _ (by rw [hlCB.out]; rfl)] at gCB; have hb2 := below_only ((Below.refl w3.heap.size w3).alloc (Nat.le_refl _) (.cells (bytesV Z16) 22)) ho2 (Nat.le_refl _); replace b0 := b0.below hb2 b0.lt; replace hv' := hv'.below hb2; replace hu' := hu'.below hb2; replace gCA := gCA.below hb2 gCA.lt; replace hB := bnext hB hb2; clear hb2 ho2)
    | fail)
  obtain ⟨Sw, hSw⟩ : ∃ Sw : World → Prop, Sw = fun w' => Blk w' w1.heap.size (bytesV CA) 22 ∧ Blk w' w3.heap.size (bytesV CB) 22 ∧ Bsl w' (.slice ad l.length ca) l ∧ Bsl w' (.slice bd m.length cb) m ∧ Below w.heap.size w w' := ⟨_, rfl⟩
  have s0 : Sw w4.drew := by rw [hSw]; exact ⟨gCA.drew, gCB.drew, hv'.below (Below.refl _ w4).drew, hu'.below (Below.refl _ w4).drew, hB.drew⟩
  have hr : ∀ (w' : World) (g : Nat) (L : List UInt8), L.length = 16 → Blk w' g (bytesV L) 22 → w'.rangeAt g 0 (bytesV L).toList := fun w' g L hL h => by
    have := h.range 0 16
    rwa [bytesV_whole L 16 hL] at this
  have a1 : ∀ w', Sw w' → w'.rangeAt w1.heap.size 0 (bytesV CA).toList := fun w' h => by rw [hSw] at h; exact hr _ _ _ hlCA.out h.1
  have a2 : ∀ w', Sw w' → w'.rangeAt w3.heap.size 0 (bytesV CB).toList := fun w' h => by rw [hSw] at h; exact hr _ _ _ hlCB.out h.2.1
  have a3 : ∀ w', Sw w' → Bsl w' (.slice ad l.length ca) l := fun w' h => by rw [hSw] at h; exact h.2.2.1
  have a4 : ∀ w', Sw w' → Bsl w' (.slice bd m.length cb) m := fun w' h => by rw [hSw] at h; exact h.2.2.2.1
  have a5 : ∀ w', Sw w' → Below w.heap.size w w' := fun w' h => by rw [hSw] at h; exact h.2.2.2.2
  have a7 : ∀ w' w'', Sw w' → Below w'.heap.size w' w'' → Sw w'' := fun w' w'' h k => by
    rw [hSw] at h ⊢
    exact ⟨h.1.below k h.1.lt, h.2.1.below k h.2.1.lt, h.2.2.1.below k, h.2.2.2.1.below k, bnext h.2.2.2.2 k⟩
  have r1 : (Try.prog.info? 22).map (·.size) = some (bytesV CA).toList.length := by rw [Array.length_toList, bytesV_size, hlCA.out]; exact row22.2
  have r2 : (Try.prog.info? 22).map (·.size) = some (bytesV CB).toList.length := by rw [Array.length_toList, bytesV_size, hlCB.out]; exact row22.2
  clear hr hSw b0 gCA gCB hv' hu' hB hsa hsb
  replace hDl := hDl.out
  refine wp_region_held_drew (S := Sw) (by kernel_rfl) s0 (fun hHeld => ?_)
  clear hHeld
  refine wpAnyH_one 0 rfl (by kernel_rfl) (fun K' hK' => ?_)
  go_simp
  refine hK'.out _ _ (by assumption) ?_; clear hK' K'; try simp only [Act.put, List.setIfInBounds_toArray, List.set_cons_zero, List.set_cons_succ, Array.toArray_toList]
  refine wpAnyH_one 1 rfl (by kernel_rfl) (fun K' hK' => ?_)
  go_simp
  refine hK'.out _ _ (by assumption) ?_; clear hK' K'; try simp only [Act.put, List.setIfInBounds_toArray, List.set_cons_zero, List.set_cons_succ, Array.toArray_toList]
  refine wpAnyH_one 2 rfl (by kernel_rfl) (fun K' hK' => ?_)
  go_simp
  refine hK'.out _ _ (by assumption) ?_; clear hK' K'; try simp only [Act.put, List.setIfInBounds_toArray, List.set_cons_zero, List.set_cons_succ, Array.toArray_toList]
  refine wpAnyH_one 3 rfl (by kernel_rfl) (fun K' hK' => ?_)
  go_simp
  refine hK'.out _ _ (by assumption) ?_; clear hK' K'; try simp only [Act.put, List.setIfInBounds_toArray, List.set_cons_zero, List.set_cons_succ, Array.toArray_toList]
  refine wpAnyH_one 4 rfl (by kernel_rfl) (fun K' hK' => ?_)
  go_simp
  refine hK'.out _ _ (by assumption) ?_; clear hK' K'; try simp only [Act.put, List.setIfInBounds_toArray, List.set_cons_zero, List.set_cons_succ, Array.toArray_toList]
  refine wpAnyH_one 5 rfl (by kernel_rfl) (fun K' hK' => ?_)
  go_simp
  refine hK'.out _ _ (by assumption) ?_; clear hK' K'; try simp only [Act.put, List.setIfInBounds_toArray, List.set_cons_zero, List.set_cons_succ, Array.toArray_toList]
  refine wpAnyH_one 6 rfl (by kernel_rfl) (fun K' hK' => ?_)
  go_simp
  refine hK'.out _ _ (by assumption) ?_; clear hK' K'; try simp only [Act.put, List.setIfInBounds_toArray, List.set_cons_zero, List.set_cons_succ, Array.toArray_toList]
  refine wpAnyH_takeD 7 (some 48) rfl rfl (by kernel_rfl) (by kernel_rfl) (by kernel_rfl) (fun _ _ _ h => h) (yieldsIf_load_mid rfl 22 _ rfl w1.heap.size 0 rfl (bytesV CA).toList _ a1 Try.underlying22 rfl r1) (by assumption) ?_
  try simp only [Act.put, List.setIfInBounds_toArray, List.set_cons_zero, List.set_cons_succ, Array.toArray_toList]
  refine wpAnyH_takeD 8 (some 49) rfl rfl (by kernel_rfl) (by kernel_rfl) (by kernel_rfl) (fun _ _ _ h => h) (yieldsIf_load_mid rfl 22 _ rfl w3.heap.size 0 rfl (bytesV CB).toList _ a2 Try.underlying22 rfl r2) (by assumption) ?_
  try simp only [Act.put, List.setIfInBounds_toArray, List.set_cons_zero, List.set_cons_succ, Array.toArray_toList]
  refine wpAnyH_takeD 9 (some 50) rfl rfl (by kernel_rfl) (by kernel_rfl) (by kernel_rfl) (fun _ _ _ h => h) (yieldsIf_calc (v := .bool D) rfl (fun w => by unfold execOp; go_simp)) (by assumption) ?_
  try simp only [Act.put, List.setIfInBounds_toArray, List.set_cons_zero, List.set_cons_succ, Array.toArray_toList]
  refine wpAnyH_takeD 10 (some 51) rfl rfl (by kernel_rfl) (by kernel_rfl) (by kernel_rfl) (fun _ _ _ h => h) (yieldsIf_move rfl _ rfl (.slice ad l.length ca) rfl) (by assumption) ?_
  try simp only [Act.put, List.setIfInBounds_toArray, List.set_cons_zero, List.set_cons_succ, Array.toArray_toList]
  refine wpAnyH_takeD 11 (some 52) rfl rfl (by kernel_rfl) (by kernel_rfl) (by kernel_rfl) (fun _ _ _ h => h) (yieldsIf_move rfl _ rfl (.slice bd m.length cb) rfl) (by assumption) ?_
  try simp only [Act.put, List.setIfInBounds_toArray, List.set_cons_zero, List.set_cons_succ, Array.toArray_toList]
  refine wpAnyH_one 12 rfl (by kernel_rfl) (fun K' hK' => ?_)
  go_simp
  (go_at_call 44; (with_reducible refine (bsame_any l m _ _ _ (a3 _ s0) (a4 _ s0) ?_).mono ?_); (omega); rintro e w6 ⟨rfl, hb6⟩; rw [hDl]; have s2 := a7 _ _ s0 hb6; clear hb6)
  go_wp2
  refine hK'.out _ _ (by assumption) ?_; clear hK' K'; try simp only [Act.put, List.setIfInBounds_toArray, List.set_cons_zero, List.set_cons_succ, Array.toArray_toList]
  refine wpAnyH_one 13 rfl (by kernel_rfl) (fun K' hK' => ?_)
  go_simp
  refine hK'.out _ _ (by assumption) ?_; clear hK' K'; try simp only [Act.put, List.setIfInBounds_toArray, List.set_cons_zero, List.set_cons_succ, Array.toArray_toList]
  refine wpAnyH_one 14 rfl (by kernel_rfl) (fun K' hK' => ?_)
  go_simp
  refine hK'.out _ _ (by assumption) ?_; clear hK' K'; try simp only [Act.put, List.setIfInBounds_toArray, List.set_cons_zero, List.set_cons_succ, Array.toArray_toList]
  refine wpAnyH_one 15 rfl (by kernel_rfl) (fun K' hK' => ?_)
  go_simp
  refine hK'.out _ _ (by assumption) ?_; clear hK' K'; try simp only [Act.put, List.setIfInBounds_toArray, List.set_cons_zero, List.set_cons_succ, Array.toArray_toList]
  refine wpAnyH_one 16 rfl (by kernel_rfl) (fun K' hK' => ?_)
  go_simp
  (go_at_call 51; refine (known41 _).mono ?_; rintro e w7 ⟨rfl, hb7⟩; have s3 := a7 _ _ s2 hb7; clear hb7)
  go_wp2
  refine hK'.out _ _ (by assumption) ?_; clear hK' K'; try simp only [Act.put, List.setIfInBounds_toArray, List.set_cons_zero, List.set_cons_succ, Array.toArray_toList]
  refine wpAnyH_one 17 rfl (by kernel_rfl) (fun K' hK' => ?_)
  go_simp
  refine hK'.out _ _ (by assumption) ?_; clear hK' K'; try simp only [Act.put, List.setIfInBounds_toArray, List.set_cons_zero, List.set_cons_succ, Array.toArray_toList]
  refine wpAnyH_one 18 rfl (by kernel_rfl) (fun K' hK' => ?_)
  go_simp
  refine hK'.out _ _ (by assumption) ?_; clear hK' K'; try simp only [Act.put, List.setIfInBounds_toArray, List.set_cons_zero, List.set_cons_succ, Array.toArray_toList]
  refine wpAnyH_done (by kernel_rfl) ?_ _
  go_wp2
  go_ret
  exact ⟨rfl, a5 _ s3⟩
theorem cmacshort_out (key : List UInt8) (ad bd : Option Addr) (x y ca cb : Nat) (h : 16 < x ∨ (x ≤ 16 ∧ 16 < y) ∨ (x = 16 ∧ y < 16) ∨ (x < 16 ∧ y = 16)) (w : World) :
    Calls Try.prog 21 #[.agg (bytesV key), .slice ad x ca, .slice bd y cb] w fun e w' => e = .returned (.bool true) ∧ Below w.heap.size w w' := by
  have hB : Below w.heap.size w (w.alloc (.cells (bytesV key) 22)) := (Below.refl _ _).alloc (Nat.le_refl _) _
  rcases h with h1 | ⟨h1, h2⟩ | ⟨rfl, h2⟩ | ⟨h1, rfl⟩
  · have p1 : (16 : Int) < x := by omega
    go_enter Try.func21, Try.ntmps21
    go_wp2_with (first
      | (go_at_call 51; refine (known41 _).mono ?_; rintro e w4 ⟨rfl, hb4⟩; replace hB := bnext hB hb4; clear hb4)
      | fail)
    go_ret
    exact ⟨rfl, hB⟩
  · have p1 : (x : Int) ≤ 16 := by omega
    have p2 : (16 : Int) < y := by omega
    go_enter Try.func21, Try.ntmps21
    go_wp2_with (first
      | (go_at_call 51; refine (known41 _).mono ?_; rintro e w4 ⟨rfl, hb4⟩; replace hB := bnext hB hb4; clear hb4)
      | fail)
    go_ret
    exact ⟨rfl, hB⟩
  · have p1 : (y : Int) ≤ 16 := by omega
    have p2 : ((y : Int) == 16) = false := beq_eq_false_iff_ne.2 (by omega)
    go_enter Try.func21, Try.ntmps21
    go_wp2_with (first
      | (go_at_call 51; refine (known41 _).mono ?_; rintro e w4 ⟨rfl, hb4⟩; replace hB := bnext hB hb4; clear hb4)
      | fail)
    go_ret
    exact ⟨rfl, hB⟩
  · have p1 : (x : Int) ≤ 16 := by omega
    have p2 : ((x : Int) == 16) = false := beq_eq_false_iff_ne.2 (by omega)
    go_enter Try.func21, Try.ntmps21
    go_wp2_with (first
      | (go_at_call 51; refine (known41 _).mono ?_; rintro e w4 ⟨rfl, hb4⟩; replace hB := bnext hB hb4; clear hb4)
      | fail)
    go_ret
    exact ⟨rfl, hB⟩
theorem walk_CmacShort (key : List UInt8) (hk : key.length = 16) (v : Value) (l : List UInt8) (u : Value) (m : List UInt8) (w : World) (hv : Bsl w v l) (hu : Bsl w u m) :
    Calls Try.prog 21 #[.agg (bytesV key), v, u] w fun e w' => e = .returned (.bool true) ∧ Below w.heap.size w w' := by
  by_cases h : (l.length = 16 ∧ m.length = 16) ∨ (l.length < 16 ∧ m.length < 16)
  · exact cmacshort_ok key hk v l u m w hv hu (by omega) (by omega) h
  · obtain ⟨ad, ca, rfl, _⟩ := hv
    obtain ⟨bd, cb, rfl, _⟩ := hu
    exact cmacshort_out key ad bd l.length m.length ca cb (by omega) w
end Go.Proofs.Ytdgmahgidmjniaa
