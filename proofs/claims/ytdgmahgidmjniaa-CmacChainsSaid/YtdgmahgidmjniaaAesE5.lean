/-
  AES: a cipher made, a cipher's own.
-/
import Derived.Test.YtdgmahgidmjniaaAesE4
import Derived.Test.YtdgmahgidmjniaaTail
namespace Go.Proofs.Ytdgmahgidmjniaa
open Go.RowKit
attribute [-go_sem] Instr.build

theorem foldl_splice : ∀ (vs : List Value) (off k : Nat) (C : Array Value), (vs.zipIdx k).foldl (fun cs (x : Value × Nat) => cs.setIfInBounds (off + x.2) x.1) C = splice C (off + k) vs
  | [], _, _, _ => rfl
  | v :: vs, off, k, C => by
    rw [List.zipIdx_cons, List.foldl_cons, foldl_splice vs off (k + 1)]
    rfl
theorem fill_one (place : Nat → Option (Nat × Nat)) (i off size : Nat) (hp : place i = some (off, size)) (C : Array Value) (V : Array Value) (hV : V.size = size) (hC : off + size ≤ C.size) (rest : List (Nat × Value)) :
    Instr.fill place C ((i, .agg V) :: rest) = Instr.fill place (splice C off V.toList) rest := by
  subst hV
  rw [Instr.fill, hp]
  have h1 : ¬ ((Value.agg V).cells.size ≠ V.size || off + (Value.agg V).cells.size > C.size) = true := by
    simp [Value.cells]; omega
  simp only []
  rw [if_neg h1]
  congr 1
  have h := foldl_splice V.toList off 0 C
  rw [Nat.add_zero] at h
  rw [← h, ← Array.foldl_toList, Array.toList_zipIdx]
  rfl
def Z688 : List UInt8 := List.replicate 688 0
theorem zero59 : (Try.prog.info? 59).map (fun i => (i.zero, i.size)) = some (some (.agg (bytesV Z688)), 688) := by kernel_rfl
theorem places59 : (match Try.prog.underlying 59 with | some (.struct fields) => fields.toList.mapM (fun f => (Try.prog.info? f.type).map fun i => (f.offset, i.size)) | _ => none) = some [(0, 512), (512, 176)] := by kernel_rfl
theorem build59 (S K : List UInt8) (hS : S.length = 512) (hK : K.length = 176) (w : World) : (Instr.build 59 #[(0, .agg (bytesV S)), (1, .agg (bytesV K))]).run Try.prog w = .ok (.agg (bytesV (S ++ K))) w := by
  apply run_build
  have hp := places59
  have hz := zero59
  unfold Program.built
  cases hi : Try.prog.info? 59 with
  | none => simp [hi] at hz
  | some it =>
    simp only [hi, Option.map_some, Option.some.injEq, Prod.mk.injEq] at hz
    simp only [Try.underlying59] at hp ⊢
    rw [hz.1, hp]
    simp only []
    have hZ : Z688.length = 688 := List.length_replicate
    have e1 : splice (bytesV Z688) 0 (bytesV S).toList = bytesV (S ++ Z688.drop 512) := by
      rw [bytesV_toList, splice_bytes _ _ _ (by rw [hS, hZ]; decide), List.take_zero, List.nil_append, hS]
    have e2 : splice (bytesV (S ++ Z688.drop 512)) 512 (bytesV K).toList = bytesV (S ++ K) := by
      rw [bytesV_toList, splice_bytes _ _ _ (by rw [hK, List.length_append, List.length_drop, hS, hZ]; decide), List.take_append_of_le_length (by omega), List.take_of_length_le (by omega), List.drop_eq_nil_of_le (by rw [List.length_append, List.length_drop, hS, hZ, hK]; decide), List.append_nil]
    rw [show (Value.agg (bytesV Z688)).cells = bytesV Z688 from rfl, fill_one _ 0 0 512 rfl _ _ (by rw [bytesV_size, hS]) (by rw [bytesV_size, hZ]; decide), e1,
      fill_one _ 1 512 176 rfl _ _ (by rw [bytesV_size, hK]) (by rw [bytesV_size, List.length_append, List.length_drop, hS, hZ]; decide), e2]
    rfl

/-- A cipher of round keys K lies at block b. -/
def Cip (w : World) (b : Nat) (K : List UInt8) : Prop := Blk w b (bytesV (cip K)) 59
set_option maxRecDepth 100000 in
set_option maxHeartbeats 4000000 in
theorem new_any (key : List UInt8) (hk : key.length = 16) (w : World) :
    Calls Try.prog 39 #[.agg (bytesV key)] w fun e w' => ∃ b, e = .returned (.pointer (some ⟨b, 0, none⟩)) ∧ Blk w' b (bytesV (cip (ksL key 160))) 59 ∧ Below w.heap.size w w' := by
  have z1 : ∀ w, (zeroValue 55).run Try.prog w = .ok (.agg (bytesV Z512)) w := (zero_of_info zero55).1
  obtain ⟨K, hK⟩ : ∃ K, K = ksL key 160 := ⟨_, rfl⟩
  have hKl := Lib.hid (show K.length = 176 by rw [hK, ksL_length key hk])
  obtain ⟨S, hS⟩ : ∃ S, S = stF 255 := ⟨_, rfl⟩
  have hSl := Lib.hid (show S.length = 512 by rw [hS, stF_length])
  have HS := Lib.hid hS
  have HK := Lib.hid hK
  clear hS hK
  have hbd : ∀ w, (Instr.build 59 #[(0, .agg (bytesV S)), (1, .agg (bytesV K))]).run Try.prog w = .ok (.agg (bytesV (S ++ K))) w := fun w => build59 S K hSl.out hKl.out w
  have b0 : Blk (w.alloc (.cells (bytesV key) 22)) w.heap.size (bytesV key) 22 := Blk.new' rfl
  have hB : Below w.heap.size w (w.alloc (.cells (bytesV key) 22)) := (Below.refl _ _).alloc (Nat.le_refl _) _
  go_enter Try.func39, Try.ntmps39
  go_wp2_with (first
    | (go_at_call 59; refine (subst_any _).mono ?_; rintro e w2 ⟨rfl, hb1⟩; rw [← HS.out]; replace b0 := b0.below hb1 b0.lt; replace hB := bnext hB hb1; have l0 := b0.lt; clear hb1)
    | ((with_reducible refine wpList_store_blk rfl 55 (.tmp 3) (.tmp 4) rfl w2.heap.size 0 512 (bytesV S) rfl rfl (C := bytesV Z512) (t := 55) ?_ row55 ?_ ?_ (bytesV_one _) ?_); (exact Blk.new' rfl); (rw [bytesV_size, hSl.out]); (rw [bytesV_size, Z512, List.length_replicate]; decide); intro w3 b1 ho3; rw [splice_all _ _ (by rw [hSl.out, Z512, List.length_replicate])] at b1; replace b0 := (b0.alloc (.cells (bytesV Z512) 55)).only ho3 (by omega); replace hB := below_only (hB.alloc hB.size (.cells (bytesV Z512) 55)) ho3 hB.size; clear ho3))
  obtain ⟨Sw, hSw⟩ : ∃ Sw : World → Prop, Sw = fun w' => Blk w' w2.heap.size (bytesV S) 55 ∧ Blk w' w.heap.size (bytesV key) 22 ∧ Below w.heap.size w w' := ⟨_, rfl⟩
  have s0 : Sw w3.drew := by rw [hSw]; exact ⟨b1.drew, b0.drew, hB.drew⟩
  have a1 : ∀ w', Sw w' → Blk w' w2.heap.size (bytesV S) 55 := fun w' h => by rw [hSw] at h; exact h.1
  have a2 : ∀ w', Sw w' → Blk w' w.heap.size (bytesV key) 22 := fun w' h => by rw [hSw] at h; exact h.2.1
  have a3 : ∀ w', Sw w' → Below w.heap.size w w' := fun w' h => by rw [hSw] at h; exact h.2.2
  have a4 : ∀ w' w'', Sw w' → Below w'.heap.size w' w'' → Sw w'' := fun w' w'' h hb => by rw [hSw] at h ⊢; exact ⟨h.1.below hb h.1.lt, h.2.1.below hb h.2.1.lt, bnext h.2.2 hb⟩
  clear hSw b0 b1 hB
  refine wp_region_held_drew (S := Sw) (by kernel_rfl) s0 (fun hHeld => ?_)
  refine wpAnyH_take (i := 0) rfl (by kernel_rfl) (by kernel_rfl) (by kernel_rfl) (fun _ _ _ h => h) (yieldsIf_load_blk rfl _ _ rfl w2.heap.size 512 (bytesV S) 55 rfl a1 row55 (by rw [bytesV_size, hSl.out])) (by assumption) ?_
  refine wpAnyH_take (i := 1) rfl (by kernel_rfl) (by kernel_rfl) (by kernel_rfl) (fun _ _ _ h => h) (yieldsIf_load_blk rfl _ _ rfl w2.heap.size 512 (bytesV S) 55 rfl a1 row55 (by rw [bytesV_size, hSl.out])) (by assumption) ?_
  refine wpAnyH_take (i := 2) rfl (by kernel_rfl) (by kernel_rfl) (by kernel_rfl) (fun _ _ _ h => h) (yieldsIf_load_blk rfl _ _ rfl w.heap.size 16 (bytesV key) 22 rfl a2 row22 (by rw [bytesV_size, hk])) (by assumption) ?_
  refine wpAnyH_one 3 rfl (by kernel_rfl) (fun K hK' => ?_)
  go_simp
  (go_at_call 61; rw [HS.out]; refine (schedule_any key hk _).mono ?_; rintro e w4 ⟨rfl, hb1⟩; rw [← HK.out, ← HS.out]; have s4 := a4 _ _ s0 hb1; clear hb1)
  go_wp2
  refine hK'.out _ _ (by assumption) ?_; clear hK' K; try simp only [Act.put, List.setIfInBounds_toArray, List.set_cons_zero, List.set_cons_succ]
  refine wpAnyH_one 4 rfl (by kernel_rfl) (fun K hK' => ?_)
  go_simp
  refine hK'.out _ _ (by assumption) ?_; clear hK' K; try simp only [Act.put, List.setIfInBounds_toArray, List.set_cons_zero, List.set_cons_succ]
  have l4 : Sw (w4.alloc (.cells (bytesV (S ++ K)) 59)) := a4 _ _ s4 ((Below.refl _ _).alloc (Nat.le_refl _) _)
  refine wpAnyH_one 5 rfl (by kernel_rfl) (fun K hK' => ?_)
  go_simp
  refine hK'.out _ _ (by assumption) ?_; clear hK' K; try simp only [Act.put, List.setIfInBounds_toArray, List.set_cons_zero, List.set_cons_succ]
  refine wpAnyH_one 6 rfl (by kernel_rfl) (fun K hK' => ?_)
  go_simp
  refine hK'.out _ _ (by assumption) ?_; clear hK' K; try simp only [Act.put, List.setIfInBounds_toArray, List.set_cons_zero, List.set_cons_succ]
  refine wpAnyH_done (by kernel_rfl) ?_ _
  go_wp2
  go_ret
  refine ⟨_, rfl, ?_, a3 _ l4⟩
  rw [cip, ← HS.out, ← HK.out]
  exact Blk.new' rfl
end Go.Proofs.Ytdgmahgidmjniaa
