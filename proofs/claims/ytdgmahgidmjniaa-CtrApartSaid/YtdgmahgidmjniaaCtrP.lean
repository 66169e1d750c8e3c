/-
  Counter mode: the statement CtrApart.
-/
import Derived.Test.YtdgmahgidmjniaaCtrO
import Derived.Test.YtdgmahgidmjniaaLawA
import Derived.Deep.DeepCutAuto
namespace Go.Proofs.Ytdgmahgidmjniaa
open Go.RowKit
attribute [-go_sem] Instr.build

/-! ### Plain: counter blocks are different, and so are the blocks of the stream -/
theorem half_val (v : Nat) (hv : v < 2 ^ 64) (u : Nat) (hu : u < 2 ^ 64) (h : half v = half u) : v = u := by
  have e : ∀ i, i < 8 → v / 2 ^ (56 - 8 * i) % 256 = u / 2 ^ (56 - 8 * i) % 256 := fun i hi => by
    have h1 : gd (half v) i = gd (half u) i := by rw [h]
    rw [half, half, gd_map_range _ _ _ hi, gd_map_range _ _ _ hi, be8, be8] at h1
    have h2 := congrArg UInt8.toNat h1
    rwa [UInt8.toNat_ofNat', UInt8.toNat_ofNat'] at h2
  have e0 := e 0 (by omega); have e1 := e 1 (by omega); have e2 := e 2 (by omega); have e3 := e 3 (by omega)
  have e4 := e 4 (by omega); have e5 := e 5 (by omega); have e6 := e 6 (by omega); have e7 := e 7 (by omega)
  simp only [Nat.reduceMul, Nat.reduceSub, Nat.reducePow] at e0 e1 e2 e3 e4 e5 e6 e7
  omega
theorem cblk_inj (c b d i c' b' d' j : Nat) (hc : c < 2 ^ 32) (hb : b ≤ 31) (hd : d ≤ 1) (hi : i < 2 ^ 64) (hc' : c' < 2 ^ 32) (hb' : b' ≤ 31) (hd' : d' ≤ 1) (hj : j < 2 ^ 64) :
    cblk c b d i = cblk c' b' d' j ↔ (c = c' ∧ b = b' ∧ d = d' ∧ i = j) := by
  constructor
  · intro h
    unfold cblk at h
    have hl : (half (pre c b d)).length = (half (pre c' b' d')).length := by rw [len_half, len_half]
    obtain ⟨h1, h2⟩ := List.append_inj h hl
    have e1 := half_val _ (by unfold pre; omega) _ (by unfold pre; omega) h1
    have e2 := half_val _ hi _ hj h2
    unfold pre at e1
    omega
  · rintro ⟨rfl, rfl, rfl, rfl⟩; rfl
theorem ksU_drop (key : List UInt8) (c b d i : Nat) : (ksU key c b d (16 * i + 16)).drop (16 * i) = encR (ksL key 160) (cblk c b d i) 10 := by
  apply ext_gd (by rw [List.length_drop, ksU_length, encR_length]; omega)
  intro k hk
  have hk16 : k < 16 := by rw [List.length_drop, ksU_length] at hk; omega
  rw [gd_drop, ksU, gd_map_range _ _ _ (by omega), ksB_at _ _ _ _ _ _ hk16]
theorem encR_inj (K a b : List UInt8) (ha : a.length = 16) (hb : b.length = 16) : encR K a 10 = encR K b 10 ↔ a = b := encF_inj K a b ha hb

/-! ### A counter block, whatever the parameters -/
theorem block_some (c b d : Int) (i : Nat) (wc : 0 ≤ c ∧ c < 2 ^ 32) (w : World) :
    Calls Try.prog 27 #[.int .u32 c, .int .i64 b, .int .i64 d, .int .u64 i] w fun e w' => (∃ A x, A.length = 16 ∧ e = .returned (.tuple #[.agg (bytesV A), .int .i64 x])) ∧ Below w.heap.size w w' := by
  rcases cases_par b d with ⟨b', d', rfl, rfl, hb, hd⟩ | hbad
  · obtain ⟨c, rfl⟩ := Int.eq_ofNat_of_zero_le wc.1
    exact (block_ok c b' d' i (by omega) hb hd w).mono fun e w' h => ⟨⟨_, _, cblk_length _ _ _ _, h.1⟩, h.2⟩
  · exact (block_err c b d i hbad w).mono fun e w' h => ⟨⟨_, _, rfl, h.1⟩, h.2⟩
set_option maxRecDepth 100000 in
set_option maxHeartbeats 4000000 in
theorem apart_big (C D : Array Value) (i j : Nat) (hi : i < 2 ^ 64) (hj : j < 2 ^ 64) (h : 9 < i ∨ 9 < j) (w : World) :
    Calls Try.prog 17 #[.agg C, .agg D, .int .u64 i, .int .u64 j] w fun e w' => e = .returned (.bool true) ∧ Below w.heap.size w w' := by
  have hB : Below w.heap.size w ((w.alloc (.cells C 26)).alloc (.cells D 26)) := ((Below.refl _ _).alloc (Nat.le_refl _) _).alloc (by simp) _
  by_cases h1 : 9 < i
  · have h1' : (9 : Int) < i := by omega
    clear h hi hj
    go_enter Try.func17, Try.ntmps17
    go_wp2_with (first
      | (go_at_call 29; refine (known40 _).mono ?_; rintro e w4 ⟨rfl, hb4⟩; replace hB := bnext hB hb4; clear hb4)
      | fail)
    go_ret
    exact ⟨rfl, hB⟩
  · have h1' : ¬ (9 : Int) < i := by omega
    have h2' : (9 : Int) < j := by omega
    clear h hi hj
    go_enter Try.func17, Try.ntmps17
    go_wp2_with (first
      | (go_at_call 29; refine (known40 _).mono ?_; rintro e w4 ⟨rfl, hb4⟩; replace hB := bnext hB hb4; clear hb4)
      | fail)
    go_ret
    exact ⟨rfl, hB⟩
set_option maxRecDepth 100000 in
set_option maxHeartbeats 4000000 in
theorem apart_err1 (key key' : List UInt8) (hk : key.length = 16) (hk' : key'.length = 16) (c b d c' b' d' : Int) (wc' : 0 ≤ c' ∧ c' < 2 ^ 32) (i j : Nat) (hi : i ≤ 9) (hj : j ≤ 9) (hbad : b < 0 ∨ 31 < b ∨ (d ≠ 0 ∧ d ≠ 1)) (w : World) :
    Calls Try.prog 17 #[.agg (parV key c b d), .agg (parV key' c' b' d'), .int .u64 i, .int .u64 j] w fun e w' => e = .returned (.bool true) ∧ Below w.heap.size w w' := by
  obtain ⟨C, hC⟩ : ∃ C, C = parV key c b d := ⟨_, rfl⟩
  obtain ⟨D, hD⟩ : ∃ D, D = parV key' c' b' d' := ⟨_, rfl⟩
  have a0 : PBox ((w.alloc (.cells C 26)).alloc (.cells D 26)) w.heap.size key c b d := ⟨by rw [hC]; exact (Blk.new' rfl).alloc _, hk⟩
  have a1 : PBox ((w.alloc (.cells C 26)).alloc (.cells D 26)) (w.heap.size + 1) key' c' b' d' := ⟨by rw [hD]; exact Blk.new' (by simp), hk'⟩
  have hB : Below w.heap.size w ((w.alloc (.cells C 26)).alloc (.cells D 26)) := ((Below.refl _ _).alloc (Nat.le_refl _) _).alloc (by simp) _
  rw [← hC, ← hD]
  clear hC hD
  have z1 : ∀ w, (zeroValue 22).run Try.prog w = .ok (.agg (bytesV Z16)) w := (zero_of_info zero22).1
  obtain ⟨q0, q1, q2⟩ := a0.cells
  obtain ⟨p0, p1, p2⟩ := a1.cells
  have hi' : (i : Int) ≤ 9 := by omega
  have hj' : (j : Int) ≤ 9 := by omega
  go_enter Try.func17, Try.ntmps17
  go_wp2_with (first
    | (go_at_call 27; (with_reducible refine (block_err c b d i hbad _).mono ?_); rintro e w1 ⟨rfl, hb1⟩; replace a1 := a1.below hb1; replace hB := bnext hB hb1; clear q0 q1 q2 p0 p1 p2 a0 hb1)
    | ((with_reducible refine wpList_store_blk rfl 22 (.tmp 9) (.tmp 35) rfl w1.heap.size 0 16 (bytesV Z16) rfl rfl (C := bytesV Z16) (t := 22) ?_ row22 ?_ ?_ (bytesV_one _) ?_); (exact Blk.new' rfl); (rfl); (rw [bytesV_size]; decide); intro w2 g1 ho2; clear g1; have hb2 := below_only ((Below.refl w1.heap.size w1).alloc (Nat.le_refl _) (.cells (bytesV Z16) 22)) ho2 (Nat.le_refl _); replace hB := bnext hB hb2; replace a1 := a1.below hb2; clear hb2 ho2; obtain ⟨p0, p1, p2⟩ := a1.cells)
    | (go_at_call 27; (with_reducible refine (block_some c' b' d' j wc' _).mono ?_); rintro e w3 ⟨⟨A, x, hA, rfl⟩, hb3⟩; replace hA := Lib.hid hA; replace hB := bnext hB hb3; clear hb3 p0 p1 p2)
    | ((with_reducible refine wpList_store_blk rfl 22 (.tmp 11) (.tmp 46) rfl w3.heap.size 0 16 (bytesV A) rfl rfl (C := bytesV Z16) (t := 22) ?_ row22 ?_ ?_ (bytesV_one _) ?_); (exact Blk.new' rfl); (rw [bytesV_size, hA.out]); (rw [bytesV_size]; decide); intro w4 g1 ho2; clear g1; have hb2 := below_only ((Below.refl w3.heap.size w3).alloc (Nat.le_refl _) (.cells (bytesV Z16) 22)) ho2 (Nat.le_refl _); replace hB := bnext hB hb2; clear hb2 ho2)
    | (go_at_call 29; refine (known40 _).mono ?_; rintro e w6 ⟨rfl, hb4⟩; replace hB := bnext hB hb4; clear hb4)
    | fail)
  go_ret
  exact ⟨rfl, hB⟩
set_option maxRecDepth 100000 in
set_option maxHeartbeats 4000000 in
theorem apart_err2 (key key' : List UInt8) (hk : key.length = 16) (hk' : key'.length = 16) (c b d : Nat) (c' b' d' : Int) (hc : c < 2 ^ 32) (hb : b ≤ 31) (hd : d ≤ 1) (i j : Nat) (hi : i ≤ 9) (hj : j ≤ 9) (hbad : b' < 0 ∨ 31 < b' ∨ (d' ≠ 0 ∧ d' ≠ 1)) (w : World) :
    Calls Try.prog 17 #[.agg (parV key c b d), .agg (parV key' c' b' d'), .int .u64 i, .int .u64 j] w fun e w' => e = .returned (.bool true) ∧ Below w.heap.size w w' := by
  obtain ⟨C, hC⟩ : ∃ C, C = parV key c b d := ⟨_, rfl⟩
  obtain ⟨D, hD⟩ : ∃ D, D = parV key' c' b' d' := ⟨_, rfl⟩
  have a0 : PBox ((w.alloc (.cells C 26)).alloc (.cells D 26)) w.heap.size key c b d := ⟨by rw [hC]; exact (Blk.new' rfl).alloc _, hk⟩
  have a1 : PBox ((w.alloc (.cells C 26)).alloc (.cells D 26)) (w.heap.size + 1) key' c' b' d' := ⟨by rw [hD]; exact Blk.new' (by simp), hk'⟩
  have hB : Below w.heap.size w ((w.alloc (.cells C 26)).alloc (.cells D 26)) := ((Below.refl _ _).alloc (Nat.le_refl _) _).alloc (by simp) _
  rw [← hC, ← hD]
  clear hC hD
  have z1 : ∀ w, (zeroValue 22).run Try.prog w = .ok (.agg (bytesV Z16)) w := (zero_of_info zero22).1
  obtain ⟨q0, q1, q2⟩ := a0.cells
  obtain ⟨p0, p1, p2⟩ := a1.cells
  have hi' : (i : Int) ≤ 9 := by omega
  have hj' : (j : Int) ≤ 9 := by omega
  have hbl := fun w => block_ok c b d i hc hb hd w
  obtain ⟨T, hT⟩ : ∃ T, T = cblk c b d i := ⟨_, rfl⟩
  have hTl := Lib.hid (show T.length = 16 by rw [hT, cblk_length])
  rw [← hT] at hbl
  clear hT
  go_enter Try.func17, Try.ntmps17
  go_wp2_with (first
    | (go_at_call 27; (with_reducible refine (hbl _).mono ?_); rintro e w1 ⟨rfl, hb1⟩; replace a1 := a1.below hb1; replace hB := bnext hB hb1; clear q0 q1 q2 p0 p1 p2 a0 hb1)
    | ((with_reducible refine wpList_store_blk rfl 22 (.tmp 9) (.tmp 35) rfl w1.heap.size 0 16 (bytesV T) rfl rfl (C := bytesV Z16) (t := 22) ?_ row22 ?_ ?_ (bytesV_one _) ?_); (exact Blk.new' rfl); (rw [bytesV_size, hTl.out]); (rw [bytesV_size]; decide); intro w2 g1 ho2; clear g1; have hb2 := below_only ((Below.refl w1.heap.size w1).alloc (Nat.le_refl _) (.cells (bytesV Z16) 22)) ho2 (Nat.le_refl _); replace hB := bnext hB hb2; replace a1 := a1.below hb2; clear hb2 ho2; obtain ⟨p0, p1, p2⟩ := a1.cells)
    | (go_at_call 27; (with_reducible refine (block_err c' b' d' j hbad _).mono ?_); rintro e w3 ⟨rfl, hb3⟩; replace hB := bnext hB hb3; clear hb3 p0 p1 p2)
    | ((with_reducible refine wpList_store_blk rfl 22 (.tmp 11) (.tmp 46) rfl w3.heap.size 0 16 (bytesV Z16) rfl rfl (C := bytesV Z16) (t := 22) ?_ row22 ?_ ?_ (bytesV_one _) ?_); (exact Blk.new' rfl); (rfl); (rw [bytesV_size]; decide); intro w4 g1 ho2; clear g1; have hb2 := below_only ((Below.refl w3.heap.size w3).alloc (Nat.le_refl _) (.cells (bytesV Z16) 22)) ho2 (Nat.le_refl _); replace hB := bnext hB hb2; clear hb2 ho2)
    | (go_at_call 29; refine (known40 _).mono ?_; rintro e w6 ⟨rfl, hb4⟩; replace hB := bnext hB hb4; clear hb4)
    | fail)
  go_ret
  exact ⟨rfl, hB⟩
end Go.Proofs.Ytdgmahgidmjniaa
