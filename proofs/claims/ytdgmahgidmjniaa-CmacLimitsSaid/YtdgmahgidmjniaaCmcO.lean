/-
  Message authentication codes: the statement CmacLimits.
-/
import Derived.Test.YtdgmahgidmjniaaCmcN
import Derived.Deep.OwnRows
namespace Go.Proofs.Ytdgmahgidmjniaa
open Go.RowKit
attribute [-go_sem] Instr.build

theorem mk_lim (n : Nat) (hn : n ≤ 100000) (w : World) : (Instr.makeSlice 37 (.int .i64 (n : Int)) (.int .i64 (n : Int))).run Try.prog w = .ok (.slice (some ⟨w.heap.size, 0, none⟩) n n) (w.alloc (.cells (madeCells #[Value.int .u8 0] n) 5)) :=
  run_make_row' 37 5 (.int .u8 0) 1 elem37 info5 rfl .i64 .i64 n (by omega) (by omega) w
set_option maxRecDepth 100000 in
set_option maxHeartbeats 8000000 in
theorem cmaclimits_go (key : List UInt8) (hk : key.length = 16) (c b d : Int) (m n : Nat) (hm : n = 16384 + m) (m1 : 1 ≤ m) (m2 : m ≤ 50) (e : Int) (valid : Bool) (he : (e = 4 ∧ valid = true) ∨ (e = 2 ∧ valid = false)) (w : World)
    (hval : ∀ W, Calls Try.prog 28 #[.int .i64 b, .int .i64 d] W fun q W' => q = .returned (.bool valid) ∧ W = W')
    (hco : ∀ a W, Calls Try.prog 54 #[.agg (bytesV key), .int .u32 c, .int .i64 b, .int .i64 d, .slice a n n] W fun q W' => q = .returned (.tuple #[.int .u32 0, .int .i64 e]) ∧ Below W.heap.size W W') :
    Calls Try.prog 25 #[.agg (parV key c b d), .int .i64 m] w fun q w' => q = .returned (.bool true) ∧ Below w.heap.size w w' := by
  have z2 : ∀ w, (zeroValue 22).run Try.prog w = .ok (.agg (bytesV Z16)) w := (zero_of_info zero22).1
  have hmk := mk_lim n (by omega)
  have hms : (16384 : Int) + m = n := by omega
  have hmw : IntKind.i64.wrap (n : Int) = n := IntWalk.i64_in _ (by omega)
  have hver := fun a W => verify_of key hk c b d (.slice a n n) 0 0 e (by rcases he with ⟨rfl, _⟩ | ⟨rfl, _⟩ <;> simp) W (fun W' _ => hco a W')
  have hvv : verV 0 e 0 = e := by rcases he with ⟨rfl, _⟩ | ⟨rfl, _⟩ <;> rfl
  rw [hvv] at hver
  clear hvv
  have hcl := fun a W => cmacsum_long key a n n (by omega) W
  obtain ⟨C, hC⟩ : ∃ C, C = parV key c b d := ⟨_, rfl⟩
  have a0 : PBox (w.alloc (.cells C 26)) w.heap.size key c b d := ⟨by rw [hC]; exact Blk.new' rfl, hk⟩
  have hkC := Lib.hid (fun w' (h : PBox w' w.heap.size key c b d) => h.blk)
  have hB : Below w.heap.size w (w.alloc (.cells C 26)) := (Below.refl _ _).alloc (Nat.le_refl _) _
  have hkx := Lib.hid (parV_key key hk c b d)
  have hks := Lib.hid (parV_size key hk c b d)
  rw [← hC] at hkx hks hkC ⊢
  clear hC
  have k1 : (1 : Int) ≤ m := by omega
  have k2 : (m : Int) ≤ 50 := by omega
  obtain ⟨Z, hZ⟩ : ∃ Z, Z = madeCells #[Value.int .u8 0] n := ⟨_, rfl⟩
  rw [← hZ] at hmk
  have hmM : n ≤ 100000 := by omega
  clear hZ m1 m2 hm
  replace a0 := a0.below ((Below.refl (w.alloc (.cells C 26)).heap.size _).alloc (Nat.le_refl _) (.cells Z 5))
  replace hB := hB.alloc hB.size (.cells Z 5)
  obtain ⟨q0, q1, q2⟩ := a0.cells
  rcases he with ⟨rfl, rfl⟩ | ⟨rfl, rfl⟩
  · go_enter Try.func25, Try.ntmps25
    go_wp2_with (first
    | ((with_reducible refine wpList_load_blk rfl 22 (.tmp 22) rfl w.heap.size 0 16 rfl (hkC.out _ a0) row22 ?_ (bytesV key) hkx.out ?_); (rw [hks.out]; decide))
    | ((with_reducible refine wpList_load_blk rfl 22 (.tmp 29) rfl w.heap.size 0 16 rfl (hkC.out _ a0) row22 ?_ (bytesV key) hkx.out ?_); (rw [hks.out]; decide))
    | ((with_reducible refine wpList_load_blk rfl 22 (.tmp 41) rfl w.heap.size 0 16 rfl (hkC.out _ a0) row22 ?_ (bytesV key) hkx.out ?_); (rw [hks.out]; decide))
    | (go_at_call 52; (with_reducible refine (hcl _ _).mono ?_); rintro e1 w1 ⟨rfl, hb1⟩; replace a0 := a0.below hb1; replace hB := bnext hB hb1; clear hb1 q0 q1 q2; obtain ⟨q0, q1, q2⟩ := a0.cells)
    | ((with_reducible refine wpList_store_blk rfl 22 (.tmp 6) (.tmp 26) rfl w1.heap.size 0 16 (bytesV Z16) rfl rfl (C := bytesV Z16) (t := 22) ?_ row22 ?_ ?_ (bytesV_one _) ?_); (exact Blk.new' rfl); (rfl); (rw [bytesV_size]; decide); intro w2 g1 ho2; clear g1; have hb2 := below_only ((Below.refl w1.heap.size w1).alloc (Nat.le_refl _) (.cells (bytesV Z16) 22)) ho2 (Nat.le_refl _); replace a0 := a0.below hb2; replace hB := bnext hB hb2; clear hb2 ho2 q0 q1 q2; obtain ⟨q0, q1, q2⟩ := a0.cells)
    | (go_at_call 54; (with_reducible refine (hco _ _).mono ?_); rintro e1 w3 ⟨rfl, hb1⟩; replace a0 := a0.below hb1; replace hB := bnext hB hb1; clear hb1 q0 q1 q2; obtain ⟨q0, q1, q2⟩ := a0.cells)
    | (go_at_call 56; (with_reducible refine (hver _ _).mono ?_); rintro e1 w4 ⟨rfl, hb1⟩; replace a0 := a0.below hb1; replace hB := bnext hB hb1; clear hb1 q0 q1 q2; obtain ⟨q0, q1, q2⟩ := a0.cells)
    | (go_at_call 28; (with_reducible refine (hval _).mono ?_); rintro e1 w5 ⟨rfl, rfl⟩)
    | (go_at_call 51; refine (known41 _).mono ?_; rintro e w6 ⟨rfl, hb4⟩; replace hB := bnext hB hb4; clear hb4)
    | fail)
    go_ret
    exact ⟨rfl, hB⟩
  · go_enter Try.func25, Try.ntmps25
    go_wp2_with (first
    | ((with_reducible refine wpList_load_blk rfl 22 (.tmp 22) rfl w.heap.size 0 16 rfl (hkC.out _ a0) row22 ?_ (bytesV key) hkx.out ?_); (rw [hks.out]; decide))
    | ((with_reducible refine wpList_load_blk rfl 22 (.tmp 29) rfl w.heap.size 0 16 rfl (hkC.out _ a0) row22 ?_ (bytesV key) hkx.out ?_); (rw [hks.out]; decide))
    | ((with_reducible refine wpList_load_blk rfl 22 (.tmp 41) rfl w.heap.size 0 16 rfl (hkC.out _ a0) row22 ?_ (bytesV key) hkx.out ?_); (rw [hks.out]; decide))
    | (go_at_call 52; (with_reducible refine (hcl _ _).mono ?_); rintro e1 w1 ⟨rfl, hb1⟩; replace a0 := a0.below hb1; replace hB := bnext hB hb1; clear hb1 q0 q1 q2; obtain ⟨q0, q1, q2⟩ := a0.cells)
    | ((with_reducible refine wpList_store_blk rfl 22 (.tmp 6) (.tmp 26) rfl w1.heap.size 0 16 (bytesV Z16) rfl rfl (C := bytesV Z16) (t := 22) ?_ row22 ?_ ?_ (bytesV_one _) ?_); (exact Blk.new' rfl); (rfl); (rw [bytesV_size]; decide); intro w2 g1 ho2; clear g1; have hb2 := below_only ((Below.refl w1.heap.size w1).alloc (Nat.le_refl _) (.cells (bytesV Z16) 22)) ho2 (Nat.le_refl _); replace a0 := a0.below hb2; replace hB := bnext hB hb2; clear hb2 ho2 q0 q1 q2; obtain ⟨q0, q1, q2⟩ := a0.cells)
    | (go_at_call 54; (with_reducible refine (hco _ _).mono ?_); rintro e1 w3 ⟨rfl, hb1⟩; replace a0 := a0.below hb1; replace hB := bnext hB hb1; clear hb1 q0 q1 q2; obtain ⟨q0, q1, q2⟩ := a0.cells)
    | (go_at_call 56; (with_reducible refine (hver _ _).mono ?_); rintro e1 w4 ⟨rfl, hb1⟩; replace a0 := a0.below hb1; replace hB := bnext hB hb1; clear hb1 q0 q1 q2; obtain ⟨q0, q1, q2⟩ := a0.cells)
    | (go_at_call 28; (with_reducible refine (hval _).mono ?_); rintro e1 w5 ⟨rfl, rfl⟩)
    | (go_at_call 51; refine (known41 _).mono ?_; rintro e w6 ⟨rfl, hb4⟩; replace hB := bnext hB hb4; clear hb4)
    | fail)
    go_ret
    exact ⟨rfl, hB⟩
theorem cmaclimits_out (C : Array Value) (m : Int) (hm : m < 1 ∨ 50 < m) (w : World) :
    Calls Try.prog 25 #[.agg C, .int .i64 m] w fun e w' => e = .returned (.bool true) ∧ Below w.heap.size w w' := by
  have hB : Below w.heap.size w (w.alloc (.cells C 26)) := (Below.refl _ _).alloc (Nat.le_refl _) _
  rcases hm with hm | hm
  · go_enter Try.func25, Try.ntmps25
    go_wp2_with (first
      | (go_at_call 51; refine (known41 _).mono ?_; rintro e w6 ⟨rfl, hb4⟩; replace hB := bnext hB hb4; clear hb4)
      | fail)
    go_ret
    exact ⟨rfl, hB⟩
  · have h2 : ¬ m < 1 := by omega
    go_enter Try.func25, Try.ntmps25
    go_wp2_with (first
      | (go_at_call 51; refine (known41 _).mono ?_; rintro e w6 ⟨rfl, hb4⟩; replace hB := bnext hB hb4; clear hb4)
      | fail)
    go_ret
    exact ⟨rfl, hB⟩
theorem walk_CmacLimits (key : List UInt8) (hk : key.length = 16) (c b d : Int) (wc : (Lit.int .u32 c).wf = true) (m : Int) (_ : (Lit.int .i64 m).wf = true) (w : World) :
    Calls Try.prog 25 #[.agg (parV key c b d), .int .i64 m] w fun e w' => e = .returned (.bool true) ∧ Below w.heap.size w w' := by
  obtain ⟨c0, c1⟩ := bounds_u32' wc
  obtain ⟨c, rfl⟩ := Int.eq_ofNat_of_zero_le c0
  by_cases hm : m < 1 ∨ 50 < m
  · exact cmaclimits_out _ m hm w
  · obtain ⟨m, rfl⟩ := Int.eq_ofNat_of_zero_le (show 0 ≤ m by omega)
    rcases cases_par b d with ⟨b', d', rfl, rfl, hb, hd⟩ | h
    · exact cmaclimits_go key hk c b' d' m (16384 + m) rfl (by omega) (by omega) 4 true (.inl ⟨rfl, rfl⟩) w (fun W => valid_ok b' d' hb hd W) (fun a W => code_long key c b' d' (by omega) hb hd a _ _ (by omega) W)
    · exact cmaclimits_go key hk c b d m (16384 + m) rfl (by omega) (by omega) 2 false (.inr ⟨rfl, rfl⟩) w (fun W => valid_err b d h W) (fun a W => code_err key c b d h a _ _ W)
end Go.Proofs.Ytdgmahgidmjniaa
