/-
  Counter mode: the statement CtrTwice.
-/
import Derived.Test.YtdgmahgidmjniaaCtrG
namespace Go.Proofs.Ytdgmahgidmjniaa
open Go.RowKit
attribute [-go_sem] Instr.build

theorem x8_back (x y : UInt8) : x8 (x8 x y) y = x := by
  unfold x8; rw [UInt8.xor_assoc, UInt8.xor_self, UInt8.xor_zero]
theorem xrL_back (l s : List UInt8) (h : l.length ≤ s.length) : xrL (xrL l s) s = l := by
  unfold xrL
  induction l generalizing s with
  | nil => simp
  | cons x l ih =>
    cases s with
    | nil => simp at h
    | cons y s =>
      simp only [List.zipWith_cons_cons, List.length_cons] at h ⊢
      rw [ih s (by omega), x8_back]
theorem cryL_length (key : List UInt8) (c b d : Nat) (l : List UInt8) : (cryL key c b d l).length = l.length := by
  rw [cryL, xrL_length, ksU_length]; simp
theorem cryL_back (key : List UInt8) (c b d : Nat) (l : List UInt8) : cryL key c b d (cryL key c b d l) = l := by
  rw [cryL, cryL_length, cryL, xrL_back _ _ (by rw [ksU_length]; exact Nat.le_refl _)]

set_option maxRecDepth 100000 in
set_option maxHeartbeats 4000000 in
theorem ctrtwice_ok (key : List UInt8) (hk : key.length = 16) (c b d : Nat) (hc : c < 2 ^ 32) (hb : b ≤ 31) (hd : d ≤ 1) (v : Value) (l : List UInt8) (w : World) (hv : Bsl w v l) (hlen : l.length ≤ 300) :
    Calls Try.prog 13 #[.agg (parV key c b d), v] w fun e w' => e = .returned (.bool true) ∧ Below w.heap.size w w' := by
  obtain ⟨X, hX⟩ : ∃ X, X = cryL key c b d l := ⟨_, rfl⟩
  have hXl := Lib.hid (show X.length = l.length by rw [hX, cryL_length])
  have hXX : cryL key c b d X = l := by rw [hX, cryL_back]
  have hcry := fun w h => crypt_ok key hk c b d hc hb hd v l w h hlen
  have hcr2 := fun u w h => crypt_ok key hk c b d hc hb hd u X w h (by rw [hXl.out]; omega)
  rw [← hX] at hcry
  rw [hXX] at hcr2
  clear hX hXX
  obtain ⟨C, hC⟩ : ∃ C, C = parV key c b d := ⟨_, rfl⟩
  have a0 : PBox (w.alloc (.cells C 26)) w.heap.size key c b d := ⟨by rw [hC]; exact Blk.new' rfl, hk⟩
  have hkC := Lib.hid (fun w' (h : PBox w' w.heap.size key c b d) => h.blk)
  have hB : Below w.heap.size w (w.alloc (.cells C 26)) := (Below.refl _ _).alloc (Nat.le_refl _) _
  have hkx := Lib.hid (parV_key key hk c b d)
  have hks := Lib.hid (parV_size key hk c b d)
  rw [← hC] at hkx hks hkC ⊢
  clear hC
  have q := a0.cells
  obtain ⟨q0, q1, q2⟩ := q
  obtain ⟨a, cap, rfl, h1, h2, h3, h4⟩ := hv
  have hv : Bsl w (.slice a l.length cap) l := ⟨a, cap, rfl, h1, h2, h3, h4⟩
  have hv' := hv.below hB
  clear h1 h2 h3 h4
  have hlt : (l.length : Int) ≤ 300 := by omega
  have hXi : (X.length : Int) = l.length := by rw [hXl.out]
  go_enter Try.func13, Try.ntmps13
  go_wp2_with (first
    | ((with_reducible refine wpList_load_blk rfl 22 (.tmp 14) rfl w.heap.size 0 16 rfl (hkC.out _ a0) row22 ?_ (bytesV key) hkx.out ?_); (rw [hks.out]; decide))
    | (go_at_call 43; refine (hcry _ hv').mono ?_; rintro e w1 ⟨x, rfl, ho1, hb1⟩; replace a0 := a0.below hb1; replace hv' := hv'.below hb1; replace hB := bnext hB hb1; rw [← hXl.out] at ho1; have hx1 := bsl_own ho1; obtain ⟨ax, cx, rfl, y1, y2, y3, y4⟩ := hx1; have hx1 : Bsl w1 (.slice ax X.length cx) X := ⟨ax, cx, rfl, y1, y2, y3, y4⟩; clear ho1 hb1 q0 q1 q2 y1 y2 y3 y4 hcry; obtain ⟨q0, q1, q2⟩ := a0.cells)
    | ((with_reducible refine wpList_load_blk rfl 22 (.tmp 30) rfl w.heap.size 0 16 rfl (hkC.out _ a0) row22 ?_ (bytesV key) hkx.out ?_); (rw [hks.out]; decide))
    | (go_at_call 43; refine (hcr2 _ _ hx1).mono ?_; rintro e w2 ⟨y, rfl, ho2, hb2⟩; replace hv' := hv'.below hb2; replace hB := bnext hB hb2; rw [hXl.out] at ho2; have hy := bsl_own ho2; clear ho2 hb2 q0 q1 q2)
    | (go_at_call 44; refine (bsame_any l l _ _ _ hy hv' (by omega)).mono ?_; rintro e w3 ⟨rfl, hb3⟩; replace hB := bnext hB hb3; rw [decide_eq_true rfl]; clear hb3)
    | (go_at_call 29; refine (known40 _).mono ?_; rintro e w4 ⟨rfl, hb4⟩; replace hB := bnext hB hb4; clear hb4)
    | fail)
  go_ret
  exact ⟨rfl, hB⟩
set_option maxRecDepth 100000 in
set_option maxHeartbeats 4000000 in
theorem ctrtwice_err (key : List UInt8) (hk : key.length = 16) (c b d : Int) (hbad : b < 0 ∨ 31 < b ∨ (d ≠ 0 ∧ d ≠ 1)) (v : Value) (l : List UInt8) (w : World) (hv : Bsl w v l) (hlen : l.length ≤ 300) :
    Calls Try.prog 13 #[.agg (parV key c b d), v] w fun e w' => e = .returned (.bool true) ∧ Below w.heap.size w w' := by
  obtain ⟨C, hC⟩ : ∃ C, C = parV key c b d := ⟨_, rfl⟩
  have a0 : PBox (w.alloc (.cells C 26)) w.heap.size key c b d := ⟨by rw [hC]; exact Blk.new' rfl, hk⟩
  have hkC := Lib.hid (fun w' (h : PBox w' w.heap.size key c b d) => h.blk)
  have hB : Below w.heap.size w (w.alloc (.cells C 26)) := (Below.refl _ _).alloc (Nat.le_refl _) _
  have hkx := Lib.hid (parV_key key hk c b d)
  have hks := Lib.hid (parV_size key hk c b d)
  rw [← hC] at hkx hks hkC ⊢
  clear hC
  obtain ⟨q0, q1, q2⟩ := a0.cells
  obtain ⟨a, cap, rfl, h1, h2, h3, h4⟩ := hv
  clear h1 h2 h3 h4
  have hlt : (l.length : Int) ≤ 300 := by omega
  go_enter Try.func13, Try.ntmps13
  go_wp2_with (first
    | ((with_reducible refine wpList_load_blk rfl 22 (.tmp 14) rfl w.heap.size 0 16 rfl (hkC.out _ a0) row22 ?_ (bytesV key) hkx.out ?_); (rw [hks.out]; decide))
    | (go_at_call 43; refine (crypt_err key c b d hbad _ _ _ _).mono ?_; rintro e w1 ⟨rfl, hb1⟩; replace a0 := a0.below hb1; replace hB := bnext hB hb1; clear hb1 q0 q1 q2; obtain ⟨q0, q1, q2⟩ := a0.cells)
    | (go_at_call 28; (with_reducible refine (valid_err b d hbad _).mono ?_); rintro e w5 ⟨rfl, rfl⟩)
    | (go_at_call 29; refine (known40 _).mono ?_; rintro e w4 ⟨rfl, hb4⟩; replace hB := bnext hB hb4; clear hb4)
    | fail)
  go_ret
  exact ⟨rfl, hB⟩
theorem walk_CtrTwice (key : List UInt8) (hk : key.length = 16) (c b d : Int) (wc : (Lit.int .u32 c).wf = true) (v : Value) (l : List UInt8) (w : World) (hv : Bsl w v l) :
    Calls Try.prog 13 #[.agg (parV key c b d), v] w fun e w' => e = .returned (.bool true) ∧ Below w.heap.size w w' := by
  obtain ⟨c0, c1⟩ := bounds_u32' wc
  obtain ⟨c, rfl⟩ := Int.eq_ofNat_of_zero_le c0
  by_cases hlen : l.length ≤ 300
  · rcases cases_par b d with ⟨b', d', rfl, rfl, hb, hd⟩ | h
    · exact ctrtwice_ok key hk c b' d' (by omega) hb hd v l w hv hlen
    · exact ctrtwice_err key hk c b d h v l w hv hlen
  · have hB : Below w.heap.size w (w.alloc (.cells (parV key c b d) 26)) := (Below.refl _ _).alloc (Nat.le_refl _) _
    obtain ⟨C, hC⟩ : ∃ C, C = parV key c b d := ⟨_, rfl⟩
    rw [← hC] at hB ⊢
    clear hC
    obtain ⟨a, cap, rfl, h1, h2, h3, h4⟩ := hv
    clear h1 h2 h3 h4
    have hlt : (300 : Int) < l.length := by omega
    go_enter Try.func13, Try.ntmps13
    go_wp2_with (first
      | (go_at_call 29; refine (known40 _).mono ?_; rintro e w4 ⟨rfl, hb4⟩; replace hB := bnext hB hb4; clear hb4)
      | fail)
    go_ret
    exact ⟨rfl, hB⟩
end Go.Proofs.Ytdgmahgidmjniaa
