/-
  Counter mode: Crypt's errors; the statement CtrCrypts.
-/
import Derived.Test.YtdgmahgidmjniaaCtrF
namespace Go.Proofs.Ytdgmahgidmjniaa
open Go.RowKit
attribute [-go_sem] Instr.build

set_option maxRecDepth 100000 in
theorem crypt_err (key : List UInt8) (c b d : Int) (hbad : b < 0 ∨ 31 < b ∨ (d ≠ 0 ∧ d ≠ 1)) (a : Option Addr) (n cap : Nat) (w : World) :
    Calls Try.prog 43 #[.agg (bytesV key), .int .u32 c, .int .i64 b, .int .i64 d, .slice a n cap] w fun e w' => e = .returned (.tuple #[.slice none 0 0, .int .i64 2]) ∧ Below w.heap.size w w' := by
  have z1 : ∀ w, (zeroValue 28).run Try.prog w = .ok (.agg (bytesV Z8)) w := (zero_of_info zero28).1
  obtain ⟨W0, hW0⟩ : ∃ W0, W0 = (w.alloc (.cells (bytesV key) 22)).alloc (.cells #[.slice a n cap] 37) := ⟨_, rfl⟩
  have hB : Below w.heap.size w W0 := by rw [hW0]; exact ((Below.refl w.heap.size w).alloc (Nat.le_refl _) (.cells (bytesV key) 22)).alloc (by simp) _
  have HW0 := Lib.hid hW0
  clear hW0
  go_enter Try.func43, Try.ntmps43
  go_wp2_with (first
    | (go_at_call 26; rw [← HW0.out]; (with_reducible refine (prefix_err c b d hbad _).mono ?_); rintro e w1 ⟨rfl, hb1⟩; replace hB := bnext hB hb1; clear hb1)
    | ((with_reducible refine wpList_store_blk rfl 28 (.tmp 12) (.tmp 21) rfl w1.heap.size 0 8 (bytesV Z8) rfl rfl (C := bytesV Z8) (t := 28) ?_ row28 ?_ ?_ (bytesV_one _) ?_); (exact Blk.new' rfl); (rfl); (rw [bytesV_size]; decide); intro w2 g1 ho2; clear g1; have hb2 := below_only ((Below.refl w1.heap.size w1).alloc (Nat.le_refl _) (.cells (bytesV Z8) 28)) ho2 (Nat.le_refl _); replace hB := bnext hB hb2; clear hb2 ho2)
    | fail)
  go_ret2
  exact ⟨rfl, hB⟩
set_option maxRecDepth 100000 in
theorem crypt_long (key : List UInt8) (c b d : Nat) (hc : c < 2 ^ 32) (hb : b ≤ 31) (hd : d ≤ 1) (a : Option Addr) (n cap : Nat) (w : World) (hn : 16384 < n) :
    Calls Try.prog 43 #[.agg (bytesV key), .int .u32 c, .int .i64 b, .int .i64 d, .slice a n cap] w fun e w' => e = .returned (.tuple #[.slice none 0 0, .int .i64 4]) ∧ Below w.heap.size w w' := by
  have z1 : ∀ w, (zeroValue 28).run Try.prog w = .ok (.agg (bytesV Z8)) w := (zero_of_info zero28).1
  have hpre := prefix_ok c b d hc hb hd
  obtain ⟨p, hp⟩ : ∃ p, p = half (pre c b d) := ⟨_, rfl⟩
  have lp := Lib.hid (show p.length = 8 by rw [hp, len_half])
  rw [← hp] at hpre
  clear hp
  obtain ⟨W0, hW0⟩ : ∃ W0, W0 = (w.alloc (.cells (bytesV key) 22)).alloc (.cells #[.slice a n cap] 37) := ⟨_, rfl⟩
  have hB : Below w.heap.size w W0 := by rw [hW0]; exact ((Below.refl w.heap.size w).alloc (Nat.le_refl _) (.cells (bytesV key) 22)).alloc (by simp) _
  have hA2 : Blk W0 (w.heap.size + 1) #[.slice a n cap] 37 := by rw [hW0]; exact Blk.new' (by simp)
  have HW0 := Lib.hid hW0
  clear hW0
  have hn2 : (16384 : Int) < n := by omega
  go_enter Try.func43, Try.ntmps43
  go_wp2_with (first
    | (go_at_call 26; rw [← HW0.out]; refine (hpre _).mono ?_; rintro e w1 ⟨rfl, hb1⟩; replace hB := bnext hB hb1; replace hA2 := hA2.below hb1 hA2.lt; clear hb1)
    | ((with_reducible refine wpList_store_blk rfl 28 (.tmp 12) (.tmp 21) rfl w1.heap.size 0 8 (bytesV p) rfl rfl (C := bytesV Z8) (t := 28) ?_ row28 ?_ ?_ (bytesV_one _) ?_); (exact Blk.new' rfl); (rw [bytesV_size, lp.out]); (rw [bytesV_size]; decide); intro w2 g1 ho2; clear g1; have hb2 := below_only ((Below.refl w1.heap.size w1).alloc (Nat.le_refl _) (.cells (bytesV Z8) 28)) ho2 (Nat.le_refl _); replace hB := bnext hB hb2; replace hA2 := hA2.below hb2 hA2.lt; clear hb2 ho2; have f2 := hA2.cell 0; simp only [List.getElem?_toArray, List.getElem?_cons_zero] at f2)
    | fail)
  go_ret2
  exact ⟨rfl, hB⟩

/-- Params in a box. -/
structure PBox (w : World) (b : Nat) (key : List UInt8) (c e f : Int) : Prop where
  blk : Blk w b (parV key c e f) 26
  len : key.length = 16
theorem PBox.below {w w' : World} {b : Nat} {key : List UInt8} {c e f : Int} (h : PBox w b key c e f) (k : Below w.heap.size w w') : PBox w' b key c e f := ⟨h.blk.below k h.blk.lt, h.len⟩
theorem PBox.cells {w : World} {b : Nat} {key : List UInt8} {c e f : Int} (h : PBox w b key c e f) :
    w.cell? ⟨b, 16, none⟩ = some (.int .u32 c) ∧ w.cell? ⟨b, 17, none⟩ = some (.int .i64 e) ∧ w.cell? ⟨b, 18, none⟩ = some (.int .i64 f) := by
  rw [h.blk.cell, h.blk.cell, h.blk.cell]; exact ⟨parV_16 key h.len c e f, parV_17 key h.len c e f, parV_18 key h.len c e f⟩

set_option maxRecDepth 100000 in
set_option maxHeartbeats 4000000 in
theorem ctrcrypts_ok (key : List UInt8) (hk : key.length = 16) (c b d : Nat) (hc : c < 2 ^ 32) (hb : b ≤ 31) (hd : d ≤ 1) (v : Value) (l : List UInt8) (w : World) (hv : Bsl w v l) (hlen : l.length ≤ 300) :
    Calls Try.prog 12 #[.agg (parV key c b d), v] w fun e w' => e = .returned (.bool true) ∧ Below w.heap.size w w' := by
  obtain ⟨X, hX⟩ : ∃ X, X = cryL key c b d l := ⟨_, rfl⟩
  have hXl : X.length = l.length := by rw [hX, cryL, xrL_length, ksU_length]; simp
  have hcry := fun w h => crypt_ok key hk c b d hc hb hd v l w h hlen
  have href := fun w h => refcrypt_any key hk c b d hb hd v l w h hlen
  rw [← hX] at hcry href
  clear hX
  obtain ⟨C, hC⟩ : ∃ C, C = parV key c b d := ⟨_, rfl⟩
  have a0 : PBox (w.alloc (.cells C 26)) w.heap.size key c b d := ⟨by rw [hC]; exact Blk.new' rfl, hk⟩
  have hkC := Lib.hid (fun w' (h : PBox w' w.heap.size key c b d) => h.blk)
  have hB : Below w.heap.size w (w.alloc (.cells C 26)) := (Below.refl _ _).alloc (Nat.le_refl _) _
  have hkx := Lib.hid (parV_key key hk c b d)
  have hks := Lib.hid (parV_size key hk c b d)
  rw [← hC] at hkx hks hkC ⊢
  clear hC
  have q := a0.cells
  obtain ⟨q0, q1, q2⟩ := q
  obtain ⟨a, cap, rfl, h1, h2, h3, h4⟩ := hv
  have hv : Bsl w (.slice a l.length cap) l := ⟨a, cap, rfl, h1, h2, h3, h4⟩
  have hv' := hv.below hB
  clear h1 h2 h3 h4
  have hlt : (l.length : Int) ≤ 300 := by omega
  go_enter Try.func12, Try.ntmps12
  go_wp2_with (first
    | ((with_reducible refine wpList_load_blk rfl 22 (.tmp 12) rfl w.heap.size 0 16 rfl (hkC.out _ a0) row22 ?_ (bytesV key) hkx.out ?_); (rw [hks.out]; decide))
    | (go_at_call 43; refine (hcry _ hv').mono ?_; rintro e w1 ⟨x, rfl, ho1, hb1⟩; replace a0 := a0.below hb1; replace hv' := hv'.below hb1; replace hB := bnext hB hb1; (have hx1 : Bsl w1 x X := (by rw [← hXl] at ho1; exact bsl_own ho1)); clear ho1 hb1 q0 q1 q2; obtain ⟨q0, q1, q2⟩ := a0.cells)
    | (go_at_call 28; (with_reducible refine (valid_ok b d hb hd _).mono ?_); rintro e w5 ⟨rfl, rfl⟩)
    | ((with_reducible refine wpList_load_blk_g 22 (.tmp 44) rfl w.heap.size 0 16 rfl (hkC.out _ a0) row22 ?_ ?_ (bytesV key) hkx.out ?_); (rfl); (rw [hks.out]; decide))
    | (go_at_call 45; refine (href _ hv').mono ?_; rintro e w2 ⟨y, rfl, hy, hb2⟩; replace hx1 := hx1.below hb2; replace hB := bnext hB hb2; clear hb2 q0 q1 q2)
    | (go_at_call 44; refine (bsame_any X X x y _ hx1 hy (by omega)).mono ?_; rintro e w3 ⟨rfl, hb3⟩; replace hB := bnext hB hb3; rw [decide_eq_true rfl]; clear hb3)
    | (go_at_call 29; refine (known40 _).mono ?_; rintro e w4 ⟨rfl, hb4⟩; replace hB := bnext hB hb4; clear hb4)
    | fail)
  go_ret
  exact ⟨rfl, hB⟩
set_option maxRecDepth 100000 in
set_option maxHeartbeats 4000000 in
theorem ctrcrypts_err (key : List UInt8) (hk : key.length = 16) (c b d : Int) (hbad : b < 0 ∨ 31 < b ∨ (d ≠ 0 ∧ d ≠ 1)) (v : Value) (l : List UInt8) (w : World) (hv : Bsl w v l) (hlen : l.length ≤ 300) :
    Calls Try.prog 12 #[.agg (parV key c b d), v] w fun e w' => e = .returned (.bool true) ∧ Below w.heap.size w w' := by
  obtain ⟨C, hC⟩ : ∃ C, C = parV key c b d := ⟨_, rfl⟩
  have a0 : PBox (w.alloc (.cells C 26)) w.heap.size key c b d := ⟨by rw [hC]; exact Blk.new' rfl, hk⟩
  have hkC := Lib.hid (fun w' (h : PBox w' w.heap.size key c b d) => h.blk)
  have hB : Below w.heap.size w (w.alloc (.cells C 26)) := (Below.refl _ _).alloc (Nat.le_refl _) _
  have hkx := Lib.hid (parV_key key hk c b d)
  have hks := Lib.hid (parV_size key hk c b d)
  rw [← hC] at hkx hks hkC ⊢
  clear hC
  obtain ⟨q0, q1, q2⟩ := a0.cells
  obtain ⟨a, cap, rfl, h1, h2, h3, h4⟩ := hv
  clear h1 h2 h3 h4
  have hlt : (l.length : Int) ≤ 300 := by omega
  go_enter Try.func12, Try.ntmps12
  go_wp2_with (first
    | ((with_reducible refine wpList_load_blk rfl 22 (.tmp 12) rfl w.heap.size 0 16 rfl (hkC.out _ a0) row22 ?_ (bytesV key) hkx.out ?_); (rw [hks.out]; decide))
    | (go_at_call 43; refine (crypt_err key c b d hbad _ _ _ _).mono ?_; rintro e w1 ⟨rfl, hb1⟩; replace a0 := a0.below hb1; replace hB := bnext hB hb1; clear hb1 q0 q1 q2; obtain ⟨q0, q1, q2⟩ := a0.cells)
    | (go_at_call 28; (with_reducible refine (valid_err b d hbad _).mono ?_); rintro e w5 ⟨rfl, rfl⟩)
    | (go_at_call 29; refine (known40 _).mono ?_; rintro e w4 ⟨rfl, hb4⟩; replace hB := bnext hB hb4; clear hb4)
    | fail)
  go_ret
  exact ⟨rfl, hB⟩
theorem walk_CtrCrypts (key : List UInt8) (hk : key.length = 16) (c b d : Int) (wc : (Lit.int .u32 c).wf = true) (v : Value) (l : List UInt8) (w : World) (hv : Bsl w v l) :
    Calls Try.prog 12 #[.agg (parV key c b d), v] w fun e w' => e = .returned (.bool true) ∧ Below w.heap.size w w' := by
  obtain ⟨c0, c1⟩ := bounds_u32' wc
  obtain ⟨c, rfl⟩ := Int.eq_ofNat_of_zero_le c0
  by_cases hlen : l.length ≤ 300
  · rcases cases_par b d with ⟨b', d', rfl, rfl, hb, hd⟩ | h
    · exact ctrcrypts_ok key hk c b' d' (by omega) hb hd v l w hv hlen
    · exact ctrcrypts_err key hk c b d h v l w hv hlen
  · have hB : Below w.heap.size w (w.alloc (.cells (parV key c b d) 26)) := (Below.refl _ _).alloc (Nat.le_refl _) _
    obtain ⟨C, hC⟩ : ∃ C, C = parV key c b d := ⟨_, rfl⟩
    rw [← hC] at hB ⊢
    clear hC
    obtain ⟨a, cap, rfl, h1, h2, h3, h4⟩ := hv
    clear h1 h2 h3 h4
    have hlt : (300 : Int) < l.length := by omega
    go_enter Try.func12, Try.ntmps12
    go_wp2_with (first
      | (go_at_call 29; refine (known40 _).mono ?_; rintro e w4 ⟨rfl, hb4⟩; replace hB := bnext hB hb4; clear hb4)
      | fail)
    go_ret
    exact ⟨rfl, hB⟩
end Go.Proofs.Ytdgmahgidmjniaa
