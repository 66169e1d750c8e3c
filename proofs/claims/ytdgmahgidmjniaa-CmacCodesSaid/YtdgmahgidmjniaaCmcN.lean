/-
  Message authentication codes: verifying; the statement CmacVerifies.
-/
import Derived.Test.YtdgmahgidmjniaaCmcJ
namespace Go.Proofs.Ytdgmahgidmjniaa
open Go.RowKit
attribute [-go_sem] Instr.build

/-- What verifying answers. -/
def verV (r e x : Int) : Int := if e = 0 then (if r = x then 0 else 11) else e
set_option maxRecDepth 100000 in
set_option maxHeartbeats 4000000 in
theorem verify_of (key : List UInt8) (hk : key.length = 16) (c b d : Int) (v : Value) (x r e : Int) (he : e = 0 ∨ e = 2 ∨ e = 4) (w : World)
    (h : ∀ W, Below w.heap.size w W → Calls Try.prog 54 #[.agg (bytesV key), .int .u32 c, .int .i64 b, .int .i64 d, v] W fun q W' => q = .returned (.tuple #[.int .u32 r, .int .i64 e]) ∧ Below W.heap.size W W') :
    Calls Try.prog 56 #[.agg (bytesV key), .int .u32 c, .int .i64 b, .int .i64 d, v, .int .u32 x] w fun q w' => q = .returned (.int .i64 (verV r e x)) ∧ Below w.heap.size w w' := by
  have a0 : Blk (w.alloc (.cells (bytesV key) 22)) w.heap.size (bytesV key) 22 := Blk.new' rfl
  have hB : Below w.heap.size w (w.alloc (.cells (bytesV key) 22)) := (Below.refl _ _).alloc (Nat.le_refl _) _
  have hc := h _ hB
  clear h
  by_cases hx : r = x
  · have hxb : (r != x) = false := by simp [hx]
    rcases he with rfl | rfl | rfl
    all_goals
      go_enter Try.func56, Try.ntmps56
      go_wp2_with (first
        | ((with_reducible refine wpList_load_blk_g 22 (.tmp 6) rfl w.heap.size 0 16 rfl a0 row22 ?_ ?_ (bytesV key) ?_ ?_); (rfl); (rw [bytesV_size, hk]; decide); (exact bytesV_whole _ _ hk))
        | (go_at_call 54; (with_reducible refine hc.mono ?_); rintro e' w1 ⟨rfl, hb1⟩; replace hB := bnext hB hb1; clear hb1)
        | fail)
      go_ret
      first
        | exact ⟨by simp [verV, hx], hB⟩
        | skip
  · have hxb : (r != x) = true := by simp [hx]
    rcases he with rfl | rfl | rfl
    all_goals
      go_enter Try.func56, Try.ntmps56
      go_wp2_with (first
        | ((with_reducible refine wpList_load_blk_g 22 (.tmp 6) rfl w.heap.size 0 16 rfl a0 row22 ?_ ?_ (bytesV key) ?_ ?_); (rfl); (rw [bytesV_size, hk]; decide); (exact bytesV_whole _ _ hk))
        | (go_at_call 54; (with_reducible refine hc.mono ?_); rintro e' w1 ⟨rfl, hb1⟩; replace hB := bnext hB hb1; clear hb1)
        | fail)
      go_ret
      first
        | exact ⟨by simp [verV, hx], hB⟩
        | skip
set_option maxRecDepth 100000 in
set_option maxHeartbeats 8000000 in
theorem cmacverifies_go (key : List UInt8) (hk : key.length = 16) (c b d : Int) (a : Option Addr) (n cap : Nat) (hn : n ≤ 300) (x r e f g : Int) (w : World)
    (hcase : (e = 0 ∧ f = 0 ∧ g = 0 ∧ r = x) ∨ (e = 0 ∧ f = 0 ∧ g = 11 ∧ r ≠ x) ∨ (e = 2 ∧ f = 2 ∧ g = 2))
    (hco : ∀ W, Below w.heap.size w W → Calls Try.prog 54 #[.agg (bytesV key), .int .u32 c, .int .i64 b, .int .i64 d, .slice a n cap] W fun q W' => q = .returned (.tuple #[.int .u32 r, .int .i64 e]) ∧ Below W.heap.size W W')
    (h1 : ∀ W, Below w.heap.size w W → Calls Try.prog 56 #[.agg (bytesV key), .int .u32 c, .int .i64 b, .int .i64 d, .slice a n cap, .int .u32 r] W fun q W' => q = .returned (.int .i64 f) ∧ Below W.heap.size W W')
    (h2 : ∀ W, Below w.heap.size w W → Calls Try.prog 56 #[.agg (bytesV key), .int .u32 c, .int .i64 b, .int .i64 d, .slice a n cap, .int .u32 x] W fun q W' => q = .returned (.int .i64 g) ∧ Below W.heap.size W W') :
    Calls Try.prog 24 #[.agg (parV key c b d), .slice a n cap, .int .u32 x] w fun q w' => q = .returned (.bool true) ∧ Below w.heap.size w w' := by
  obtain ⟨C, hC⟩ : ∃ C, C = parV key c b d := ⟨_, rfl⟩
  have a0 : PBox (w.alloc (.cells C 26)) w.heap.size key c b d := ⟨by rw [hC]; exact Blk.new' rfl, hk⟩
  have hkC := Lib.hid (fun w' (h : PBox w' w.heap.size key c b d) => h.blk)
  have hB : Below w.heap.size w (w.alloc (.cells C 26)) := (Below.refl _ _).alloc (Nat.le_refl _) _
  have hkx := Lib.hid (parV_key key hk c b d)
  have hks := Lib.hid (parV_size key hk c b d)
  rw [← hC] at hkx hks hkC ⊢
  clear hC
  obtain ⟨q0, q1, q2⟩ := a0.cells
  have hlt : (n : Int) ≤ 300 := by omega
  rcases hcase with ⟨rfl, rfl, rfl, rfl⟩ | ⟨rfl, rfl, rfl, hx⟩ | ⟨rfl, rfl, rfl⟩
  · have hbb : (r == r) = true := by simp
    go_enter Try.func24, Try.ntmps24
    go_wp2_with (first
      | ((with_reducible refine wpList_load_blk rfl 22 (.tmp 16) rfl w.heap.size 0 16 rfl (hkC.out _ a0) row22 ?_ (bytesV key) hkx.out ?_); (rw [hks.out]; decide))
      | ((with_reducible refine wpList_load_blk rfl 22 (.tmp 28) rfl w.heap.size 0 16 rfl (hkC.out _ a0) row22 ?_ (bytesV key) hkx.out ?_); (rw [hks.out]; decide))
      | ((with_reducible refine wpList_load_blk rfl 22 (.tmp 39) rfl w.heap.size 0 16 rfl (hkC.out _ a0) row22 ?_ (bytesV key) hkx.out ?_); (rw [hks.out]; decide))
      | (go_at_call 54; (with_reducible refine (hco _ hB).mono ?_); rintro e1 w1 ⟨rfl, hb1⟩; replace a0 := a0.below hb1; replace hB := bnext hB hb1; clear hb1 q0 q1 q2; obtain ⟨q0, q1, q2⟩ := a0.cells)
      | (go_at_call 56; (with_reducible refine (h1 _ hB).mono ?_); rintro e2 w2 ⟨rfl, hb2⟩; replace a0 := a0.below hb2; replace hB := bnext hB hb2; clear hb2 q0 q1 q2; obtain ⟨q0, q1, q2⟩ := a0.cells)
      | (go_at_call 56; (with_reducible refine (h2 _ hB).mono ?_); rintro e3 w3 ⟨rfl, hb3⟩; replace a0 := a0.below hb3; replace hB := bnext hB hb3; clear hb3 q0 q1 q2; obtain ⟨q0, q1, q2⟩ := a0.cells)
      | (go_at_call 51; refine (known41 _).mono ?_; rintro e w4 ⟨rfl, hb4⟩; replace hB := bnext hB hb4; clear hb4)
      | fail)
    go_ret
    exact ⟨rfl, hB⟩
  · have hbb : (x == r) = false := by simp [Ne.symm hx]
    have hbc : (x != r) = true := by simp [Ne.symm hx]
    go_enter Try.func24, Try.ntmps24
    go_wp2_with (first
      | ((with_reducible refine wpList_load_blk rfl 22 (.tmp 16) rfl w.heap.size 0 16 rfl (hkC.out _ a0) row22 ?_ (bytesV key) hkx.out ?_); (rw [hks.out]; decide))
      | ((with_reducible refine wpList_load_blk rfl 22 (.tmp 28) rfl w.heap.size 0 16 rfl (hkC.out _ a0) row22 ?_ (bytesV key) hkx.out ?_); (rw [hks.out]; decide))
      | ((with_reducible refine wpList_load_blk rfl 22 (.tmp 39) rfl w.heap.size 0 16 rfl (hkC.out _ a0) row22 ?_ (bytesV key) hkx.out ?_); (rw [hks.out]; decide))
      | (go_at_call 54; (with_reducible refine (hco _ hB).mono ?_); rintro e1 w1 ⟨rfl, hb1⟩; replace a0 := a0.below hb1; replace hB := bnext hB hb1; clear hb1 q0 q1 q2; obtain ⟨q0, q1, q2⟩ := a0.cells)
      | (go_at_call 56; (with_reducible refine (h1 _ hB).mono ?_); rintro e2 w2 ⟨rfl, hb2⟩; replace a0 := a0.below hb2; replace hB := bnext hB hb2; clear hb2 q0 q1 q2; obtain ⟨q0, q1, q2⟩ := a0.cells)
      | (go_at_call 56; (with_reducible refine (h2 _ hB).mono ?_); rintro e3 w3 ⟨rfl, hb3⟩; replace a0 := a0.below hb3; replace hB := bnext hB hb3; clear hb3 q0 q1 q2; obtain ⟨q0, q1, q2⟩ := a0.cells)
      | (go_at_call 51; refine (known41 _).mono ?_; rintro e w4 ⟨rfl, hb4⟩; replace hB := bnext hB hb4; clear hb4)
      | fail)
    go_ret
    exact ⟨rfl, hB⟩
  · skip
    go_enter Try.func24, Try.ntmps24
    go_wp2_with (first
      | ((with_reducible refine wpList_load_blk rfl 22 (.tmp 16) rfl w.heap.size 0 16 rfl (hkC.out _ a0) row22 ?_ (bytesV key) hkx.out ?_); (rw [hks.out]; decide))
      | ((with_reducible refine wpList_load_blk rfl 22 (.tmp 28) rfl w.heap.size 0 16 rfl (hkC.out _ a0) row22 ?_ (bytesV key) hkx.out ?_); (rw [hks.out]; decide))
      | ((with_reducible refine wpList_load_blk rfl 22 (.tmp 39) rfl w.heap.size 0 16 rfl (hkC.out _ a0) row22 ?_ (bytesV key) hkx.out ?_); (rw [hks.out]; decide))
      | (go_at_call 54; (with_reducible refine (hco _ hB).mono ?_); rintro e1 w1 ⟨rfl, hb1⟩; replace a0 := a0.below hb1; replace hB := bnext hB hb1; clear hb1 q0 q1 q2; obtain ⟨q0, q1, q2⟩ := a0.cells)
      | (go_at_call 56; (with_reducible refine (h1 _ hB).mono ?_); rintro e2 w2 ⟨rfl, hb2⟩; replace a0 := a0.below hb2; replace hB := bnext hB hb2; clear hb2 q0 q1 q2; obtain ⟨q0, q1, q2⟩ := a0.cells)
      | (go_at_call 56; (with_reducible refine (h2 _ hB).mono ?_); rintro e3 w3 ⟨rfl, hb3⟩; replace a0 := a0.below hb3; replace hB := bnext hB hb3; clear hb3 q0 q1 q2; obtain ⟨q0, q1, q2⟩ := a0.cells)
      | (go_at_call 51; refine (known41 _).mono ?_; rintro e w4 ⟨rfl, hb4⟩; replace hB := bnext hB hb4; clear hb4)
      | fail)
    go_ret
    exact ⟨rfl, hB⟩
theorem cmacverifies_long (C : Array Value) (a : Option Addr) (n cap : Nat) (hn : 300 < n) (x : Int) (w : World) :
    Calls Try.prog 24 #[.agg C, .slice a n cap, .int .u32 x] w fun e w' => e = .returned (.bool true) ∧ Below w.heap.size w w' := by
  have hB : Below w.heap.size w (w.alloc (.cells C 26)) := (Below.refl _ _).alloc (Nat.le_refl _) _
  have hlt : (300 : Int) < n := by omega
  go_enter Try.func24, Try.ntmps24
  go_wp2_with (first
    | (go_at_call 51; refine (known41 _).mono ?_; rintro e w4 ⟨rfl, hb4⟩; replace hB := bnext hB hb4; clear hb4)
    | fail)
  go_ret
  exact ⟨rfl, hB⟩
theorem walk_CmacVerifies (key : List UInt8) (hk : key.length = 16) (c b d : Int) (wc : (Lit.int .u32 c).wf = true) (v : Value) (l : List UInt8) (x : Int) (_ : (Lit.int .u32 x).wf = true) (w : World) (hv : Bsl w v l) :
    Calls Try.prog 24 #[.agg (parV key c b d), v, .int .u32 x] w fun e w' => e = .returned (.bool true) ∧ Below w.heap.size w w' := by
  obtain ⟨c0, c1⟩ := bounds_u32' wc
  obtain ⟨c, rfl⟩ := Int.eq_ofNat_of_zero_le c0
  by_cases hlen : l.length ≤ 300
  · rcases cases_par b d with ⟨b', d', rfl, rfl, hb, hd⟩ | h
    · have hco : ∀ W, Below w.heap.size w W → Calls Try.prog 54 #[.agg (bytesV key), .int .u32 c, .int .i64 b', .int .i64 d', v] W fun q W' => q = .returned (.tuple #[.int .u32 (codeL key c b' d' l), .int .i64 0]) ∧ Below W.heap.size W W' :=
        fun W hB => code_ok key hk c b' d' (by omega) hb hd v l W (hv.below hB) (by omega)
      have hver := fun y W (hB : Below w.heap.size w W) => verify_of key hk c b' d' v y (codeL key c b' d' l) 0 (.inl rfl) W (fun W' hb => hco W' (bnext hB hb))
      obtain ⟨a, cap, rfl, _⟩ := hv
      by_cases hx : (codeL key c b' d' l : Int) = x
      · exact cmacverifies_go key hk c b' d' a l.length cap hlen x _ 0 0 0 w (.inl ⟨rfl, rfl, rfl, hx⟩) hco (fun W hB => by have := hver (codeL key c b' d' l) W hB; simpa [verV] using this) (fun W hB => by have := hver x W hB; simpa [verV, hx] using this)
      · exact cmacverifies_go key hk c b' d' a l.length cap hlen x _ 0 0 11 w (.inr (.inl ⟨rfl, rfl, rfl, hx⟩)) hco (fun W hB => by have := hver (codeL key c b' d' l) W hB; simpa [verV] using this) (fun W hB => by have := hver x W hB; simpa [verV, hx] using this)
    · obtain ⟨a, cap, rfl, _⟩ := hv
      have hco : ∀ W, Below w.heap.size w W → Calls Try.prog 54 #[.agg (bytesV key), .int .u32 c, .int .i64 b, .int .i64 d, .slice a l.length cap] W fun q W' => q = .returned (.tuple #[.int .u32 0, .int .i64 2]) ∧ Below W.heap.size W W' :=
        fun W hB => code_err key c b d h a l.length cap W
      have hver := fun y W (hB : Below w.heap.size w W) => verify_of key hk c b d (.slice a l.length cap) y 0 2 (.inr (.inl rfl)) W (fun W' hb => hco W' (bnext hB hb))
      exact cmacverifies_go key hk c b d a l.length cap hlen x 0 2 2 2 w (.inr (.inr ⟨rfl, rfl, rfl⟩)) hco (fun W hB => by have := hver 0 W hB; simpa [verV] using this) (fun W hB => by have := hver x W hB; simpa [verV] using this)
  · obtain ⟨a, cap, rfl, _⟩ := hv
    exact cmacverifies_long _ a l.length cap (by omega) x w
end Go.Proofs.Ytdgmahgidmjniaa
