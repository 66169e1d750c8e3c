/-
  AES, the walks of the first laws: products, field, boxes.
-/
import Derived.Test.YtdgmahgidmjniaaAesT
namespace Go.Proofs.Ytdgmahgidmjniaa
open Go.RowKit

theorem bounds_u8' {a : Int} (h : (Lit.int .u8 a).wf = true) : 0 ≤ a ∧ a < 256 := by
  have hmin : IntKind.u8.min = 0 := rfl
  have hmax : IntKind.u8.max = 255 := rfl
  simp only [Lit.wf, Bool.and_eq_true, decide_eq_true_eq] at h
  omega

set_option maxRecDepth 100000 in
theorem known39 (w : World) : Calls Try.prog 33 #[] w fun e w' => e = .returned (.bool true) ∧ Below w.heap.size w w' := by
  have ha := known_a
  have hb := known_b
  have hc := known_c
  have hd := known_d
  have he := known_e
  have hB := Below.refl w.heap.size w
  go_enter Try.func33, Try.ntmps33
  go_wp2_with (first
    | (go_at_call 31; refine (mul_int _ _ _ (by omega) (by omega) (by omega) (by omega)).mono ?_; rintro e w' ⟨rfl, rfl⟩)
    | (go_at_call 34; refine (sbox_int _ _ (by omega) (by omega)).mono ?_; rintro e w' ⟨rfl, hb'⟩; replace hB := bnext hB hb'; clear hb')
    | (go_at_call 36; refine (inbox_int _ _ (by omega) (by omega)).mono ?_; rintro e w' ⟨rfl, hb'⟩; replace hB := bnext hB hb'; clear hb'))
  go_ret
  exact ⟨rfl, hB⟩

theorem byte_of {a : Int} (h : (Lit.int .u8 a).wf = true) : ∃ x : UInt8, a = x.toNat := by
  have := bounds_u8' h
  exact ⟨u8 a, (cast_u8 a this.1 this.2).symm⟩
theorem sbox_any (x : UInt8) (w : World) : Calls Try.prog 34 #[.int .u8 x.toNat] w fun e w' => e = .returned (.int .u8 (sbox x).toNat) ∧ Below w.heap.size w w' := by
  have h := lt256 x
  have := sbox_int x.toNat w (by omega) (by omega)
  rwa [u8_cast] at this
theorem inbox_any (x : UInt8) (w : World) : Calls Try.prog 36 #[.int .u8 x.toNat] w fun e w' => e = .returned (.int .u8 (inbox x).toNat) ∧ Below w.heap.size w w' := by
  have h := lt256 x
  have := inbox_int x.toNat w (by omega) (by omega)
  rwa [u8_cast] at this
theorem mul1_any (x : UInt8) (w : World) : Calls Try.prog 31 #[.int .u8 x.toNat, .int .u8 1] w fun e w' => e = .returned (.int .u8 x.toNat) ∧ w = w' := by
  have := mul_any x 1 w
  rwa [gmul_one] at this

theorem walk_AesProducts (a : Int) (wa : (Lit.int .u8 a).wf = true) (b : Int) (wb : (Lit.int .u8 b).wf = true) (w : World) :
    Calls Try.prog 4 #[.int .u8 a, .int .u8 b] w fun e w' => e = .returned (.bool true) ∧ Below w.heap.size w w' := by
  obtain ⟨x, rfl⟩ := byte_of wa
  obtain ⟨y, rfl⟩ := byte_of wb
  clear wa wb
  have hB := Below.refl w.heap.size w
  go_enter Try.func4, Try.ntmps4
  go_wp2_with (first
    | (go_at_call 31; refine (mul_any _ _ _).mono ?_; rintro e w' ⟨rfl, rfl⟩)
    | (go_at_call 32; refine (refmul_any _ _ _).mono ?_; rintro e w' ⟨rfl, rfl⟩)
    | (go_at_call 33; refine (known39 _).mono ?_; rintro e w' ⟨rfl, hb'⟩; replace hB := bnext hB hb'; clear hb'))
  go_ret
  exact ⟨rfl, hB⟩

theorem bits_xor_toNat (y z : UInt8) : bits .xor .u8 (y.toNat : Int) (z.toNat : Int) = ((x8 y z).toNat : Int) := bits_x8 y z
set_option maxRecDepth 100000 in
theorem walk_AesField (a : Int) (wa : (Lit.int .u8 a).wf = true) (b : Int) (wb : (Lit.int .u8 b).wf = true) (c : Int) (wc : (Lit.int .u8 c).wf = true) (w : World) :
    Calls Try.prog 5 #[.int .u8 a, .int .u8 b, .int .u8 c] w fun e w' => e = .returned (.bool true) ∧ Below w.heap.size w w' := by
  obtain ⟨x, rfl⟩ := byte_of wa
  obtain ⟨y, rfl⟩ := byte_of wb
  obtain ⟨z, rfl⟩ := byte_of wc
  clear wa wb wc
  have h1 : gmul y x = gmul x y := gmul_comm y x
  have h2 : gmul (gmul x y) z = gmul x (gmul y z) := (gmul_assoc x y z).symm
  have h3 : gmul x (x8 y z) = x8 (gmul x y) (gmul x z) := gmul_xor_right x y z
  have hx := bits_x8
  have hB := Below.refl w.heap.size w
  go_enter Try.func5, Try.ntmps5
  go_wp2_with (first
    | (go_at_call 31; first | (with_reducible refine (mul1_any _ _).mono ?_; rintro e w' ⟨rfl, rfl⟩) | (refine (mul_any _ _ _).mono ?_; rintro e w' ⟨rfl, rfl⟩))
    | (go_at_call 33; refine (known39 _).mono ?_; rintro e w' ⟨rfl, hb'⟩; replace hB := bnext hB hb'; clear hb'))
  go_ret
  exact ⟨rfl, hB⟩

set_option maxRecDepth 100000 in
theorem walk_AesBoxes (a : Int) (wa : (Lit.int .u8 a).wf = true) (w : World) :
    Calls Try.prog 6 #[.int .u8 a] w fun e w' => e = .returned (.bool true) ∧ Below w.heap.size w w' := by
  obtain ⟨x, rfl⟩ := byte_of wa
  clear wa
  have h1 := rsbox_eq
  have h2 := inbox_sbox
  have h3 := sbox_inbox
  have h4 : (((sbox x).toNat : Int) != (x.toNat : Int)) = true := by
    have := sbox_ne x
    simp only [bne_iff_ne, ne_eq, Int.natCast_inj]
    exact fun h => this (UInt8.toNat_inj.1 h)
  have hB := Below.refl w.heap.size w
  go_enter Try.func6, Try.ntmps6
  go_wp2_with (first
    | (go_at_call 34; refine (sbox_any _ _).mono ?_; rintro e w' ⟨rfl, hb'⟩; replace hB := bnext hB hb'; clear hb')
    | (go_at_call 35; refine (rsbox_any _ _).mono ?_; rintro e w' ⟨rfl, hb'⟩; replace hB := bnext hB hb'; clear hb')
    | (go_at_call 36; refine (inbox_any _ _).mono ?_; rintro e w' ⟨rfl, hb'⟩; replace hB := bnext hB hb'; clear hb')
    | (go_at_call 33; refine (known39 _).mono ?_; rintro e w' ⟨rfl, hb'⟩; replace hB := bnext hB hb'; clear hb'))
  go_ret
  exact ⟨rfl, hB⟩
end Go.Proofs.Ytdgmahgidmjniaa
