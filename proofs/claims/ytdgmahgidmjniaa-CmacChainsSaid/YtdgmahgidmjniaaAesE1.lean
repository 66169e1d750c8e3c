/-
  AES, encryption: the closures.
-/
import Derived.Test.YtdgmahgidmjniaaKeysW
namespace Go.Proofs.Ytdgmahgidmjniaa
open Go.RowKit

/-- The cells of a cipher: the boxes, the round keys. -/
def cip (K : List UInt8) : List UInt8 := stF 255 ++ K
def addG (K : List UInt8) (n i : Nat) (x : UInt8) : UInt8 := x8 x (gd K (n * 16 + i))
def shG (l : List UInt8) (m i : Nat) : UInt8 := gd l ((i + m * (i % 4)) % 16)
def mixS (f l : List UInt8) (i : Nat) : Nat → UInt8
  | 0 => 0
  | k + 1 => x8 (mixS f l i k) (gmul (gd f k) (gd l (i / 4 * 4 + (i + k) % 4)))

set_option maxRecDepth 100000 in
theorem add1_any (K : List UInt8) (hK : K.length = 176) (n i : Nat) (hn : n ≤ 10) (hi : i < 16) (x : UInt8) (b1 b2 bC : Nat) (w : World)
    (c1 : w.cell? ⟨b1, 0, none⟩ = some (.pointer (some ⟨bC, 0, none⟩))) (c2 : w.cell? ⟨b2, 0, none⟩ = some (.int .i64 n)) (hC : Blk w bC (bytesV (cip K)) 59) :
    Calls Try.prog 79 #[.int .i64 i, .int .u8 x.toNat, .pointer (some ⟨b1, 0, none⟩), .pointer (some ⟨b2, 0, none⟩)] w (Drawn (.int .u8 (addG K n i x).toNat) w) := by
  have c3 : w.cell? ⟨bC, 512 + n * 16 + i, none⟩ = some (.int .u8 (gd K (n * 16 + i)).toNat) := by
    rw [hC.gd _ (by rw [cip, List.length_append, stF_length, hK]; omega), cip, gd_append_right _ _ _ (by rw [stF_length]; omega), stF_length]
    congr 5; omega
  have h1 : (n : Int) < 11 := by omega
  have h2 : (i : Int) < 16 := by omega
  have hx := bits_x8
  clear hC
  go_enter Try.func79, Try.ntmps79
  go_wp2_with fail
  go_still_tail 10, (by kernel_rfl)
  change wpList _ _ _ _ _ w.drew
  go_wp2
  go_ret
  exact ⟨rfl, 1, rfl⟩

set_option maxRecDepth 100000 in
theorem sub1_any (K : List UInt8) (i : Int) (x : UInt8) (b1 bC : Nat) (w : World)
    (c1 : w.cell? ⟨b1, 0, none⟩ = some (.pointer (some ⟨bC, 0, none⟩))) (hC : Blk w bC (bytesV (cip K)) 59) :
    Calls Try.prog 80 #[.int .i64 i, .int .u8 x.toNat, .pointer (some ⟨b1, 0, none⟩)] w (Drawn (.int .u8 (sbox x).toNat) w) := by
  have h := lt256 x
  have c3 : w.cell? ⟨bC, x.toNat, none⟩ = some (.int .u8 (sbox x).toNat) := by
    rw [hC.gd _ (by rw [cip, List.length_append, stF_length]; omega), cip, gd_append_left _ _ _ (by rw [stF_length]; omega)]
    rfl
  clear hC
  go_enter Try.func80, Try.ntmps80
  go_wp2
  go_ret
  exact ⟨rfl, 0, rfl⟩
set_option maxRecDepth 100000 in
theorem unsub1_any (K : List UInt8) (i : Int) (x : UInt8) (b1 bC : Nat) (w : World)
    (c1 : w.cell? ⟨b1, 0, none⟩ = some (.pointer (some ⟨bC, 0, none⟩))) (hC : Blk w bC (bytesV (cip K)) 59) :
    Calls Try.prog 84 #[.int .i64 i, .int .u8 x.toNat, .pointer (some ⟨b1, 0, none⟩)] w (Drawn (.int .u8 (inbox x).toNat) w) := by
  have h := lt256 x
  have c3 : w.cell? ⟨bC, 256 + x.toNat, none⟩ = some (.int .u8 (inbox x).toNat) := by
    rw [hC.gd _ (by rw [cip, List.length_append, stF_length]; omega), cip, gd_append_left _ _ _ (by rw [stF_length]; omega)]
    rfl
  clear hC
  go_enter Try.func84, Try.ntmps84
  go_wp2
  go_ret
  exact ⟨rfl, 0, rfl⟩
set_option maxRecDepth 100000 in
theorem shift1_any (l : List UInt8) (hl : l.length = 16) (i : Nat) (hi : i < 16) (x : UInt8) (b1 : Nat) (w : World) (hb : Blk w b1 (bytesV l) 56) :
    Calls Try.prog 81 #[.int .i64 i, .int .u8 x.toNat, .pointer (some ⟨b1, 0, none⟩)] w (Drawn (.int .u8 (shG l 4 i).toNat) w) := by
  obtain ⟨r, hr⟩ : ∃ r, r = (i + 4 * (i % 4)) % 16 := ⟨_, rfl⟩
  have c3 : w.cell? ⟨b1, r, none⟩ = some (.int .u8 (shG l 4 i).toNat) := by
    rw [hb.gd _ (by omega), shG, hr]
  have k1 : (i : Int).tmod 4 = ((i % 4 : Nat) : Int) := by rw [Int.tmod_eq_emod_of_nonneg (by omega)]; omega
  have k2 : IntKind.i64.wrap (4 * ((i % 4 : Nat) : Int)) = 4 * ((i % 4 : Nat) : Int) := IntWalk.i64_in _ (by omega)
  have k3 : IntKind.i64.wrap ((i : Int) + 4 * ((i % 4 : Nat) : Int)) = (i : Int) + 4 * ((i % 4 : Nat) : Int) := IntWalk.i64_in _ (by omega)
  have k4 : ((i : Int) + 4 * ((i % 4 : Nat) : Int)).tmod 16 = (r : Int) := by rw [Int.tmod_eq_emod_of_nonneg (by omega)]; omega
  have k5 : (r : Int) < 16 := by omega
  clear hb
  obtain ⟨q, hq⟩ : ∃ q, q = i % 4 := ⟨_, rfl⟩
  rw [← hq] at k1 k2 k3 k4
  clear hq hr
  go_enter Try.func81, Try.ntmps81
  go_wp2
  go_ret
  exact ⟨rfl, 0, rfl⟩
set_option maxRecDepth 100000 in
theorem unshift1_any (l : List UInt8) (hl : l.length = 16) (i : Nat) (hi : i < 16) (x : UInt8) (b1 : Nat) (w : World) (hb : Blk w b1 (bytesV l) 56) :
    Calls Try.prog 83 #[.int .i64 i, .int .u8 x.toNat, .pointer (some ⟨b1, 0, none⟩)] w (Drawn (.int .u8 (shG l 12 i).toNat) w) := by
  obtain ⟨r, hr⟩ : ∃ r, r = (i + 12 * (i % 4)) % 16 := ⟨_, rfl⟩
  have c3 : w.cell? ⟨b1, r, none⟩ = some (.int .u8 (shG l 12 i).toNat) := by
    rw [hb.gd _ (by omega), shG, hr]
  have k1 : (i : Int).tmod 4 = ((i % 4 : Nat) : Int) := by rw [Int.tmod_eq_emod_of_nonneg (by omega)]; omega
  have k2 : IntKind.i64.wrap (12 * ((i % 4 : Nat) : Int)) = 12 * ((i % 4 : Nat) : Int) := IntWalk.i64_in _ (by omega)
  have k3 : IntKind.i64.wrap ((i : Int) + 12 * ((i % 4 : Nat) : Int)) = (i : Int) + 12 * ((i % 4 : Nat) : Int) := IntWalk.i64_in _ (by omega)
  have k4 : ((i : Int) + 12 * ((i % 4 : Nat) : Int)).tmod 16 = (r : Int) := by rw [Int.tmod_eq_emod_of_nonneg (by omega)]; omega
  have k5 : (r : Int) < 16 := by omega
  clear hb
  obtain ⟨q, hq⟩ : ∃ q, q = i % 4 := ⟨_, rfl⟩
  rw [← hq] at k1 k2 k3 k4
  clear hq hr
  go_enter Try.func83, Try.ntmps83
  go_wp2
  go_ret
  exact ⟨rfl, 0, rfl⟩

set_option maxRecDepth 100000 in
theorem mixed1_any (l f : List UInt8) (hl : l.length = 16) (hf : f.length = 4) (i : Nat) (hi : i < 16) (x : UInt8) (b1 b2 : Nat) (w : World) (hb : Blk w b2 (bytesV l) 56) (hb1 : Blk w b1 (bytesV f) 89) :
    Calls Try.prog 90 #[.int .i64 i, .int .u8 x.toNat, .pointer (some ⟨b1, 0, none⟩), .pointer (some ⟨b2, 0, none⟩)] w (Drawn (.int .u8 (mixS f l i 4).toNat) w) := by
  have hx := bits_x8
  obtain ⟨V, hV⟩ : ∃ V, V = bytesV f := ⟨_, rfl⟩
  have hix : ∀ (k : Nat) (w : World), k < 4 → (Instr.index 89 (.agg V) (.int .i64 k)).run Try.prog w = .ok (.int .u8 (gd f k).toNat) w := fun k w hk => by
    rw [hV]; exact run_index_agg Try.underlying89 Try.underlying5 (by kernel_rfl) _ _ _ k rfl hk _ (by rw [bytesV_gd _ _ (by omega)]) _
  have hV' := Lib.hid hV
  clear hV
  go_enter Try.func90, Try.ntmps90
  go_wp2_with (first
    | ((with_reducible refine wpList_load_blk rfl 89 (.tmp 2) rfl b1 0 4 rfl hb1 row89 ?_ V ?_ ?_); (rw [bytesV_size, hf]; exact Nat.le_refl _); (rw [bytesV_whole _ _ hf, hV'.out])))
  clear hb1
  go_loop [6, 10] (fun t6 t10 => ∃ k : Nat, k ≤ 4 ∧ t6 = .int .u8 (mixS f l i k).toNat ∧ t10 = .int .i64 k) (fun _ t => 4 - (intOf t).toNat)
  case atStart => exact ⟨0, by omega, rfl, rfl⟩
  case round =>
    obtain ⟨k, hk, rfl, rfl⟩ := hrel
    by_cases hlt : k < 4
    · have hi2 := hix k w hlt
      obtain ⟨q, hq⟩ : ∃ q, q = i / 4 := ⟨_, rfl⟩
      obtain ⟨r, hr⟩ : ∃ r, r = (i + k) % 4 := ⟨_, rfl⟩
      have k1 : (i : Int).tdiv 4 = (q : Int) := by rw [Int.tdiv_eq_ediv_of_nonneg (by omega)]; omega
      have k0 : IntKind.i64.wrap (q : Int) = (q : Int) := IntWalk.i64_in _ (by omega)
      have k2 : IntKind.i64.wrap ((q : Int) * 4) = (q : Int) * 4 := IntWalk.i64_in _ (by omega)
      have k3 : IntKind.i64.wrap ((i : Int) + (k : Int)) = (i : Int) + (k : Int) := IntWalk.i64_in _ (by omega)
      have k4 : ((i : Int) + (k : Int)).tmod 4 = (r : Int) := by rw [Int.tmod_eq_emod_of_nonneg (by omega)]; omega
      have k5 : IntKind.i64.wrap ((q : Int) * 4 + (r : Int)) = (q : Int) * 4 + (r : Int) := IntWalk.i64_in _ (by omega)
      have k6 : (q : Int) * 4 + (r : Int) < 16 := by omega
      have k7 : ((q : Int) * 4 + (r : Int)).toNat = q * 4 + r := by omega
      have k8 : (0 : Int) ≤ (q : Int) * 4 + (r : Int) := by omega
      have c3 := hb.gd (q * 4 + r) (by omega)
      have hst : mixS f l i (k + 1) = x8 (mixS f l i k) (gmul (gd f k) (gd l (q * 4 + r))) := by rw [hq, hr]; rfl
      have Hq := Lib.hid hq
      have Hr := Lib.hid hr
      clear hq hr
      go_wp2_with (first
        | (go_at_call 31; with_reducible refine (mul_any _ _ _).mono ?_; rintro e w' ⟨rfl, rfl⟩))
      exact ⟨⟨k + 1, by omega, by rw [hst], by go_num⟩, by simp [intOf]; omega⟩
    · obtain rfl : k = 4 := by omega
      go_wp2
      go_ret
      exact ⟨rfl, 0, rfl⟩
end Go.Proofs.Ytdgmahgidmjniaa
