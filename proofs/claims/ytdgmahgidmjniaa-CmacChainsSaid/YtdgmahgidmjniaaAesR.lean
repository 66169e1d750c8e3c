/-
  AES, the walk of the reference's product.
-/
import Derived.Test.YtdgmahgidmjniaaAes1
import Derived.Laws.BitsAllLaws
import Derived.Laws.BitsLemmas
namespace Go.Proofs.Ytdgmahgidmjniaa
open Go.RowKit

theorem i64_wrap62 (n : Int) (h0 : 0 ≤ n) (h1 : n < 2 ^ 62) : IntKind.i64.wrap n = n := by
  have : (2:Int)^62 = 4611686018427387904 := by decide
  rw [IntKind.wrap_i64]
  omega
theorem i64_xor_nat (a b : Nat) (ha : a < 65536) (hb : b < 65536) : bits .xor .i64 (a : Int) (b : Int) = ((a ^^^ b : Nat) : Int) := by
  have hz : a ^^^ b < 2 ^ 16 := Nat.xor_lt_two_pow ha hb
  have e : 2 ^ IntKind.i64.bits = 18446744073709551616 := rfl
  simp [bits]
  rw [e, Nat.mod_eq_of_lt (by omega), Nat.mod_eq_of_lt (by omega)]
  exact i64_wrap62 _ (by omega) (by omega)
theorem i64_and1_nat (a : Nat) (ha : a < 65536) : bits .and .i64 (a : Int) 1 = ((a % 2 : Nat) : Int) := by
  have := bits_nat .i64 62 (by decide) i64_wrap62 a 1 (by omega) (by omega)
  have h := this.1
  rw [Nat.and_one_is_mod] at h
  exact h
theorem u8_and1_nat (a : Nat) (ha : a < 256) : bits .and .u8 (a : Int) 1 = ((a % 2 : Nat) : Int) := by
  have h := u8_and_nat a 1 ha (by omega)
  rw [Nat.and_one_is_mod] at h
  exact h

theorem r1_lt (a b k : Nat) (ha : a < 256) (hk : k ≤ 8) : r1 a b k < 2 ^ 15 := by
  induction k with
  | zero => simp [r1]
  | succ k ih =>
    have h := ih (by omega)
    have : a * 2 ^ k < 2 ^ 15 := by
      have h2 : 2 ^ k ≤ 2 ^ 7 := Nat.pow_le_pow_right (by omega) (by omega)
      calc a * 2 ^ k ≤ 255 * 2 ^ 7 := Nat.mul_le_mul (by omega) h2
        _ < 2 ^ 15 := by decide
    unfold r1
    split
    · exact Nat.xor_lt_two_pow h this
    · exact h
theorem r2_lt (p j : Nat) (hp : p < 2 ^ 15) : r2 p j < 2 ^ 15 := by
  induction j with
  | zero => exact hp
  | succ j ih =>
    have : 283 * 2 ^ (6 - j) < 2 ^ 15 := by
      have h2 : 2 ^ (6 - j) ≤ 2 ^ 6 := Nat.pow_le_pow_right (by omega) (by omega)
      calc 283 * 2 ^ (6 - j) ≤ 283 * 2 ^ 6 := Nat.mul_le_mul (by omega) h2
        _ < 2 ^ 15 := by decide
    unfold r2
    split
    · exact Nat.xor_lt_two_pow ih this
    · exact ih

theorem refmul_any (a b : UInt8) (w : World) :
    Calls Try.prog 32 #[.int .u8 a.toNat, .int .u8 b.toNat] w fun e w' => e = .returned (.int .u8 (gmul a b).toNat) ∧ w = w' := by
  rw [← rmul_eq]
  have ha := lt256 a
  have hb := lt256 b
  go_enter Try.func32, Try.ntmps32
  go_wp2
  go_loop [5, 6] (fun t5 t6 => ∃ k : Nat, k ≤ 8 ∧ t5 = .int .i64 (r1 a.toNat b.toNat k) ∧ t6 = .int .i64 k) (fun _ i => 8 - (intOf i).toNat)
  case atStart => exact ⟨0, by omega, rfl, rfl⟩
  case round =>
    obtain ⟨k, hk, rfl, rfl⟩ := hrel
    have hr := r1_lt a.toNat b.toNat k ha hk
    by_cases hlt : k < 8
    · have hx : bits .and .u8 ((b.toNat : Int) / (2 : Int) ^ k) 1 = ((b.toNat / 2 ^ k % 2 : Nat) : Int) := by
        have := u8_and1_nat (b.toNat / 2 ^ k) (Nat.lt_of_le_of_lt (Nat.div_le_self _ _) hb)
        rw [← this]; norm_cast
      have hy : bits .xor .i64 (r1 a.toNat b.toNat k) (wrap64 ((a.toNat : Int) * (2 : Int) ^ k)) = ((r1 a.toNat b.toNat k ^^^ (a.toNat * 2 ^ k) : Nat) : Int) := by
        have h3 : a.toNat * 2 ^ k < 65536 := by
          have h2 : 2 ^ k ≤ 2 ^ 7 := Nat.pow_le_pow_right (by omega) (by omega)
          calc a.toNat * 2 ^ k ≤ 255 * 2 ^ 7 := Nat.mul_le_mul (by omega) h2
            _ < 65536 := by decide
        have e : wrap64 ((a.toNat : Int) * (2 : Int) ^ k) = ((a.toNat * 2 ^ k : Nat) : Int) := by
          have e1 : (a.toNat : Int) * (2 : Int) ^ k = ((a.toNat * 2 ^ k : Nat) : Int) := by push_cast; rfl
          rw [e1]
          exact IntWalk.wrap64_in _ (by constructor <;> omega)
        rw [e]
        exact i64_xor_nat _ _ (by omega) h3
      by_cases hbit : b.toNat / 2 ^ k % 2 = 1
      · have H : Hid (r1 a.toNat b.toNat (k + 1) = r1 a.toNat b.toNat k ^^^ (a.toNat * 2 ^ k)) := by show _ = _; rw [r1, if_pos hbit]
        have Hb := Lib.hid hbit
        have ht : (bits .and .u8 ((b.toNat : Int) / (2 : Int) ^ k) 1 == 1) = true := by rw [hx, hbit]; rfl
        clear hx hbit
        go_wp2
        go_round
        case rel => exact ⟨k + 1, by omega, by rw [H.out], by go_num⟩
        case measure => simp [intOf]; omega
      · have H : Hid (r1 a.toNat b.toNat (k + 1) = r1 a.toNat b.toNat k) := by show _ = _; rw [r1, if_neg hbit]
        have ht : (bits .and .u8 ((b.toNat : Int) / (2 : Int) ^ k) 1 == 1) = false := by rw [hx, show b.toNat / 2 ^ k % 2 = 0 from by omega]; rfl
        clear hx hbit
        go_wp2
        go_round
        case rel => exact ⟨k + 1, by omega, by rw [H.out], by go_num⟩
        case measure => simp [intOf]; omega
    · obtain rfl : k = 8 := by omega
      clear hlt hk
      go_wp2
      go_loop [5, 7] (fun t5 t7 => ∃ j : Nat, j ≤ 7 ∧ t5 = .int .i64 (r2 (r1 a.toNat b.toNat 8) j) ∧ t7 = .int .i64 (14 - (j : Int))) (fun _ i => (intOf i).toNat)
      case atStart => exact ⟨0, by omega, rfl, rfl⟩
      case round =>
        obtain ⟨j, hj, rfl, rfl⟩ := hrel
        have hr2 := r2_lt _ j hr
        by_cases hlt : j < 7
        · have hx : bits .and .i64 ((r2 (r1 a.toNat b.toNat 8) j : Int) / (2 : Int) ^ (14 - j)) 1 = ((r2 (r1 a.toNat b.toNat 8) j / 2 ^ (14 - j) % 2 : Nat) : Int) := by
            have := i64_and1_nat (r2 (r1 a.toNat b.toNat 8) j / 2 ^ (14 - j)) (Nat.lt_of_le_of_lt (Nat.div_le_self _ _) (by omega))
            rw [← this]; norm_cast
          have hy : bits .xor .i64 (r2 (r1 a.toNat b.toNat 8) j) (wrap64 ((283 : Int) * (2 : Int) ^ (14 - j - 8))) = ((r2 (r1 a.toNat b.toNat 8) j ^^^ (283 * 2 ^ (6 - j)) : Nat) : Int) := by
            have h3 : 283 * 2 ^ (6 - j) < 65536 := by
              have h2 : 2 ^ (6 - j) ≤ 2 ^ 6 := Nat.pow_le_pow_right (by omega) (by omega)
              calc 283 * 2 ^ (6 - j) ≤ 283 * 2 ^ 6 := Nat.mul_le_mul (by omega) h2
                _ < 65536 := by decide
            have e : wrap64 ((283 : Int) * (2 : Int) ^ (14 - j - 8)) = ((283 * 2 ^ (6 - j) : Nat) : Int) := by
              have e1 : (283 : Int) * (2 : Int) ^ (14 - j - 8) = ((283 * 2 ^ (6 - j) : Nat) : Int) := by rw [show 14 - j - 8 = 6 - j from by omega]; rw [Int.natCast_mul, Int.natCast_pow]; rfl
              rw [e1]
              exact IntWalk.wrap64_in _ (by constructor <;> omega)
            rw [e]
            exact i64_xor_nat _ _ (by omega) h3
          by_cases hbit : r2 (r1 a.toNat b.toNat 8) j / 2 ^ (14 - j) % 2 = 1
          · have H : Hid (r2 (r1 a.toNat b.toNat 8) (j + 1) = r2 (r1 a.toNat b.toNat 8) j ^^^ (283 * 2 ^ (6 - j))) := by show _ = _; rw [r2, if_pos hbit]
            have ht : (bits .and .i64 ((r2 (r1 a.toNat b.toNat 8) j : Int) / (2 : Int) ^ (14 - j)) 1 == 1) = true := by rw [hx, hbit]; rfl
            clear hx hbit
            go_wp2
            go_round
            case rel => exact ⟨j + 1, by omega, by rw [H.out], by rw [show ((j + 1 : Nat) : Int) = (j : Int) + 1 from by omega]; congr 1; omega⟩
            case measure => simp [intOf]; omega
          · have H : Hid (r2 (r1 a.toNat b.toNat 8) (j + 1) = r2 (r1 a.toNat b.toNat 8) j) := by show _ = _; rw [r2, if_neg hbit]
            have ht : (bits .and .i64 ((r2 (r1 a.toNat b.toNat 8) j : Int) / (2 : Int) ^ (14 - j)) 1 == 1) = false := by rw [hx, show r2 (r1 a.toNat b.toNat 8) j / 2 ^ (14 - j) % 2 = 0 from by omega]; rfl
            clear hx hbit
            go_wp2
            go_round
            case rel => exact ⟨j + 1, by omega, by rw [H.out], by rw [show ((j + 1 : Nat) : Int) = (j : Int) + 1 from by omega]; congr 1; omega⟩
            case measure => simp [intOf]; omega
        · obtain rfl : j = 7 := by omega
          go_wp2
          go_ret
          exact ⟨by rw [show (rmul a b).toNat = r2 (r1 a.toNat b.toNat 8) 7 % 256 from by rw [rmul, UInt8.toNat_ofNat_of_lt' (Nat.mod_lt _ (by decide))]]; rfl, rfl⟩
end Go.Proofs.Ytdgmahgidmjniaa
