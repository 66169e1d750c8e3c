/-
  Fractions, walks: ranges of a row exchanged, rotated.
-/
import Derived.Test.YtdnpbemkobhlcaaRatE
namespace Go.Proofs.Ytdnpbemkobhlcaa
open Go.RowKit
attribute [-go_sem] Instr.build

set_option maxHeartbeats 1000000 in
theorem swap_any {r n : Nat} {w0 : World} (v : Value) (f : Nat → Nat) (a b k : Nat) (hab : a + k ≤ b) (hb : b + k ≤ n) (hn : n ≤ 1000) (A B K : Int) (hA : A = a) (hB : B = b) (hK : K = k) (w : World) (hk : SortAt r n w0 f w) :
    Calls Try.prog 72 #[.slice (some ⟨r, 0, none⟩) n n, .int .i64 A, .int .i64 B, .int .i64 K, v] w fun e w' => e = .returned (.tuple #[]) ∧ SortAt r n w0 (swp f a b k) w' := by
  subst hA hB hK
  go_enter Try.func72, Try.ntmps72
  go_wp2
  go_loopw [10] (fun v wr => ∃ i : Nat, v = .int .i64 i ∧ i ≤ k ∧ SortAt r n w0 (swp f a b i) wr) (fun v _ => k - (intOf v).toNat)
  case atStart => exact ⟨0, rfl, by omega, by rw [swp_zero]; exact hk⟩
  case round =>
    clear hk
    obtain ⟨i, rfl, hik, hk⟩ := hrel
    by_cases hlt : i < k
    · have e1 := swp_left f a b i k hab hlt
      have e2 := swp_right f a b i k hab hlt
      have e3 := swp_succ f a b i k hab hlt
      have c1 := hk.row.row (a + i) (by omega)
      have c2 := hk.row.row (b + i) (by omega)
      have f1 := hk.row.frozen (a + i)
      have f2 := hk.row.frozen (b + i)
      rw [e1] at c1
      rw [e2] at c2
      generalize hF : swp f a b i = F at *
      generalize f (a + i) = x at *
      generalize f (b + i) = y at *
      have i1 : (0 : Int) ≤ (a : Int) + i := by omega
      have i2 : (a : Int) + i < (n : Int) := by omega
      have i3 : (0 : Int) ≤ (b : Int) + i := by omega
      have i4 : (b : Int) + i < (n : Int) := by omega
      have i5 : IntKind.i64.wrap ((a : Int) + i) = (a : Int) + i := IntWalk.i64_in _ (by omega)
      have i6 : IntKind.i64.wrap ((b : Int) + i) = (b : Int) + i := IntWalk.i64_in _ (by omega)
      have i7 : ((a : Int) + i).toNat = a + i := by omega
      have i8 : ((b : Int) + i).toNat = b + i := by omega
      replace e3 := Lib.hid e3
      clear hF e1 e2
      go_wp2
      go_region
      have hks := (hk.swap (a + i) (b + i) y x).drew
      rw [e3.out] at hks
      go_wp2
      exact ⟨⟨i + 1, by go_num, by omega, hks⟩, by simp [intOf]; omega⟩
    · obtain rfl : i = k := by omega
      go_wp2
      go_end0
      exact ⟨rfl, hk⟩
set_option maxHeartbeats 1000000 in
theorem rotate_any {r n : Nat} {w0 : World} (v : Value) (f : Nat → Nat) (a m b : Nat) (ham : a < m) (hmb : m < b) (hb : b ≤ n) (hn : n ≤ 1000) (A M B : Int) (hA : A = a) (hM : M = m) (hB : B = b) (w : World) (hk : SortAt r n w0 f w) :
    Calls Try.prog 71 #[.slice (some ⟨r, 0, none⟩) n n, .int .i64 A, .int .i64 M, .int .i64 B, v] w fun e w' => e = .returned (.tuple #[]) ∧ SortAt r n w0 (rot f a m b) w' := by
  subst hA hM hB
  go_enter Try.func71, Try.ntmps71
  go_wp2
  go_loopw [10, 11] (fun u v wr => ∃ (i j : Nat) (g : Nat → Nat), u = .int .i64 i ∧ v = .int .i64 j ∧ 0 < i ∧ i ≤ m ∧ 0 < j ∧ m + j ≤ n ∧ rot g (m - i) m (m + j) = rot f a m b ∧ SortAt r n w0 g wr) (fun u v _ => (intOf u).toNat + (intOf v).toNat)
  case atStart => exact ⟨m - a, b - m, f, by go_num, by go_num, by omega, by omega, by omega, by omega, by rw [show m - (m - a) = a by omega, show m + (b - m) = b by omega], hk⟩
  case round =>
    clear hk
    obtain ⟨i, j, g, rfl, rfl, hi, him, hj, hjn, hr, hk⟩ := hrel
    by_cases c1 : i = j
    · subst c1
      have e := rot_eq g m i him
      rw [hr] at e
      have h0 : ((i : Int) != i) = false := by simp
      replace e := Lib.hid e
      clear hr
      go_wp2_with (go_at_call 72; (with_reducible refine (swap_any _ g (m - i) m i ?_ ?_ hn _ _ _ ?_ rfl rfl _ hk).mono ?_); (omega); (omega); (omega); rintro e w1 ⟨rfl, hw⟩)
      go_end0
      rw [e.out] at hw
      exact ⟨rfl, hw⟩
    · have h0 : ((i : Int) != j) = true := by simp; omega
      by_cases c2 : j < i
      · have e := rot_gt g m i j him c2
        rw [hr] at e
        replace e := Lib.hid e
        clear hr
        go_wp2_with (go_at_call 72; (with_reducible refine (swap_any _ g (m - i) m j ?_ ?_ hn _ _ _ ?_ rfl rfl _ hk).mono ?_); (omega); (omega); (omega); rintro e w1 ⟨rfl, hw⟩)
        exact ⟨⟨i - j, j, _, by go_num, rfl, by omega, by omega, hj, hjn, by rw [← e.out, show m - (i - j) = m - i + j by omega], hw⟩, by simp [intOf]; omega⟩
      · have e := rot_lt g m i j him (by omega)
        rw [hr] at e
        replace e := Lib.hid e
        clear hr
        go_wp2_with (go_at_call 72; (with_reducible refine (swap_any _ g (m - i) (m + j - i) i ?_ ?_ hn _ _ _ ?_ ?_ rfl _ hk).mono ?_); (omega); (omega); (omega); (omega); rintro e w1 ⟨rfl, hw⟩)
        exact ⟨⟨i, j - i, _, rfl, by go_num, hi, him, by omega, by omega, by rw [← e.out, show m + (j - i) = m + j - i by omega], hw⟩, by simp [intOf]; omega⟩
end Go.Proofs.Ytdnpbemkobhlcaa
