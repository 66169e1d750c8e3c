/-
  Bit strings, walks: Uint.
-/
import Derived.Test.YtflmbghbgmkdeaaBitC
set_option linter.unusedSimpArgs false
set_option linter.unusedVariables false
namespace Go.Proofs.Ytflmbghbgmkdeaa
open Go.RowKit

theorem uint_err (l : List UInt8) (v : Value) (w : World) (hv : Bsl w v l) (hlen : l.length ≤ 10000) (hok : okb l = false) :
    Calls Try.prog 13 #[v] w fun e w' => e = .returned (.tuple #[.int .u64 0, .int .i64 3]) ∧ Below w.heap.size w w' := by
  have hv1 := hv.below ((Below.refl w.heap.size w).alloc (Nat.le_refl _) (.cells #[v] 23))
  obtain ⟨a, cap, rfl, h1, h2, h3, h4⟩ := hv
  clear h2 h3 h4
  go_enter Try.func13, Try.ntmps13
  go_wp2
  refine wp_scope_jumps 0 (fun a' w' => a' = { tmps := #[.slice a l.length cap, undef, .int .u64 0, .int .i64 3, undef, undef, .slice a l.length cap, .slice (some ⟨w.heap.size, 0, none⟩) 1 1, .bool false, .bool true, undef, undef, undef, undef, undef, undef, undef, undef, undef, undef, undef, undef, undef, undef, undef, undef, undef], defers := [] } ∧ Below w.heap.size w w') (fun _ _ => 0) rfl ?_ ?_
  · go_wp2_with (go_at_call 34; (with_reducible refine (valid1 l _ _ _ _ (Blk.new' rfl) hv1 ?_).mono ?_); (omega); rintro e w' ⟨rfl, hw⟩; subst w'; rw [hok])
    go_step3
    exact ⟨rfl, rfl, (Below.refl _ _).alloc (Nat.le_refl _) _⟩
  · rintro a1 w1 ⟨rfl, hB⟩
    go_wp2
    simp only [Exit.jump]
    go_ret2
    exact ⟨rfl, hB⟩

theorem or_u64 (x y n i : Nat) (hx : ∃ k, x = 2 ^ i * k) (hy : y < 2 ^ i) (hn : n = x + y) (h : n < 2 ^ 64) (X Y : Int) (hX : X = x) (hY : Y = y) : bits .or .u64 X Y = (n : Int) := by
  have key : ∀ p q : Nat, p < 2 ^ 64 → q < 2 ^ 64 → bits .or .u64 (p : Int) (q : Int) = IntKind.u64.wrap ((p ||| q : Nat) : Int) := by
    intro p q hp hq
    simp only [bits, BitVec.toNat_or, BitVec.toNat_ofInt]
    have e : ((2 ^ IntKind.u64.bits : Nat) : Int) = ((2 ^ 64 : Nat) : Int) := rfl
    rw [e, ← Int.natCast_emod, ← Int.natCast_emod, Nat.mod_eq_of_lt hp, Nat.mod_eq_of_lt hq]
    rfl
  obtain ⟨k, rfl⟩ := hx
  subst hX hY hn
  rw [key _ _ (by omega) (by omega), ← Nat.two_pow_add_eq_or_of_lt hy]
  exact IntWalk.u64_in _ (by omega)
set_option maxRecDepth 100000 in
set_option maxHeartbeats 4000000 in
theorem wrap_u64 (n : Nat) (h : n < 2 ^ 64) : IntKind.u64.wrap (n : Int) = n := by
  have h' : n < 18446744073709551616 := h
  simp [IntKind.wrap, IntKind.bits, IntKind.signed]
  omega
theorem or_step (V x : Nat) (hV : V < 2 ^ 63) (hx : x < 2) : bits .or .u64 (IntKind.u64.wrap ((V : Int) * 2)) (x : Int) = ((2 * V + x : Nat) : Int) := by
  have h2 : 2 * V < 2 ^ 64 := by rw [show (2 : Nat) ^ 64 = 2 * 2 ^ 63 from rfl]; omega
  have e : (V : Int) * 2 = ((2 * V : Nat) : Int) := by omega
  rw [e, wrap_u64 _ h2]
  exact or_u64 (2 * V) x (2 * V + x) 1 ⟨V, by omega⟩ (by omega) rfl (by have : (2 : Nat) ^ 64 = 2 * 2 ^ 63 := rfl; omega) _ _ rfl rfl
set_option maxHeartbeats 400000 in
theorem uint_ok (l : List UInt8) (v : Value) (w : World) (hv : Bsl w v l) (hlen : l.length ≤ 64) (hok : okb l = true) :
    Calls Try.prog 13 #[v] w fun e w' => e = .returned (.tuple #[.int .u64 (uintL l), .int .i64 0]) ∧ Below w.heap.size w w' := by
  have hB1 := (Below.refl w.heap.size w).alloc (Nat.le_refl _) (.cells #[v] 23)
  have hv1 := hv.below hB1
  obtain ⟨a, cap, rfl, h1, h2, h3, h4⟩ := hv
  have HOK := Lib.hid hok
  clear h2 h3 hok
  go_enter Try.func13, Try.ntmps13
  go_wp2
  go_step3
  go_wp2_with (go_at_call 34; (with_reducible refine (valid1 l _ _ _ _ (Blk.new' rfl) hv1 ?_).mono ?_); (omega); rintro e w' ⟨rfl, hw⟩; subst w'; rw [HOK.out])
  go_loopw [2, 15] (fun c t wr => ∃ k : Nat, k ≤ l.length ∧ t = .int .i64 k ∧ c = .int .u64 (uintL (l.take k)) ∧ Below w.heap.size w wr) (fun _ t _ => l.length - (intOf t).toNat)
  case atStart => exact ⟨0, by omega, rfl, rfl, hB1⟩
  case round =>
    obtain ⟨k, hk, rfl, rfl, hB⟩ := hrel
    by_cases hlt : k < l.length
    · obtain ⟨b, o, rfl, hbl, hc⟩ := h4 (by omega)
      have c0 := (hB.cell (p := ⟨b, o + k, none⟩) hbl).trans (hc k hlt)
      have hu := uintL_take l k hlt
      have hbit := okb_get l HOK.out k
      obtain ⟨x, hx⟩ : ∃ x, x = (gd l k).toNat := ⟨_, rfl⟩
      rw [← hx] at c0 hu hbit
      obtain ⟨V, hV⟩ : ∃ x, x = uintL (l.take k) := ⟨_, rfl⟩
      rw [← hV] at hu ⊢
      have HU := Lib.hid hu
      clear hu hx hc
      have hlt63 : uintL (l.take k) < 2 ^ 63 := by
        have h := uintL_lt (l.take k) (okb_take l k (fun i _ => okb_get l HOK.out i))
        have h2 : (l.take k).length ≤ 63 := by simp; omega
        exact Nat.lt_of_lt_of_le h (Nat.pow_le_pow_right (by decide) h2)
      rw [← hV] at hlt63
      have HOS := Lib.hid (or_step V x hlt63 hbit)
      clear hlt63 hV
      go_wp2
      exact ⟨⟨k + 1, by omega, by go_num, by rw [HU.out, HOS.out], hB⟩, by simp [intOf]; omega⟩
    · obtain rfl : k = l.length := by omega
      rw [List.take_length]
      go_wp2
      rw [Exit.noGoto_ret]
      go_ret2
      exact ⟨rfl, hB⟩
end Go.Proofs.Ytflmbghbgmkdeaa
