/-
  Bit strings, walks: a slice made by a function; the functions it is made by.
-/
import Derived.Test.YtflmbghbgmkdeaaBitA
set_option linter.unusedSimpArgs false
set_option linter.unusedVariables false
namespace Go.Proofs.Ytflmbghbgmkdeaa
open Go.RowKit

theorem info5 : (Try.prog.info? 5).map (fun i => (i.zero, i.size, i.bytes)) = some (some (.int .u8 0), 1, 1) := by kernel_rfl

set_option maxHeartbeats 1000000 in
theorem made33 (f : Nat → UInt8) (n : Nat) (hn : n ≤ 10000) (c0 c1 : Nat) (w : World)
    (hcall : ∀ (k : Nat) (w' : World), k < n → Below w.heap.size w w' → Calls Try.prog 33 #[.int .i64 k, .pointer (some ⟨c0, 0, none⟩), .pointer (some ⟨c1, 0, none⟩)] w' fun e w'' => e = .returned (.int .u8 (f k).toNat) ∧ Below w'.heap.size w' w'') :
    Calls Try.prog 32 #[.int .i64 n, .func (.func 33) #[] #[.pointer (some ⟨c0, 0, none⟩), .pointer (some ⟨c1, 0, none⟩)]] w fun e w' => ∃ v, e = .returned v ∧ Bsl w' v ((List.range n).map f) ∧ Below w.heap.size w w' := by
  obtain ⟨i0, hi, hz0, hz1, hz2⟩ := info_parts info5
  go_enter Try.func32, Try.ntmps32
  go_wp2_with (at_make; refine wpList_make_full _ rfl (.tmp 7) (.tmp 7) 23 rfl w.heap.size 5 i0 (.int .u8 0) 1 Try.underlying23 hi hz0 hz1 .i64 .i64 _ _ n rfl rfl rfl rfl ?_ ?_ (Nat.le_refl _) ?_; (rw [hz2]; omega); (unfold maxLen; omega); intro w1 hown hg)
  rw [made_bytes, padF_zero f] at hown
  obtain ⟨b0, _⟩ := blk_made hown
  have hB : Below w.heap.size w w1 := (Below.refl _ _).grown hg (Nat.le_refl _) (fun k hk => by cases hk)
  clear hown hg
  go_loopw [11] (fun t wr => ∃ k : Nat, k ≤ n ∧ t = .int .i64 k ∧ Blk wr w.heap.size (bytesV (padF f k n)) 5 ∧ Below w.heap.size w wr) (fun t _ => n - (intOf t).toNat)
  case atStart => exact ⟨0, by omega, rfl, b0, hB⟩
  case round =>
    clear b0 hB
    obtain ⟨k, hk, rfl, b0, hB⟩ := hrel
    by_cases hlt : k < n
    · have hpl := padF_length f k n hk
      have hset := Lib.hid (padF_set f k n hlt)
      have hsz := b0.lt
      go_wp2_with (first
        | (go_at_call 33; refine (hcall k _ hlt hB).mono ?_; rintro e w2 ⟨rfl, hb1⟩; have b2 := b0.below hb1 b0.lt; have hB2 := bnext hB hb1; have c0 := b2.gd k (by omega); have f0 := b2.frozen k; clear hb1)
        | fail)
      have r0 := b2.set k (B (f k))
      rw [bytesV_set, hset.out] at r0
      exact ⟨⟨k + 1, by omega, by go_num, r0, hB2.setCell (Nat.le_refl _) _⟩, by simp [intOf]; omega⟩
    · obtain rfl : k = n := by omega
      rw [padF_end] at b0
      go_wp2
      go_ret
      refine ⟨_, rfl, ?_, hB⟩
      have := bsl_row b0 (by simp; unfold maxLen; omega)
      simpa using this

set_option maxHeartbeats 1000000 in
theorem made35 (f : Nat → UInt8) (n : Nat) (hn : n ≤ 10000) (c0 c1 : Nat) (w : World)
    (hcall : ∀ (k : Nat) (w' : World), k < n → Below w.heap.size w w' → Calls Try.prog 35 #[.int .i64 k, .pointer (some ⟨c0, 0, none⟩), .pointer (some ⟨c1, 0, none⟩)] w' fun e w'' => e = .returned (.int .u8 (f k).toNat) ∧ Below w'.heap.size w' w'') :
    Calls Try.prog 32 #[.int .i64 n, .func (.func 35) #[] #[.pointer (some ⟨c0, 0, none⟩), .pointer (some ⟨c1, 0, none⟩)]] w fun e w' => ∃ v, e = .returned v ∧ Bsl w' v ((List.range n).map f) ∧ Below w.heap.size w w' := by
  obtain ⟨i0, hi, hz0, hz1, hz2⟩ := info_parts info5
  go_enter Try.func32, Try.ntmps32
  go_wp2_with (at_make; refine wpList_make_full _ rfl (.tmp 7) (.tmp 7) 23 rfl w.heap.size 5 i0 (.int .u8 0) 1 Try.underlying23 hi hz0 hz1 .i64 .i64 _ _ n rfl rfl rfl rfl ?_ ?_ (Nat.le_refl _) ?_; (rw [hz2]; omega); (unfold maxLen; omega); intro w1 hown hg)
  rw [made_bytes, padF_zero f] at hown
  obtain ⟨b0, _⟩ := blk_made hown
  have hB : Below w.heap.size w w1 := (Below.refl _ _).grown hg (Nat.le_refl _) (fun k hk => by cases hk)
  clear hown hg
  go_loopw [11] (fun t wr => ∃ k : Nat, k ≤ n ∧ t = .int .i64 k ∧ Blk wr w.heap.size (bytesV (padF f k n)) 5 ∧ Below w.heap.size w wr) (fun t _ => n - (intOf t).toNat)
  case atStart => exact ⟨0, by omega, rfl, b0, hB⟩
  case round =>
    clear b0 hB
    obtain ⟨k, hk, rfl, b0, hB⟩ := hrel
    by_cases hlt : k < n
    · have hpl := padF_length f k n hk
      have hset := Lib.hid (padF_set f k n hlt)
      have hsz := b0.lt
      go_wp2_with (first
        | (go_at_call 35; refine (hcall k _ hlt hB).mono ?_; rintro e w2 ⟨rfl, hb1⟩; have b2 := b0.below hb1 b0.lt; have hB2 := bnext hB hb1; have c0 := b2.gd k (by omega); have f0 := b2.frozen k; clear hb1)
        | fail)
      have r0 := b2.set k (B (f k))
      rw [bytesV_set, hset.out] at r0
      exact ⟨⟨k + 1, by omega, by go_num, r0, hB2.setCell (Nat.le_refl _) _⟩, by simp [intOf]; omega⟩
    · obtain rfl : k = n := by omega
      rw [padF_end] at b0
      go_wp2
      go_ret
      refine ⟨_, rfl, ?_, hB⟩
      have := bsl_row b0 (by simp; unfold maxLen; omega)
      simpa using this

set_option maxHeartbeats 1000000 in
theorem made36 (f : Nat → UInt8) (n : Nat) (hn : n ≤ 10000) (c0 : Nat) (w : World)
    (hcall : ∀ (k : Nat) (w' : World), k < n → Below w.heap.size w w' → Calls Try.prog 36 #[.int .i64 k, .pointer (some ⟨c0, 0, none⟩)] w' fun e w'' => e = .returned (.int .u8 (f k).toNat) ∧ Below w'.heap.size w' w'') :
    Calls Try.prog 32 #[.int .i64 n, .func (.func 36) #[] #[.pointer (some ⟨c0, 0, none⟩)]] w fun e w' => ∃ v, e = .returned v ∧ Bsl w' v ((List.range n).map f) ∧ Below w.heap.size w w' := by
  obtain ⟨i0, hi, hz0, hz1, hz2⟩ := info_parts info5
  go_enter Try.func32, Try.ntmps32
  go_wp2_with (at_make; refine wpList_make_full _ rfl (.tmp 7) (.tmp 7) 23 rfl w.heap.size 5 i0 (.int .u8 0) 1 Try.underlying23 hi hz0 hz1 .i64 .i64 _ _ n rfl rfl rfl rfl ?_ ?_ (Nat.le_refl _) ?_; (rw [hz2]; omega); (unfold maxLen; omega); intro w1 hown hg)
  rw [made_bytes, padF_zero f] at hown
  obtain ⟨b0, _⟩ := blk_made hown
  have hB : Below w.heap.size w w1 := (Below.refl _ _).grown hg (Nat.le_refl _) (fun k hk => by cases hk)
  clear hown hg
  go_loopw [11] (fun t wr => ∃ k : Nat, k ≤ n ∧ t = .int .i64 k ∧ Blk wr w.heap.size (bytesV (padF f k n)) 5 ∧ Below w.heap.size w wr) (fun t _ => n - (intOf t).toNat)
  case atStart => exact ⟨0, by omega, rfl, b0, hB⟩
  case round =>
    clear b0 hB
    obtain ⟨k, hk, rfl, b0, hB⟩ := hrel
    by_cases hlt : k < n
    · have hpl := padF_length f k n hk
      have hset := Lib.hid (padF_set f k n hlt)
      have hsz := b0.lt
      go_wp2_with (first
        | (go_at_call 36; refine (hcall k _ hlt hB).mono ?_; rintro e w2 ⟨rfl, hb1⟩; have b2 := b0.below hb1 b0.lt; have hB2 := bnext hB hb1; have c0 := b2.gd k (by omega); have f0 := b2.frozen k; clear hb1)
        | fail)
      have r0 := b2.set k (B (f k))
      rw [bytesV_set, hset.out] at r0
      exact ⟨⟨k + 1, by omega, by go_num, r0, hB2.setCell (Nat.le_refl _) _⟩, by simp [intOf]; omega⟩
    · obtain rfl : k = n := by omega
      rw [padF_end] at b0
      go_wp2
      go_ret
      refine ⟨_, rfl, ?_, hB⟩
      have := bsl_row b0 (by simp; unfold maxLen; omega)
      simpa using this



theorem bitU (v s : Nat) : ((UInt8.ofNat (v / 2 ^ s % 2)).toNat : Int) = (v : Int) / 2 ^ s % 2 := by
  rw [UInt8.toNat_ofNat', Nat.mod_eq_of_lt (by omega)]
  simp
theorem and_one64 (x : Nat) (h : x < 2 ^ 64) : bits .and .u64 (x : Int) 1 = ((x % 2 : Nat) : Int) := by
  simp only [bits, BitVec.toNat_and, BitVec.toNat_ofInt]
  have e : ((2 ^ IntKind.u64.bits : Nat) : Int) = ((2 ^ 64 : Nat) : Int) := rfl
  rw [e, ← Int.natCast_emod, show (1 : Int) = ((1 : Nat) : Int) from rfl, ← Int.natCast_emod]
  simp only [Int.toNat_natCast]
  rw [Nat.mod_eq_of_lt h, show 1 % 2 ^ 64 = 2 ^ 1 - 1 from rfl, Nat.and_two_pow_sub_one_eq_mod]
  have h2 : x % 2 ^ 1 = 0 ∨ x % 2 ^ 1 = 1 := by omega
  rcases h2 with h2 | h2 <;> rw [h2] <;> rfl
theorem and_one8 (x : Nat) (h : x < 256) : bits .and .u8 (x : Int) 1 = ((x % 2 : Nat) : Int) := by
  have := bits_a8 (UInt8.ofNat x) 1
  rw [UInt8.toNat_ofNat', Nat.mod_eq_of_lt h] at this
  have e : ((1 : UInt8).toNat : Int) = 1 := rfl
  rw [e] at this
  rw [this]
  have : (a8 (UInt8.ofNat x) 1).toNat = x % 2 := by
    show (UInt8.ofNat x &&& 1).toNat = _
    rw [UInt8.toNat_and, UInt8.toNat_ofNat', Nat.mod_eq_of_lt h]
    exact Nat.and_one_is_mod x
  rw [this]

theorem nat_div (x s : Nat) : (x : Int) / 2 ^ s = ((x / 2 ^ s : Nat) : Int) := by
  rw [Int.natCast_ediv, Int.natCast_pow]; rfl
theorem div_lt (x s m : Nat) (h : x < m) : x / 2 ^ s < m := Nat.lt_of_le_of_lt (Nat.div_le_self _ _) h
theorem toNat_small (y : Nat) (h : y < 256) : (UInt8.ofNat y).toNat = y := by rw [UInt8.toNat_ofNat']; exact Nat.mod_eq_of_lt h
theorem fu_val (v s : Nat) (hv : v < 2 ^ 64) : bits .and .u64 ((v : Int) / 2 ^ s) 1 % 256 = ((UInt8.ofNat (v / 2 ^ s % 2)).toNat : Int) := by
  have hm : v / 2 ^ s % 2 < 2 := Nat.mod_lt _ (by decide)
  rw [nat_div, and_one64 _ (div_lt _ _ _ hv), toNat_small _ (by omega)]
  generalize v / 2 ^ s % 2 = y at hm
  omega
theorem un_val (x s : Nat) (hx : x < 256) : bits .and .u8 ((x : Int) / 2 ^ s) 1 = ((UInt8.ofNat (x / 2 ^ s % 2)).toNat : Int) := by
  have hm : x / 2 ^ s % 2 < 2 := Nat.mod_lt _ (by decide)
  rw [nat_div, and_one8 _ (div_lt _ _ _ hx), toNat_small _ (by omega)]
theorem cl33 (v n k : Nat) (hv : v < 2 ^ 64) (hn : n ≤ 64) (hk : k < n) (c0 c1 : Nat) (w : World) (h0 : w.cell? ⟨c0, 0, none⟩ = some (.int .u64 v)) (h1 : w.cell? ⟨c1, 0, none⟩ = some (.int .i64 n)) :
    Calls Try.prog 33 #[.int .i64 k, .pointer (some ⟨c0, 0, none⟩), .pointer (some ⟨c1, 0, none⟩)] w fun e w' => e = .returned (.int .u8 (UInt8.ofNat (v / 2 ^ (n - 1 - k) % 2)).toNat) ∧ Below w.heap.size w w' := by
  have k1 := IntWalk.i64_in ((n : Int) - 1) (by omega)
  have k2 := IntWalk.i64_in ((n : Int) - 1 - k) (by omega)
  have k3 : 0 ≤ (n : Int) - 1 - k := by omega
  have k4 : ((n : Int) - 1 - k).toNat = n - 1 - k := by omega
  go_enter Try.func33, Try.ntmps33
  go_wp2
  go_ret
  refine ⟨?_, Below.refl _ _⟩
  rw [← fu_val v (n - 1 - k) hv]
  rfl
theorem cl36 (l : List UInt8) (a : Option Addr) (cap k n : Nat) (hk : k < n) (hn : n ≤ 8 * l.length) (hlen : l.length ≤ 10000) (c0 : Nat) (w : World) (hb : Byt w a l) (h0 : w.cell? ⟨c0, 0, none⟩ = some (.slice a l.length cap)) :
    Calls Try.prog 36 #[.int .i64 k, .pointer (some ⟨c0, 0, none⟩)] w fun e w' => e = .returned (.int .u8 (UInt8.ofNat ((gd l (k / 8)).toNat / 2 ^ (7 - k % 8) % 2)).toNat) ∧ Below w.heap.size w w' := by
  have hpos : 0 < l.length := by omega
  obtain ⟨b, o, rfl, hbl, hc⟩ := hb hpos
  have hk8 : k / 8 < l.length := by omega
  have c1 := hc (k / 8) hk8
  have h9 := lt256 (gd l (k / 8))
  obtain ⟨x, hx⟩ : ∃ x, x = (gd l (k / 8)).toNat := ⟨_, rfl⟩
  rw [← hx] at c1 h9 ⊢
  have i1 : (k : Int) / 8 = ((k / 8 : Nat) : Int) := by omega
  have i2 : (k : Int) % 8 = ((k % 8 : Nat) : Int) := by omega
  obtain ⟨q, hq⟩ : ∃ q, q = k / 8 := ⟨_, rfl⟩
  obtain ⟨r, hr⟩ : ∃ q, q = k % 8 := ⟨_, rfl⟩
  have hr8 : r < 8 := by omega
  rw [← hq] at c1 i1 hk8
  rw [← hr] at i2 ⊢
  have k1 := IntWalk.i64_in (7 - (r : Int)) (by omega)
  have k3 : 0 ≤ 7 - (r : Int) := by omega
  have k4 : (7 - (r : Int)).toNat = 7 - r := by omega
  have HV := Lib.hid (un_val x (7 - r) h9)
  clear hc hq hr hx
  go_enter Try.func36, Try.ntmps36
  go_wp2
  go_ret
  refine ⟨?_, Below.refl _ _⟩
  rw [← HV.out]
  rfl

end Go.Proofs.Ytflmbghbgmkdeaa
