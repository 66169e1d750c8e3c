/-
  Bit strings, walks: the reference's Valid, Uint, FromUint; the statement BitstrUints.
-/
import Derived.Test.YtflmbghbgmkdeaaBitM
set_option linter.unusedSimpArgs false
set_option linter.unusedVariables false
namespace Go.Proofs.Ytflmbghbgmkdeaa
open Go.RowKit

theorem rvalid_any (l : List UInt8) (v : Value) (w : World) (hv : Bsl w v l) (hlen : l.length ≤ 100000) :
    Calls Try.prog 28 #[v] w fun e w' => e = .returned (.bool (okb l)) ∧ w' = w := by
  obtain ⟨a, cap, rfl, h1, h2, h3, hb⟩ := hv
  clear h2 h3
  obtain ⟨R, hR⟩ : ∃ R, R = okb l := ⟨_, rfl⟩
  rw [← hR]
  have HR := Lib.hid hR
  clear hR
  go_enter Try.func28, Try.ntmps28
  go_wp2
  go_loopw [3] (fun t wr => ∃ k : Nat, k ≤ l.length ∧ t = .int .i64 k ∧ (∀ i, i < k → (gd l i).toNat < 2) ∧ wr = w) (fun t _ => l.length - (intOf t).toNat)
  case atStart => exact ⟨0, by omega, rfl, fun i hi => absurd hi (by omega), rfl⟩
  case round =>
    obtain ⟨k, hk, rfl, hp, rfl⟩ := hrel
    by_cases hlt : k < l.length
    · obtain ⟨b, o, rfl, hbl, hc⟩ := hb (by omega)
      have c0 := hc k hlt
      have h9 := lt256 (gd l k)
      obtain ⟨x, hx⟩ : ∃ x, x = (gd l k).toNat := ⟨_, rfl⟩
      rw [← hx] at c0 h9
      by_cases hbit : x < 2
      · have hn : ¬ (1 : Int) < (x : Int) := by omega
        have HX := Lib.hid hx
        clear hx hc
        go_wp2
        refine ⟨⟨k + 1, by omega, by go_num, fun i hi => ?_, trivial⟩, by simp [intOf]; omega⟩
        rcases Nat.lt_succ_iff_lt_or_eq.1 hi with h | rfl
        · exact hp i h
        · rw [← HX.out]; exact hbit
      · have hn : (1 : Int) < (x : Int) := by omega
        have HX := Lib.hid hx
        clear hx hc
        go_wp2
        go_ret
        rw [HR.out, okb_not l k (by rw [← HX.out]; exact hbit)]
        exact ⟨rfl, rfl⟩
    · obtain rfl : k = l.length := by omega
      go_wp2
      go_ret
      rw [HR.out, okb_of l hp]
      exact ⟨rfl, rfl⟩

theorem ruint_err (l : List UInt8) (v : Value) (w : World) (hv : Bsl w v l) (hlen : l.length ≤ 10000) (hok : okb l = false) :
    Calls Try.prog 14 #[v] w fun e w' => e = .returned (.tuple #[.int .u64 0, .int .i64 3]) ∧ w' = w := by
  go_enter Try.func14, Try.ntmps14
  go_wp2_with (go_at_call 28; (with_reducible refine (rvalid_any l _ _ hv ?_).mono ?_); (omega); rintro e w' ⟨rfl, hw⟩; subst w'; rw [hok])
  go_ret2
  exact ⟨rfl, rfl⟩
theorem ruint_long (l : List UInt8) (v : Value) (w : World) (hv : Bsl w v l) (hlen : l.length ≤ 10000) (hok : okb l = true) (h64 : 64 < l.length) :
    Calls Try.prog 14 #[v] w fun e w' => e = .returned (.tuple #[.int .u64 0, .int .i64 4]) ∧ w' = w := by
  have hv0 := hv
  obtain ⟨a, cap, rfl, h1, _⟩ := hv
  have hI : (64 : Int) < (l.length : Int) := by omega
  have HOK := Lib.hid hok
  clear hok
  go_enter Try.func14, Try.ntmps14
  go_wp2_with (go_at_call 28; (with_reducible refine (rvalid_any l _ _ hv0 ?_).mono ?_); (omega); rintro e w' ⟨rfl, hw⟩; subst w'; rw [HOK.out])
  go_ret2
  exact ⟨rfl, rfl⟩
theorem uint_long (l : List UInt8) (v : Value) (w : World) (hv : Bsl w v l) (hlen : l.length ≤ 10000) (hok : okb l = true) (h64 : 64 < l.length) :
    Calls Try.prog 13 #[v] w fun e w' => e = .returned (.tuple #[.int .u64 0, .int .i64 4]) ∧ Below w.heap.size w w' := by
  have hv1 := hv.below ((Below.refl w.heap.size w).alloc (Nat.le_refl _) (.cells #[v] 23))
  obtain ⟨a, cap, rfl, h1, h2, h3, h4⟩ := hv
  have hI : (64 : Int) < (l.length : Int) := by omega
  have HOK := Lib.hid hok
  clear h2 h3 h4 hok
  go_enter Try.func13, Try.ntmps13
  go_wp2
  refine wp_scope_jumps 0 (fun a' w' => a' = { tmps := #[.slice a l.length cap, undef, .int .u64 0, .int .i64 4, undef, undef, .slice a l.length cap, .slice (some ⟨w.heap.size, 0, none⟩) 1 1, .bool true, .bool false, .slice a l.length cap, .int .i64 l.length, .bool true, undef, undef, undef, undef, undef, undef, undef, undef, undef, undef, undef, undef, undef, undef], defers := [] } ∧ Below w.heap.size w w') (fun _ _ => 0) rfl ?_ ?_
  · go_wp2_with (go_at_call 34; (with_reducible refine (valid1 l _ _ _ _ (Blk.new' rfl) hv1 ?_).mono ?_); (omega); rintro e w' ⟨rfl, hw⟩; subst w'; rw [HOK.out])
    go_step3
    exact ⟨rfl, rfl, (Below.refl _ _).alloc (Nat.le_refl _) _⟩
  · rintro a1 w1 ⟨rfl, hB⟩
    go_wp2
    simp only [Exit.jump]
    go_ret2
    exact ⟨rfl, hB⟩

theorem ref_step (V x : Nat) (hV : V < 2 ^ 63) (hx : x < 2) : IntKind.u64.wrap (IntKind.u64.wrap (2 * (V : Int)) + (x : Int)) = ((2 * V + x : Nat) : Int) := by
  have h2 : 2 * V < 2 ^ 64 := by rw [show (2 : Nat) ^ 64 = 2 * 2 ^ 63 from rfl]; omega
  have h3 : 2 * V + x < 2 ^ 64 := by rw [show (2 : Nat) ^ 64 = 2 * 2 ^ 63 from rfl]; omega
  rw [show 2 * (V : Int) = ((2 * V : Nat) : Int) by omega, wrap_u64 _ h2, show ((2 * V : Nat) : Int) + (x : Int) = ((2 * V + x : Nat) : Int) by omega, wrap_u64 _ h3]
set_option maxHeartbeats 400000 in
theorem ruint_ok (l : List UInt8) (v : Value) (w : World) (hv : Bsl w v l) (hlen : l.length ≤ 64) (hok : okb l = true) :
    Calls Try.prog 14 #[v] w fun e w' => e = .returned (.tuple #[.int .u64 (uintL l), .int .i64 0]) ∧ w' = w := by
  have hv0 := hv
  obtain ⟨a, cap, rfl, h1, h2, h3, h4⟩ := hv
  have HOK := Lib.hid hok
  clear h2 h3 hok
  go_enter Try.func14, Try.ntmps14
  go_wp2_with (go_at_call 28; (with_reducible refine (rvalid_any l _ _ hv0 ?_).mono ?_); (omega); rintro e w' ⟨rfl, hw⟩; subst w'; rw [HOK.out])
  go_loopw [4, 5] (fun c t wr => ∃ k : Nat, k ≤ l.length ∧ t = .int .i64 k ∧ c = .int .u64 (uintL (l.take k)) ∧ wr = w) (fun _ t _ => l.length - (intOf t).toNat)
  case atStart => exact ⟨0, by omega, rfl, rfl, rfl⟩
  case round =>
    obtain ⟨k, hk, rfl, rfl, rfl⟩ := hrel
    by_cases hlt : k < l.length
    · obtain ⟨b, o, rfl, hbl, hc⟩ := h4 (by omega)
      have c0 := hc k hlt
      have hu := uintL_take l k hlt
      have hbit := okb_get l HOK.out k
      have hlt63 : uintL (l.take k) < 2 ^ 63 := by
        have h := uintL_lt (l.take k) (okb_take l k (fun i _ => okb_get l HOK.out i))
        have h2 : (l.take k).length ≤ 63 := by simp; omega
        exact Nat.lt_of_lt_of_le h (Nat.pow_le_pow_right (by decide) h2)
      obtain ⟨x, hx⟩ : ∃ x, x = (gd l k).toNat := ⟨_, rfl⟩
      rw [← hx] at c0 hu hbit
      obtain ⟨V, hV⟩ : ∃ x, x = uintL (l.take k) := ⟨_, rfl⟩
      rw [← hV] at hu hlt63 ⊢
      have HU := Lib.hid hu
      have HRS := Lib.hid (ref_step V x hlt63 hbit)
      clear hu hx hc hV hlt63 hv0
      go_wp2
      exact ⟨⟨k + 1, by omega, by go_num, by rw [HU.out, HRS.out], trivial⟩, by simp [intOf]; omega⟩
    · obtain rfl : k = l.length := by omega
      rw [List.take_length]
      go_wp2
      go_ret2
      exact ⟨rfl, rfl⟩

/-- The bits of v behind k steps of division. -/
def fl (v n k : Nat) : List UInt8 := List.replicate (n - k) 0 ++ (bitsL v n).drop (n - k)
theorem fl_length (v n k : Nat) (_ : k ≤ n) : (fl v n k).length = n := by simp [fl, bitsL_length] <;> omega
theorem fl_end (v n : Nat) : fl v n n = bitsL v n := by simp [fl]
theorem fl_zero (v n : Nat) : List.replicate n (0 : UInt8) = fl v n 0 := by
  simp [fl, List.drop_eq_nil_of_le, bitsL_length]
theorem fl_gd (v n k i : Nat) (hi : i < n) (hk : k ≤ n) : gd (fl v n k) i = if i < n - k then 0 else UInt8.ofNat (v / 2 ^ (n - 1 - i) % 2) := by
  unfold fl
  by_cases h : i < n - k
  · rw [if_pos h, gd_append_left _ _ _ (by simpa using h), gd_replicate]
  · rw [if_neg h, gd_append_right _ _ _ (by simp <;> omega), gd_drop, List.length_replicate, show n - k + (i - (n - k)) = i by omega, bitsL_gd v n i hi]
theorem fl_set (v n k : Nat) (h : k < n) : (fl v n k).set (n - 1 - k) (UInt8.ofNat (v / 2 ^ k % 2)) = fl v n (k + 1) := by
  apply ext_gd (by simp [fl_length v n k (by omega), fl_length v n (k + 1) (by omega)])
  intro i hi
  have hin : i < n := by rw [List.length_set, fl_length v n k (by omega)] at hi; exact hi
  rw [gd_set _ _ _ _ (by rw [fl_length v n k (by omega)]; omega), fl_gd v n k i hin (by omega), fl_gd v n (k + 1) i hin (by omega)]
  by_cases e : n - 1 - k = i
  · rw [if_pos e, if_neg (by omega), ← e, show n - 1 - (n - 1 - k) = k by omega]
  · rw [if_neg e]
    by_cases h2 : i < n - k
    · rw [if_pos h2, if_pos (by omega)]
    · rw [if_neg h2, if_neg (by omega)]

set_option maxHeartbeats 400000 in
theorem rfromuint_in (v n : Nat) (hv : v < 2 ^ 64) (hn : n ≤ 64) (w : World) :
    Calls Try.prog 12 #[.int .u64 v, .int .i64 n] w fun e w' => ∃ u, e = .returned (.tuple #[u, .int .i64 (if v < 2 ^ n then 0 else 4)]) ∧ Bsl w' u (if v < 2 ^ n then bitsL v n else []) ∧ Below w.heap.size w w' := by
  obtain ⟨i0, hi, hz0, hz1, hz2⟩ := info_parts info5
  have HV := Lib.hid hv
  clear hv
  obtain ⟨E, hE⟩ : ∃ E : Int, E = if v < 2 ^ n then 0 else 4 := ⟨_, rfl⟩
  obtain ⟨L, hL⟩ : ∃ L, L = if v < 2 ^ n then bitsL v n else [] := ⟨_, rfl⟩
  rw [← hE, ← hL]
  have HE := Lib.hid hE
  have HL := Lib.hid hL
  clear hE hL
  go_enter Try.func12, Try.ntmps12
  go_wp2_with (at_make; refine wpList_make_full _ rfl (.tmp 14) (.tmp 14) 23 rfl w.heap.size 5 i0 (.int .u8 0) 1 Try.underlying23 hi hz0 hz1 .i64 .i64 _ _ n rfl rfl rfl rfl ?_ ?_ (Nat.le_refl _) ?_; (rw [hz2]; omega); (unfold maxLen; omega); intro w1 hown hg)
  rw [made_bytes, fl_zero v] at hown
  obtain ⟨b0, _⟩ := blk_made hown
  have hB : Below w.heap.size w w1 := (Below.refl _ _).grown hg (Nat.le_refl _) (fun k hk => by cases hk)
  clear hown hg
  go_loopw [0, 7] (fun c t wr => ∃ k : Nat, k ≤ n ∧ t = .int .i64 ((n : Int) - 1 - k) ∧ c = .int .u64 (v / 2 ^ k : Nat) ∧ Blk wr w.heap.size (bytesV (fl v n k)) 5 ∧ Below w.heap.size w wr) (fun _ t _ => (intOf t + 1).toNat)
  case atStart => exact ⟨0, by omega, by go_num, by simp, b0, hB⟩
  case round =>
    clear b0 hB
    obtain ⟨k, hk, rfl, rfl, b0, hB⟩ := hrel
    by_cases hlt : k < n
    · have hpl := fl_length v n k hk
      have hset := Lib.hid (fl_set v n k hlt)
      obtain ⟨q, hq⟩ : ∃ q, q = n - 1 - k := ⟨_, rfl⟩
      have hqI : (n : Int) - 1 - k = (q : Int) := by omega
      have hqn : q < n := by omega
      have hqI0 : (0 : Int) ≤ (q : Int) := by omega
      have hqn64 : q ≤ 64 := by omega
      rw [hqI]
      have c0 := b0.gd q (by omega)
      have f0 := b0.frozen q
      obtain ⟨X, hX⟩ : ∃ X, X = v / 2 ^ k := ⟨_, rfl⟩
      have hX2 : v / 2 ^ (k + 1) = X / 2 := by rw [hX, Nat.pow_succ, Nat.div_div_eq_div_mul]
      have hm : IntKind.u8.wrap ((X : Int) % 2) = ((X % 2 : Nat) : Int) := by
        rw [← wrap_u8 (X % 2) (by omega)]
        congr 1
      have r0 := b0.set q (B (UInt8.ofNat (X % 2)))
      rw [hX, bytesV_set, hq, hset.out, ← hX, B_of (X % 2) (by omega), ← hq] at r0
      rw [← hX]
      have HX2 := Lib.hid hX2
      have HQ := Lib.hid hq
      have hqw := IntWalk.i64_in ((q : Int) - 1) (by omega)
      have hxx : ((X % 2 : Nat) : Int) = (X : Int) % 2 := by omega
      rw [hxx] at r0
      have HXW := Lib.hid (show IntKind.u64.wrap ((X : Int) / 2) = ((X / 2 : Nat) : Int) by
        have hlt2 : X / 2 < 2 ^ 64 := by
          have h1 : X ≤ v := by rw [hX]; exact Nat.div_le_self _ _
          have := HV.out
          exact Nat.lt_of_le_of_lt (Nat.le_trans (Nat.div_le_self _ _) h1) this
        rw [← wrap_u64 _ hlt2]
        congr 1)
      clear hset hq hX hX2 hqI hm
      go_wp2
      exact ⟨⟨k + 1, by omega, by have := HQ.out; go_num, by rw [HX2.out, HXW.out], r0, hB.setCell (Nat.le_refl _) _⟩, by simp [intOf] <;> omega⟩
    · obtain rfl : k = n := by omega
      have e1 : (k : Int) - 1 - k = -1 := by omega
      rw [e1]
      rw [fl_end] at b0
      have hbl := bitsL_length v k
      by_cases hvn : v < 2 ^ k
      · have hz : v / 2 ^ k = 0 := Nat.div_eq_of_lt hvn
        rw [hz]
        have HVN := Lib.hid hvn
        have hbs := bsl_row b0 (by rw [hbl]; unfold maxLen; omega)
        rw [hbl] at hbs
        clear hz hvn hbl e1
        go_wp2
        go_ret2
        have he := HE.out
        have hl := HL.out
        rw [if_pos HVN.out] at he hl
        subst he hl
        exact ⟨_, rfl, hbs, hB⟩
      · have hpos : 0 < v / 2 ^ k := Nat.div_pos (by omega) (Nat.two_pow_pos k)
        obtain ⟨Y, hY⟩ : ∃ Y, Y = v / 2 ^ k := ⟨_, rfl⟩
        rw [← hY] at hpos ⊢
        have hYI : (0 : Int) < (Y : Int) := by omega
        have HVN := Lib.hid hvn
        clear hvn hY hbl e1
        go_wp2
        go_ret2
        have he := HE.out
        have hl := HL.out
        rw [if_neg HVN.out] at he hl
        subst he hl
        exact ⟨_, rfl, bsl_nil _, hB⟩

theorem rfromuint_out (v : Nat) (n : Int) (hn : n < 0 ∨ 64 < n) (w : World) :
    Calls Try.prog 12 #[.int .u64 v, .int .i64 n] w fun e w' => e = .returned (.tuple #[.slice none 0 0, .int .i64 2]) ∧ w' = w := by
  go_enter Try.func12, Try.ntmps12
  rcases hn with h | h
  all_goals
    go_wp2
    go_ret2
    exact ⟨rfl, rfl⟩
theorem fromuint_out (v : Nat) (n : Int) (hn : n < 0 ∨ 64 < n) (w : World) :
    Calls Try.prog 11 #[.int .u64 v, .int .i64 n] w fun e w' => e = .returned (.tuple #[.slice none 0 0, .int .i64 2]) ∧ Below w.heap.size w w' := by
  have h2 : n < 0 ∨ (0 ≤ n ∧ 64 < n) := by omega
  go_enter Try.func11, Try.ntmps11
  rcases h2 with h | ⟨h0, h⟩
  all_goals
    go_wp2
    go_ret2
    exact ⟨rfl, ((Below.refl _ _).alloc (Nat.le_refl _) _).alloc (by simp) _⟩
/-- The answer of FromUint: its bits and its error. -/
def fuL (v : Nat) (n : Int) : List UInt8 := if n < 0 ∨ 64 < n then [] else if v < 2 ^ n.toNat then bitsL v n.toNat else []
def fuE (v : Nat) (n : Int) : Int := if n < 0 ∨ 64 < n then 2 else if v < 2 ^ n.toNat then 0 else 4
theorem fromuint_any (v : Nat) (n : Int) (hv : v < 2 ^ 64) (w : World) :
    Calls Try.prog 11 #[.int .u64 v, .int .i64 n] w fun e w' => ∃ u, e = .returned (.tuple #[u, .int .i64 (fuE v n)]) ∧ Bsl w' u (fuL v n) ∧ Below w.heap.size w w' := by
  unfold fuE fuL
  by_cases h : n < 0 ∨ 64 < n
  · rw [if_pos h, if_pos h]
    refine (fromuint_out v n h w).mono ?_
    rintro e w' ⟨rfl, hB⟩
    exact ⟨_, rfl, bsl_nil _, hB⟩
  · rw [if_neg h, if_neg h]
    obtain ⟨m, rfl⟩ : ∃ m : Nat, n = m := ⟨n.toNat, by omega⟩
    rw [Int.toNat_natCast]
    by_cases k : v < 2 ^ m
    · rw [if_pos k, if_pos k]
      exact fromuint_ok v m hv (by omega) k w
    · rw [if_neg k, if_neg k]
      have hm : m < 64 := by
        apply Decidable.byContradiction
        intro h64
        have : m = 64 := by omega
        subst this
        exact k hv
      refine (fromuint_long v m hm (by omega) w).mono ?_
      rintro e w' ⟨rfl, hB⟩
      exact ⟨_, rfl, bsl_nil _, hB⟩
theorem rfromuint_any (v : Nat) (n : Int) (hv : v < 2 ^ 64) (w : World) :
    Calls Try.prog 12 #[.int .u64 v, .int .i64 n] w fun e w' => ∃ u, e = .returned (.tuple #[u, .int .i64 (fuE v n)]) ∧ Bsl w' u (fuL v n) ∧ Below w.heap.size w w' := by
  unfold fuE fuL
  by_cases h : n < 0 ∨ 64 < n
  · rw [if_pos h, if_pos h]
    refine (rfromuint_out v n h w).mono ?_
    rintro e w' ⟨rfl, rfl⟩
    exact ⟨_, rfl, bsl_nil _, Below.refl _ _⟩
  · rw [if_neg h, if_neg h]
    obtain ⟨m, rfl⟩ : ∃ m : Nat, n = m := ⟨n.toNat, by omega⟩
    rw [Int.toNat_natCast]
    exact rfromuint_in v m hv (by omega) w
/-- The answer of Uint: its number and its error. -/
def unV (l : List UInt8) : Nat := if okb l = false then 0 else if 64 < l.length then 0 else uintL l
def unE (l : List UInt8) : Int := if okb l = false then 3 else if 64 < l.length then 4 else 0
theorem uint_any (l : List UInt8) (v : Value) (w : World) (hv : Bsl w v l) (hlen : l.length ≤ 10000) :
    Calls Try.prog 13 #[v] w fun e w' => e = .returned (.tuple #[.int .u64 (unV l), .int .i64 (unE l)]) ∧ Below w.heap.size w w' := by
  unfold unV unE
  cases hok : okb l with
  | false => rw [if_pos rfl, if_pos rfl]; exact uint_err l v w hv hlen hok
  | true =>
    rw [if_neg (show ¬ (true = false) by simp), if_neg (show ¬ (true = false) by simp)]
    by_cases h : 64 < l.length
    · rw [if_pos h, if_pos h]; exact uint_long l v w hv hlen hok h
    · rw [if_neg h, if_neg h]; exact uint_ok l v w hv (by omega) hok
theorem ruint_any (l : List UInt8) (v : Value) (w : World) (hv : Bsl w v l) (hlen : l.length ≤ 10000) :
    Calls Try.prog 14 #[v] w fun e w' => e = .returned (.tuple #[.int .u64 (unV l), .int .i64 (unE l)]) ∧ w' = w := by
  unfold unV unE
  cases hok : okb l with
  | false => rw [if_pos rfl, if_pos rfl]; exact ruint_err l v w hv hlen hok
  | true =>
    rw [if_neg (show ¬ (true = false) by simp), if_neg (show ¬ (true = false) by simp)]
    by_cases h : 64 < l.length
    · rw [if_pos h, if_pos h]; exact ruint_long l v w hv hlen hok h
    · rw [if_neg h, if_neg h]; exact ruint_ok l v w hv (by omega) hok
theorem wf_u64' {a : Int} (h : (Lit.int .u64 a).wf = true) : ∃ n : Nat, a = n ∧ n < 2 ^ 64 := by
  have hmin : IntKind.u64.min = 0 := rfl
  have hmax : IntKind.u64.max = 18446744073709551615 := rfl
  simp only [Lit.wf, Bool.and_eq_true, decide_eq_true_eq] at h
  refine ⟨a.toNat, by omega, ?_⟩
  have : a.toNat < 18446744073709551616 := by omega
  exact this

set_option maxRecDepth 100000 in
set_option maxHeartbeats 2000000 in
theorem walk_BitstrUints (vv : Int) (wv : (Lit.int .u64 vv).wf = true) (n : Int) (_ : (Lit.int .i64 n).wf = true) (v2 : Value) (l : List UInt8) (w : World) (h2 : Bsl w v2 l) :
    Calls Try.prog 3 #[.int .u64 vv, .int .i64 n, v2] w fun e w' => e = .returned (.bool true) ∧ Below w.heap.size w w' := by
  obtain ⟨V, rfl, hV⟩ := wf_u64' wv
  have H2 := h2
  obtain ⟨a2, cap2, rfl, p1, _⟩ := h2
  have HV := Lib.hid hV
  clear wv p1 hV
  obtain ⟨L, hL⟩ : ∃ L, L = fuL V n := ⟨_, rfl⟩
  obtain ⟨E, hE⟩ : ∃ L, L = fuE V n := ⟨_, rfl⟩
  obtain ⟨U, hU⟩ : ∃ L, L = unV l := ⟨_, rfl⟩
  obtain ⟨F, hF⟩ : ∃ L, L = unE l := ⟨_, rfl⟩
  have HL := Lib.hid hL
  have HE := Lib.hid hE
  have HU := Lib.hid hU
  have HF := Lib.hid hF
  clear hL hE hU hF
  by_cases h200 : 200 < l.length
  · have hh : (200 : Int) < (l.length : Int) := by omega
    clear H2
    go_enter Try.func3, Try.ntmps3
    go_wp2_with (go_at_call 10; (with_reducible refine (works_any _).mono ?_); rintro e w9 ⟨rfl, hB⟩)
    go_ret
    exact ⟨rfl, hB⟩
  · have hh : ¬ (200 : Int) < (l.length : Int) := by omega
    go_enter Try.func3, Try.ntmps3
    go_wp2_with (first
      | (go_at_call 11; (with_reducible refine (fromuint_any V n HV.out _).mono ?_); rintro e w1 ⟨v7, rfl, h7, hB⟩; rw [← HL.out] at h7; rw [← HE.out]; replace H2 := H2.below hB)
      | (go_at_call 12; (with_reducible refine (rfromuint_any V n HV.out _).mono ?_); rintro e w2 ⟨v9, rfl, h9, hb⟩; rw [← HL.out] at h9; rw [← HE.out]; replace H2 := H2.below hb; replace h7 := h7.below hb; replace hB := bnext hB hb; clear hb)
      | (go_at_call 13; (with_reducible refine (uint_any l _ _ H2 ?_).mono ?_); (omega); rintro e w3 ⟨rfl, hb⟩; rw [← HU.out, ← HF.out]; replace H2 := H2.below hb; replace h7 := h7.below hb; replace h9 := h9.below hb; replace hB := bnext hB hb; clear hb)
      | (go_at_call 14; (with_reducible refine (ruint_any l _ _ H2 ?_).mono ?_); (omega); rintro e w' ⟨rfl, hw'⟩; subst w'; rw [← HU.out, ← HF.out])
      | (go_at_call 15; (with_reducible refine (same_any L L _ _ _ h7 h9).mono ?_); rintro e w' ⟨rfl, hw'⟩; subst w'; rw [decide_self])
      | (go_at_call 16; (with_reducible refine (num_any _ _).mono ?_); rintro e w' ⟨rfl, hw'⟩; subst w')
      | (go_at_call 10; (with_reducible refine (works_any _).mono ?_); rintro e w4 ⟨rfl, hb⟩; replace hB := bnext hB hb; clear hb)
      | fail)
    go_ret
    exact ⟨rfl, hB⟩
end Go.Proofs.Ytflmbghbgmkdeaa
