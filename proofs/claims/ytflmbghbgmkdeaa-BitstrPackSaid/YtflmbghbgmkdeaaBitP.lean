/-
  Bit strings, walks: Pack and Unpack in all cases; the reference's Pack and Unpack; the statement BitstrPack.
-/
import Derived.Test.YtflmbghbgmkdeaaBitX
namespace Go.Proofs.Ytflmbghbgmkdeaa
open Go.RowKit

theorem valid_any (l : List UInt8) (v : Value) (w : World) (hv : Bsl w v l) (hlen : l.length ≤ 100000) :
    Calls Try.prog 27 #[v] w fun e w' => e = .returned (.bool (okb l)) ∧ Below w.heap.size w w' := by
  have hv1 := hv.below ((Below.refl w.heap.size w).alloc (Nat.le_refl _) (.cells #[v] 23))
  obtain ⟨a, cap, rfl, h1, h2, h3, h4⟩ := hv
  clear h2 h3 h4
  go_enter Try.func27, Try.ntmps27
  go_wp2_with (go_at_call 34; (with_reducible refine (valid1 l _ _ _ _ (Blk.new' rfl) hv1 ?_).mono ?_); (omega); rintro e w' ⟨rfl, hw⟩; subst w')
  go_ret
  exact ⟨rfl, (Below.refl _ _).alloc (Nat.le_refl _) _⟩

theorem unpack_neg (v : Value) (n : Int) (hn : n < 0) (w : World) (l : List UInt8) (hv : Bsl w v l) :
    Calls Try.prog 24 #[v, .int .i64 n] w fun e w' => e = .returned (.tuple #[.slice none 0 0, .int .i64 2]) ∧ Below w.heap.size w w' := by
  obtain ⟨a, cap, rfl, h1, h2, h3, h4⟩ := hv
  clear h1 h2 h3 h4
  go_enter Try.func24, Try.ntmps24
  go_wp2
  go_ret2
  exact ⟨rfl, (Below.refl _ _).alloc (Nat.le_refl _) _⟩
theorem runpack_neg (v : Value) (n : Int) (hn : n < 0) (w : World) :
    Calls Try.prog 26 #[v, .int .i64 n] w fun e w' => e = .returned (.tuple #[.slice none 0 0, .int .i64 2]) ∧ Below w.heap.size w w' := by
  go_enter Try.func26, Try.ntmps26
  go_wp2
  go_ret2
  exact ⟨rfl, Below.refl _ _⟩
theorem runpack_short (l : List UInt8) (n : Nat) (v : Value) (w : World) (hv : Bsl w v l) (hn : 8 * l.length < n) (hb : n < 9223372036854775808) :
    Calls Try.prog 26 #[v, .int .i64 n] w fun e w' => e = .returned (.tuple #[.slice none 0 0, .int .i64 5]) ∧ Below w.heap.size w w' := by
  obtain ⟨a, cap, rfl, h1, h2, h3, h4⟩ := hv
  have hI : 8 * (l.length : Int) < (n : Int) := by omega
  have hn0 : ¬ (n : Int) < 0 := by omega
  have k0 := IntWalk.i64_in ((n : Int) / 8) (by omega)
  clear h2 h3 h4
  by_cases h : (l.length : Int) < (n : Int) / 8
  · go_enter Try.func26, Try.ntmps26
    go_wp2
    go_ret2
    exact ⟨rfl, Below.refl _ _⟩
  · have he : (n : Int) / 8 = l.length := by omega
    have hr : (0 : Int) < (n : Int) % 8 := by omega
    go_enter Try.func26, Try.ntmps26
    go_wp2
    go_ret2
    exact ⟨rfl, Below.refl _ _⟩

theorem unpackL_take (l : List UInt8) (k : Nat) : unpackL l (k + 1) = unpackL l k ++ [UInt8.ofNat ((gd l (k / 8)).toNat / 2 ^ (7 - k % 8) % 2)] := by
  unfold unpackL; rw [List.range_succ, List.map_append]; rfl

set_option maxHeartbeats 800000 in
theorem runpack_ok (l : List UInt8) (n : Nat) (v : Value) (w : World) (hv : Bsl w v l) (hn : n ≤ 8 * l.length) (hlen : l.length ≤ 1000) :
    Calls Try.prog 26 #[v, .int .i64 n] w fun e w' => ∃ u, e = .returned (.tuple #[u, .int .i64 0]) ∧ Bsl w' u (unpackL l n) ∧ Below w.heap.size w w' := by
  obtain ⟨i0, hi, hz0, hz1, hz2⟩ := info_parts info5
  obtain ⟨a, cap, rfl, h1, h2, h3, h4⟩ := hv
  have hn0 : ¬ (n : Int) < 0 := by omega
  have hq : ¬ (l.length : Int) < (n : Int) / 8 := by omega
  have hcase : ¬ (n : Int) / 8 = l.length ∨ ((n : Int) / 8 = l.length ∧ ¬ (0 : Int) < (n : Int) % 8) := by omega
  have H3 := Lib.hid h3
  have H2 := Lib.hid h2
  clear h2 h3
  go_enter Try.func26, Try.ntmps26
  rcases hcase with h0 | ⟨h0, h0'⟩
  all_goals
    go_wp2
    clear h0
    go_loopw [6, 7] (fun r t wr => ∃ k : Nat, k ≤ n ∧ t = .int .i64 k ∧ wr.ownsRow w.heap.size 5 1 r (unpackL l k).length ((unpackL l k).map B) ∧ Below w.heap.size w wr) (fun _ t _ => n - (intOf t).toNat)
    case atStart => exact ⟨0, by omega, rfl, own_nil _ _, Below.refl _ _⟩
    case round =>
      obtain ⟨k, hk, rfl, hown, hB⟩ := hrel
      by_cases hlt : k < n
      · obtain ⟨b, o, rfl, hbl, hc⟩ := h4 (by omega)
        have hk8 : k / 8 < l.length := by omega
        have c1 := (hB.cell (p := ⟨b, o + k / 8, none⟩) hbl).trans (hc (k / 8) hk8)
        have h9 := lt256 (gd l (k / 8))
        have hT := unpackL_take l k
        have hlen2 : (unpackL l k).length ≤ 10000 := by rw [unpackL_length]; omega
        obtain ⟨M, hM⟩ : ∃ M, M = unpackL l k := ⟨_, rfl⟩
        rw [← hM] at hT hlen2 hown
        obtain ⟨x, hx⟩ : ∃ x, x = (gd l (k / 8)).toNat := ⟨_, rfl⟩
        rw [← hx] at c1 h9 hT
        have i1 : (k : Int) / 8 = ((k / 8 : Nat) : Int) := by omega
        have i2 : (k : Int) % 8 = ((k % 8 : Nat) : Int) := by omega
        obtain ⟨q, hq'⟩ : ∃ q, q = k / 8 := ⟨_, rfl⟩
        obtain ⟨r, hr⟩ : ∃ q, q = k % 8 := ⟨_, rfl⟩
        have hr8 : r < 8 := by omega
        rw [← hq'] at c1 i1 hk8
        rw [← hr] at i2 hT
        have k1 := IntWalk.i64_in (7 - (r : Int)) (by omega)
        have k3 : 0 ≤ 7 - (r : Int) := by omega
        have k4 : (7 - (r : Int)).toNat = 7 - r := by omega
        have e2 : ((x : Int) / 2 ^ (7 - r)).tmod 2 = ((x / 2 ^ (7 - r) % 2 : Nat) : Int) := by rw [nat_div, Int.tmod_eq_emod_of_nonneg (Int.natCast_nonneg _), Int.natCast_emod]; rfl
        have hm2 : x / 2 ^ (7 - r) % 2 < 2 := Nat.mod_lt _ (by decide)
        obtain ⟨y, hy⟩ : ∃ y, y = x / 2 ^ (7 - r) % 2 := ⟨_, rfl⟩
        rw [← hy] at e2 hm2 hT
        have HT := Lib.hid hT
        have hsz := hB.size
        clear hT hM hx hc hq' hr hy
        go_wp2_with (first
          | (at_builtin; refine wpList_append_own _ rfl (.tmp 32) (.tmp 43) 23 rfl w.heap.size 5 i0 (.int .u8 0) 1 1 Try.underlying23 hi hz0 hz1 hz2 rfl (by decide) _ M.length (M.map B) rfl (hown.alloc _) ⟨wr.heap.size, 0, none⟩ 1 1 [.int .u8 (y : Int)] rfl rfl ?_ ?_ ?_ ?_ ?_ ?_; (exact one_new _ _ _); (exact one_one _ _); (unfold maxLen; omega); (omega); (exact le_alloc hsz _); intro v6 w6 h6 hg6 _; have hB6 := (hB.alloc hsz _).grown hg6 (le_alloc hsz _) (own_ge hown); rw [one_byte M y (by omega), ← HT.out] at h6)
          | fail)
        rw [show M.length + 1 = (unpackL l (k + 1)).length by rw [HT.out]; simp] at h6
        exact ⟨⟨k + 1, by omega, by go_num, h6, hB6⟩, by simp [intOf]; omega⟩
      · obtain rfl : k = n := by omega
        go_wp2
        go_ret2
        exact ⟨_, rfl, bsl_own hown, hB⟩

/-- What Unpack answers. -/
def upL (p : List UInt8) (n : Int) : List UInt8 := if n < 0 then [] else if 8 * (p.length : Int) < n then [] else unpackL p n.toNat
def upE (p : List UInt8) (n : Int) : Int := if n < 0 then 2 else if 8 * (p.length : Int) < n then 5 else 0
theorem unpack_any (l : List UInt8) (n : Int) (v : Value) (w : World) (hv : Bsl w v l) (hlen : l.length ≤ 1000) :
    Calls Try.prog 24 #[v, .int .i64 n] w fun e w' => ∃ u, e = .returned (.tuple #[u, .int .i64 (upE l n)]) ∧ Bsl w' u (upL l n) ∧ Below w.heap.size w w' := by
  unfold upE upL
  by_cases h : n < 0
  · rw [if_pos h, if_pos h]
    refine (unpack_neg v n h w l hv).mono ?_
    rintro e w' ⟨rfl, hB⟩
    exact ⟨_, rfl, bsl_nil _, hB⟩
  · rw [if_neg h, if_neg h]
    obtain ⟨m, rfl⟩ : ∃ m : Nat, n = m := ⟨n.toNat, by omega⟩
    rw [Int.toNat_natCast]
    by_cases k : 8 * (l.length : Int) < m
    · rw [if_pos k, if_pos k]
      refine (unpack_short l m v w hv (by omega) hlen).mono ?_
      rintro e w' ⟨rfl, hB⟩
      exact ⟨_, rfl, bsl_nil _, hB⟩
    · rw [if_neg k, if_neg k]
      exact unpack_ok l m v w hv (by omega) hlen
theorem runpack_any (l : List UInt8) (n : Int) (hn : n < 9223372036854775808) (v : Value) (w : World) (hv : Bsl w v l) (hlen : l.length ≤ 1000) :
    Calls Try.prog 26 #[v, .int .i64 n] w fun e w' => ∃ u, e = .returned (.tuple #[u, .int .i64 (upE l n)]) ∧ Bsl w' u (upL l n) ∧ Below w.heap.size w w' := by
  unfold upE upL
  by_cases h : n < 0
  · rw [if_pos h, if_pos h]
    refine (runpack_neg v n h w).mono ?_
    rintro e w' ⟨rfl, hB⟩
    exact ⟨_, rfl, bsl_nil _, hB⟩
  · rw [if_neg h, if_neg h]
    obtain ⟨m, rfl⟩ : ∃ m : Nat, n = m := ⟨n.toNat, by omega⟩
    rw [Int.toNat_natCast]
    by_cases k : 8 * (l.length : Int) < m
    · rw [if_pos k, if_pos k]
      refine (runpack_short l m v w hv (by omega) (by omega)).mono ?_
      rintro e w' ⟨rfl, hB⟩
      exact ⟨_, rfl, bsl_nil _, hB⟩
    · rw [if_neg k, if_neg k]
      exact runpack_ok l m v w hv (by omega) hlen

theorem pack_err (l : List UInt8) (v : Value) (w : World) (hv : Bsl w v l) (hlen : l.length ≤ 10000) (hok : okb l = false) :
    Calls Try.prog 23 #[v] w fun e w' => e = .returned (.tuple #[.slice none 0 0, .int .i64 3]) ∧ Below w.heap.size w w' := by
  have hB1 := (Below.refl w.heap.size w).alloc (Nat.le_refl _) (.cells #[v] 23)
  have hv1 := hv.below hB1
  obtain ⟨a, cap, rfl, h1, h2, h3, h4⟩ := hv
  have HOK := Lib.hid hok
  clear h2 h3 h4 hok
  go_enter Try.func23, Try.ntmps23
  go_wp2
  refine wp_scope_jumps 0 (fun a' w' => ∃ c d e f g h, a' = { tmps := #[.slice a l.length cap, undef, .slice none 0 0, .int .i64 3, undef, undef, undef, undef, undef, .slice a l.length cap, c, d, e, undef, undef, undef, undef, undef, undef, undef, undef, undef, undef, undef, undef, undef, undef, undef, undef, undef, undef, undef, undef, undef, undef, undef, undef, undef, undef, undef, undef, undef, undef, f, g, h], defers := [] } ∧ Below w.heap.size w w') (fun _ _ => 0) rfl ?_ ?_
  · go_wp2_with (go_at_call 34; (with_reducible refine (valid1 l _ _ _ _ (Blk.new' rfl) hv1 ?_).mono ?_); (omega); rintro e w' ⟨rfl, hw⟩; subst w'; rw [HOK.out])
    go_step3
    exact ⟨rfl, _, _, _, _, _, _, rfl, hB1⟩
  · rintro a1 w1 ⟨c, d, e, f, g, h, rfl, hB⟩
    go_wp2
    simp only [Exit.jump]
    go_ret2
    exact ⟨rfl, hB⟩
/-- What Pack answers. -/
def paL (l : List UInt8) : List UInt8 := if okb l then packL ((l.length + 7) / 8) l else []
def paE (l : List UInt8) : Int := if okb l then 0 else 3
theorem pack_any (l : List UInt8) (v : Value) (w : World) (hv : Bsl w v l) (hlen : l.length ≤ 10000) :
    Calls Try.prog 23 #[v] w fun e w' => ∃ u, e = .returned (.tuple #[u, .int .i64 (paE l)]) ∧ Bsl w' u (paL l) ∧ Below w.heap.size w w' := by
  unfold paE paL
  cases hok : okb l with
  | true => exact pack_ok l v w hv hlen hok
  | false =>
    refine (pack_err l v w hv hlen hok).mono ?_
    rintro e w' ⟨rfl, hB⟩
    exact ⟨_, rfl, bsl_nil _, hB⟩
theorem rpack_err (l : List UInt8) (v : Value) (w : World) (hv : Bsl w v l) (hlen : l.length ≤ 10000) (hok : okb l = false) :
    Calls Try.prog 25 #[v] w fun e w' => e = .returned (.tuple #[.slice none 0 0, .int .i64 3]) ∧ Below w.heap.size w w' := by
  go_enter Try.func25, Try.ntmps25
  go_wp2_with (go_at_call 28; (with_reducible refine (rvalid_any l _ _ hv ?_).mono ?_); (omega); rintro e w' ⟨rfl, hw⟩; subst w'; rw [hok])
  go_ret2
  exact ⟨rfl, Below.refl _ _⟩

/-- The packed row behind k bits. -/
def rp (l : List UInt8) (m k : Nat) : List UInt8 := (List.range m).map (fun j => UInt8.ofNat (pb l j (min 8 (k - 8 * j))))
theorem rp_length (l : List UInt8) (m k : Nat) : (rp l m k).length = m := by simp [rp]
theorem rp_gd (l : List UInt8) (m k j : Nat) (h : j < m) : gd (rp l m k) j = UInt8.ofNat (pb l j (min 8 (k - 8 * j))) := gd_map_range _ _ _ h
theorem rp_zero (l : List UInt8) (m : Nat) : List.replicate m (0 : UInt8) = rp l m 0 := by
  apply ext_gd (by simp [rp_length])
  intro i hi
  rw [rp_gd l m 0 i (by simpa using hi), gd_replicate]
  simp [pb]
theorem rp_end (l : List UInt8) (m : Nat) : rp l m l.length = packL m l := by
  apply ext_gd (by simp [rp_length, packL_length])
  intro i hi
  rw [rp_length] at hi
  rw [rp_gd l m _ i hi, packL_gd m l i hi, pb_end l i (min 8 (l.length - 8 * i)) (by omega) (by omega)]
theorem rp_at (l : List UInt8) (m k : Nat) (h : k / 8 < m) : gd (rp l m k) (k / 8) = UInt8.ofNat (pb l (k / 8) (k % 8)) := by
  rw [rp_gd l m k _ h, show min 8 (k - 8 * (k / 8)) = k % 8 by omega]
theorem rp_set (l : List UInt8) (m k : Nat) (h : k / 8 < m) : (rp l m k).set (k / 8) (UInt8.ofNat (pb l (k / 8) (k % 8 + 1))) = rp l m (k + 1) := by
  apply ext_gd (by simp [rp_length])
  intro i hi
  have him : i < m := by simpa [rp_length] using hi
  rw [gd_set _ _ _ _ (by rw [rp_length]; omega), rp_gd l m k i him, rp_gd l m (k + 1) i him]
  by_cases e : k / 8 = i
  · rw [if_pos e, ← e, show min 8 (k + 1 - 8 * (k / 8)) = k % 8 + 1 by omega]
  · rw [if_neg e, show min 8 (k + 1 - 8 * i) = min 8 (k - 8 * i) by omega]
theorem rp_stay (l : List UInt8) (m k : Nat) (h : gd l k = 0) : rp l m (k + 1) = rp l m k := by
  apply ext_gd (by simp [rp_length])
  intro i hi
  have him : i < m := by simpa [rp_length] using hi
  rw [rp_gd l m k i him, rp_gd l m (k + 1) i him]
  by_cases e : k / 8 = i
  · subst e
    rw [show min 8 (k + 1 - 8 * (k / 8)) = k % 8 + 1 by omega, show min 8 (k - 8 * (k / 8)) = k % 8 by omega, pb, show 8 * (k / 8) + k % 8 = k by omega, h]
    simp
  · rw [show min 8 (k + 1 - 8 * i) = min 8 (k - 8 * i) by omega]

set_option maxHeartbeats 800000 in
theorem rpack_ok (l : List UInt8) (v : Value) (w : World) (hv : Bsl w v l) (hlen : l.length ≤ 10000) (hok : okb l = true) :
    Calls Try.prog 25 #[v] w fun e w' => ∃ u, e = .returned (.tuple #[u, .int .i64 0]) ∧ Bsl w' u (packL ((l.length + 7) / 8) l) ∧ Below w.heap.size w w' := by
  obtain ⟨i0, hi, hz0, hz1, hz2⟩ := info_parts info5
  have hv0 := hv
  obtain ⟨a, cap, rfl, h1, h2, h3, h4⟩ := hv
  have HOK := Lib.hid hok
  obtain ⟨m, hm⟩ : ∃ m, m = (l.length + 7) / 8 := ⟨_, rfl⟩
  have hmI : ((l.length : Int) + 7) / 8 = (m : Int) := by omega
  have hml : m ≤ 2000 := by omega
  rw [← hm]
  have HM := Lib.hid hm
  clear h2 h3 hok hm
  go_enter Try.func25, Try.ntmps25
  go_wp2_with (first
    | (go_at_call 28; (with_reducible refine (rvalid_any l _ _ hv0 ?_).mono ?_); (omega); rintro e w' ⟨rfl, hw⟩; subst w'; rw [HOK.out])
    | (at_make; refine wpList_make_full _ rfl (.tmp 12) (.tmp 12) 23 rfl w.heap.size 5 i0 (.int .u8 0) 1 Try.underlying23 hi hz0 hz1 .i64 .i64 _ _ m rfl rfl hmI hmI ?_ ?_ (Nat.le_refl _) ?_; (rw [hz2]; omega); (unfold maxLen; omega); intro w1 hown hg)
    | fail)
  rw [made_bytes, rp_zero l] at hown
  obtain ⟨b0, _⟩ := blk_made hown
  have hB : Below w.heap.size w w1 := (Below.refl _ _).grown hg (Nat.le_refl _) (fun k hk => by cases hk)
  clear hown hg
  go_loopw [5] (fun t wr => ∃ k : Nat, k ≤ l.length ∧ t = .int .i64 k ∧ Blk wr w.heap.size (bytesV (rp l m k)) 5 ∧ Below w.heap.size w wr) (fun t _ => l.length - (intOf t).toNat)
  case atStart => exact ⟨0, by omega, rfl, b0, hB⟩
  case round =>
    clear b0 hB
    obtain ⟨k, hk, rfl, b0, hB⟩ := hrel
    by_cases hlt : k < l.length
    · obtain ⟨b, o, rfl, hbl, hc⟩ := h4 (by omega)
      have c0 := (hB.cell (p := ⟨b, o + k, none⟩) hbl).trans (hc k hlt)
      rcases bit_cases (okb_get l HOK.out k) with e | e
      · rw [e] at c0
        have c0' : wr.cell? ⟨b, o + k, none⟩ = some (.int .u8 0) := c0
        rw [← rp_stay l m k e] at b0
        clear c0 hc e
        go_wp2
        exact ⟨⟨k + 1, by omega, by go_num, b0, hB⟩, by simp [intOf]; omega⟩
      · rw [e] at c0
        have c0' : wr.cell? ⟨b, o + k, none⟩ = some (.int .u8 1) := c0
        have hkm : k / 8 < m := by rw [HM.out]; omega
        have hat := rp_at l m k hkm
        have hset := rp_set l m k hkm
        have hrl := rp_length l m k
        have hplt := pb_lt l HOK.out (k / 8) (k % 8) (by omega)
        have hpb : pb l (k / 8) (k % 8 + 1) = pb l (k / 8) (k % 8) + 2 ^ (7 - k % 8) := by
          rw [pb, show 8 * (k / 8) + k % 8 = k by omega, e]; simp
        have hpow : 2 ^ (7 - k % 8) ≤ 2 ^ (8 - k % 8) := Nat.pow_le_pow_right (by decide) (by omega)
        have hpos : 0 < 2 ^ (7 - k % 8) := Nat.two_pow_pos _
        have hdbl : 2 ^ (8 - k % 8) = 2 ^ (7 - k % 8) * 2 := by rw [show 8 - k % 8 = (7 - k % 8) + 1 by omega, Nat.pow_succ]
        have i1 : (k : Int) / 8 = ((k / 8 : Nat) : Int) := by omega
        have i2 : (k : Int) % 8 = ((k % 8 : Nat) : Int) := by omega
        have cq := b0.drew.gd (k / 8) (by rw [hrl]; exact hkm)
        have r0 := b0.drew.set (k / 8) (B (UInt8.ofNat (pb l (k / 8) (k % 8 + 1))))
        rw [bytesV_set, hset, hpb] at r0
        rw [hat] at cq
        obtain ⟨q, hq'⟩ : ∃ q, q = k / 8 := ⟨_, rfl⟩
        obtain ⟨r, hr⟩ : ∃ q, q = k % 8 := ⟨_, rfl⟩
        have hr8 : r < 8 := by omega
        rw [← hq'] at cq i1 hkm r0
        rw [← hr] at i2 hpos hpow hdbl
        rw [← hq', ← hr] at hplt
        rw [← hr] at cq r0
        obtain ⟨P, hP⟩ : ∃ P, P = pb l q r := ⟨_, rfl⟩
        rw [← hP] at hplt cq r0
        rw [toNat_small P (by omega)] at cq
        rw [B_of _ (by omega)] at r0
        have k1 := IntWalk.i64_in (7 - (r : Int)) (by omega)
        have k3 : 0 ≤ 7 - (r : Int) := by omega
        have k4 : (7 - (r : Int)).toNat = 7 - r := by omega
        have hlow : 2 ^ (7 - r) < 256 := by omega
        have p1 : IntKind.u8.wrap (2 ^ (7 - r) : Int) = ((2 ^ (7 - r) : Nat) : Int) := by
          rw [← wrap_u8 _ hlow]; congr 1
        have f0 := b0.drew.frozen q
        have hsum : P + 2 ^ (7 - r) < 256 := by omega
        obtain ⟨Z, hZ⟩ : ∃ Z, Z = 2 ^ (7 - r) := ⟨_, rfl⟩
        rw [← hZ] at p1 hsum r0
        have p2 : IntKind.u8.wrap ((P : Int) + (Z : Int)) = ((P + Z : Nat) : Int) := wrap_u8 _ hsum
        have hqm : q < m := hkm
        have hqI : (q : Int) < m := by omega
        clear hset hq' hr hc e hat hpb hP hrl hpow hpos hdbl hlow hZ b0 c0 hplt
        go_wp2
        go_region
        go_wp2
        exact ⟨⟨k + 1, by omega, by go_num, r0, hB.drew.setCell (Nat.le_refl _) _⟩, by simp [intOf]; omega⟩
    · obtain rfl : k = l.length := by omega
      rw [rp_end] at b0
      have hll := packL_length m l
      go_wp2
      go_ret2
      refine ⟨_, rfl, ?_, hB⟩
      have := bsl_row b0 (by rw [hll]; unfold maxLen; omega)
      rwa [hll] at this

theorem rpack_any (l : List UInt8) (v : Value) (w : World) (hv : Bsl w v l) (hlen : l.length ≤ 10000) :
    Calls Try.prog 25 #[v] w fun e w' => ∃ u, e = .returned (.tuple #[u, .int .i64 (paE l)]) ∧ Bsl w' u (paL l) ∧ Below w.heap.size w w' := by
  unfold paE paL
  cases hok : okb l with
  | true => exact rpack_ok l v w hv hlen hok
  | false =>
    refine (rpack_err l v w hv hlen hok).mono ?_
    rintro e w' ⟨rfl, hB⟩
    exact ⟨_, rfl, bsl_nil _, hB⟩
theorem wf_i64 {a : Int} (h : (Lit.int .i64 a).wf = true) : a < 9223372036854775808 := by
  have hmin : IntKind.i64.min = -9223372036854775808 := rfl
  have hmax : IntKind.i64.max = 9223372036854775807 := rfl
  simp only [Lit.wf, Bool.and_eq_true, decide_eq_true_eq] at h
  omega

set_option maxRecDepth 100000 in
set_option maxHeartbeats 2000000 in
theorem walk_BitstrPack (v0 : Value) (x : List UInt8) (v1 : Value) (y : List UInt8) (n : Int) (hn : (Lit.int .i64 n).wf = true) (w : World) (h0 : Bsl w v0 x) (h1 : Bsl w v1 y) :
    Calls Try.prog 7 #[v0, v1, .int .i64 n] w fun e w' => e = .returned (.bool true) ∧ Below w.heap.size w w' := by
  have H0 := h0
  have H1 := h1
  have HN := Lib.hid (wf_i64 hn)
  clear hn
  obtain ⟨a0, cap0, rfl, p1, _⟩ := h0
  obtain ⟨a1, cap1, rfl, q1, _⟩ := h1
  obtain ⟨L, hL⟩ : ∃ L, L = paL x := ⟨_, rfl⟩
  obtain ⟨E, hE⟩ : ∃ L, L = paE x := ⟨_, rfl⟩
  obtain ⟨M, hM⟩ : ∃ L, L = upL y n := ⟨_, rfl⟩
  obtain ⟨F, hF⟩ : ∃ L, L = upE y n := ⟨_, rfl⟩
  have HL := Lib.hid hL
  have HE := Lib.hid hE
  have HM := Lib.hid hM
  have HF := Lib.hid hF
  clear hL hE hM hF p1 q1
  by_cases hx : 1000 < x.length
  · have hh : (1000 : Int) < (x.length : Int) := by omega
    clear H0 H1
    go_enter Try.func7, Try.ntmps7
    go_wp2_with (go_at_call 10; (with_reducible refine (works_any _).mono ?_); rintro e w9 ⟨rfl, hB⟩)
    go_ret
    exact ⟨rfl, hB⟩
  · have hh : ¬ (1000 : Int) < (x.length : Int) := by omega
    by_cases hy : 1000 < y.length
    · have hh2 : (1000 : Int) < (y.length : Int) := by omega
      clear H0 H1
      go_enter Try.func7, Try.ntmps7
      go_wp2_with (go_at_call 10; (with_reducible refine (works_any _).mono ?_); rintro e w9 ⟨rfl, hB⟩)
      go_ret
      exact ⟨rfl, hB⟩
    · have hh2 : ¬ (1000 : Int) < (y.length : Int) := by omega
      go_enter Try.func7, Try.ntmps7
      go_wp2_with (first
        | (go_at_call 23; (with_reducible refine (pack_any x _ _ H0 ?_).mono ?_); (omega); rintro e w1 ⟨v5, rfl, h5, hB⟩; rw [← HL.out] at h5; rw [← HE.out]; replace H0 := H0.below hB; replace H1 := H1.below hB)
        | (go_at_call 25; (with_reducible refine (rpack_any x _ _ H0 ?_).mono ?_); (omega); rintro e w2 ⟨v7, rfl, h7, hb⟩; rw [← HL.out] at h7; rw [← HE.out]; replace H0 := H0.below hb; replace H1 := H1.below hb; replace h5 := h5.below hb; replace hB := bnext hB hb; clear hb)
        | (go_at_call 24; (with_reducible refine (unpack_any y n _ _ H1 ?_).mono ?_); (omega); rintro e w3 ⟨v9, rfl, h9, hb⟩; rw [← HM.out] at h9; rw [← HF.out]; replace H0 := H0.below hb; replace H1 := H1.below hb; replace h5 := h5.below hb; replace h7 := h7.below hb; replace hB := bnext hB hb; clear hb)
        | (go_at_call 26; (with_reducible refine (runpack_any y n HN.out _ _ H1 ?_).mono ?_); (omega); rintro e w4 ⟨v11, rfl, h11, hb⟩; rw [← HM.out] at h11; rw [← HF.out]; replace H0 := H0.below hb; replace h5 := h5.below hb; replace h7 := h7.below hb; replace h9 := h9.below hb; replace hB := bnext hB hb; clear hb)
        | (go_at_call 27; (with_reducible refine (valid_any x _ _ H0 ?_).mono ?_); (omega); rintro e w5 ⟨rfl, hb⟩; replace H0 := H0.below hb; replace h5 := h5.below hb; replace h7 := h7.below hb; replace h9 := h9.below hb; replace h11 := h11.below hb; replace hB := bnext hB hb; clear hb)
        | (go_at_call 28; (with_reducible refine (rvalid_any x _ _ H0 ?_).mono ?_); (omega); rintro e w' ⟨rfl, hw'⟩; subst w')
        | (go_at_call 15; (with_reducible refine (same_any L L _ _ _ h5 h7).mono ?_); rintro e w' ⟨rfl, hw'⟩; subst w'; rw [decide_self])
        | (go_at_call 15; (with_reducible refine (same_any M M _ _ _ h9 h11).mono ?_); rintro e w' ⟨rfl, hw'⟩; subst w'; rw [decide_self])
        | (go_at_call 16; (with_reducible refine (num_any _ _).mono ?_); rintro e w' ⟨rfl, hw'⟩; subst w')
        | (go_at_call 10; (with_reducible refine (works_any _).mono ?_); rintro e w6 ⟨rfl, hb⟩; replace hB := bnext hB hb; clear hb)
        | fail)
      go_ret
      exact ⟨rfl, hB⟩
end Go.Proofs.Ytflmbghbgmkdeaa
