/-
  Bit strings, walks: FromUint, Unpack, Xor, Distance.
-/
import Derived.Test.YtflmbghbgmkdeaaBitB
set_option linter.unusedSimpArgs false
set_option linter.unusedVariables false
namespace Go.Proofs.Ytflmbghbgmkdeaa
open Go.RowKit

set_option maxHeartbeats 400000 in
theorem fromuint_ok (v n : Nat) (hv : v < 2 ^ 64) (hn : n ≤ 64) (hvn : v < 2 ^ n) (w : World) :
    Calls Try.prog 11 #[.int .u64 v, .int .i64 n] w fun e w' => ∃ u, e = .returned (.tuple #[u, .int .i64 0]) ∧ Bsl w' u (bitsL v n) ∧ Below w.heap.size w w' := by
  obtain ⟨W, hW⟩ : ∃ W, W = (w.alloc (.cells #[.int .u64 v] 22)).alloc (.cells #[.int .i64 n] 3) := ⟨_, rfl⟩
  have b0 : Blk W w.heap.size #[.int .u64 v] 22 := by rw [hW]; exact (Blk.new' rfl).alloc _
  have b1 : Blk W (w.heap.size + 1) #[.int .i64 n] 3 := by rw [hW]; exact Blk.new' (by simp)
  have hB : Below w.heap.size w W := by rw [hW]; exact ((Below.refl _ _).alloc (Nat.le_refl _) _).alloc (by simp) _
  have hcall : ∀ (k : Nat) (w' : World), k < n → Below W.heap.size W w' → Calls Try.prog 33 #[.int .i64 k, .pointer (some ⟨w.heap.size, 0, none⟩), .pointer (some ⟨w.heap.size + 1, 0, none⟩)] w' fun e w'' => e = .returned (.int .u8 ((fun i => UInt8.ofNat (v / 2 ^ (n - 1 - i) % 2)) k).toNat) ∧ Below w'.heap.size w' w'' :=
    fun k w' hk hb => cl33 v n k hv hn hk _ _ w' ((b0.below hb b0.lt).cell 0) ((b1.below hb b1.lt).cell 0)
  have HC := Lib.hid hcall
  have HW := Lib.hid hW
  have hs : ((v : Int) / 2 ^ n) = 0 := by rw [nat_div, Nat.div_eq_of_lt hvn]; rfl
  clear hW hv hvn hcall b0 b1
  go_enter Try.func11, Try.ntmps11
  go_wp2_with fail
  all_goals
    rw [← HW.out]
    refine (made33 _ n (by omega) w.heap.size (w.heap.size + 1) _ HC.out).mono ?_
    rintro e w2 ⟨u, rfl, hu, hb1⟩
    go_wp2
    go_ret2
    exact ⟨u, rfl, hu, bnext hB hb1⟩

theorem fromuint_long (v n : Nat) (hn : n < 64) (hvn : 2 ^ n ≤ v) (w : World) :
    Calls Try.prog 11 #[.int .u64 v, .int .i64 n] w fun e w' => e = .returned (.tuple #[.slice none 0 0, .int .i64 4]) ∧ Below w.heap.size w w' := by
  have hs : (((v : Int) / 2 ^ n) != 0) = true := by
    have : v / 2 ^ n ≠ 0 := by
      have := Nat.div_pos hvn (Nat.two_pow_pos n)
      omega
    rw [nat_div]
    simp only [bne_iff_ne]
    omega
  have hnI : (n : Int) < 64 := by omega
  clear hvn
  go_enter Try.func11, Try.ntmps11
  go_wp2
  go_ret2
  exact ⟨rfl, ((Below.refl _ _).alloc (Nat.le_refl _) _).alloc (by simp) _⟩

set_option maxHeartbeats 400000 in
theorem unpack_ok (l : List UInt8) (n : Nat) (v : Value) (w : World) (hv : Bsl w v l) (hn : n ≤ 8 * l.length) (hlen : l.length ≤ 1000) :
    Calls Try.prog 24 #[v, .int .i64 n] w fun e w' => ∃ u, e = .returned (.tuple #[u, .int .i64 0]) ∧ Bsl w' u (unpackL l n) ∧ Below w.heap.size w w' := by
  obtain ⟨a, cap, rfl, h1, h2, h3, h4⟩ := hv
  obtain ⟨W, hW⟩ : ∃ W, W = w.alloc (.cells #[.slice a l.length cap] 23) := ⟨_, rfl⟩
  have b0 : Blk W w.heap.size #[.slice a l.length cap] 23 := by rw [hW]; exact Blk.new' rfl
  have hB : Below w.heap.size w W := by rw [hW]; exact (Below.refl _ _).alloc (Nat.le_refl _) _
  have hcall : ∀ (k : Nat) (w' : World), k < n → Below W.heap.size W w' → Calls Try.prog 36 #[.int .i64 k, .pointer (some ⟨w.heap.size, 0, none⟩)] w' fun e w'' => e = .returned (.int .u8 ((fun i => UInt8.ofNat ((gd l (i / 8)).toNat / 2 ^ (7 - i % 8) % 2)) k).toNat) ∧ Below w'.heap.size w' w'' :=
    fun k w' hk hb => cl36 l a cap k n hk hn (by omega) _ w' ((h4.cells hB).cells hb) ((b0.below hb b0.lt).cell 0)
  have HC := Lib.hid hcall
  have HW := Lib.hid hW
  have H2 := Lib.hid h2
  have H3 := Lib.hid h3
  clear hW hcall b0 h2 h3 h4
  go_enter Try.func24, Try.ntmps24
  go_wp2_with fail
  rw [← HW.out]
  refine (made36 _ n (by omega) w.heap.size _ HC.out).mono ?_
  rintro e w2 ⟨u, rfl, hu, hb1⟩
  go_wp2
  go_ret2
  exact ⟨u, rfl, hu, bnext hB hb1⟩
theorem unpack_short (l : List UInt8) (n : Nat) (v : Value) (w : World) (hv : Bsl w v l) (hn : 8 * l.length < n) (hlen : l.length ≤ 1000) :
    Calls Try.prog 24 #[v, .int .i64 n] w fun e w' => e = .returned (.tuple #[.slice none 0 0, .int .i64 5]) ∧ Below w.heap.size w w' := by
  obtain ⟨a, cap, rfl, h1, h2, h3, h4⟩ := hv
  have hI : 8 * (l.length : Int) < (n : Int) := by omega
  clear h2 h3 h4
  go_enter Try.func24, Try.ntmps24
  go_wp2
  go_ret2
  exact ⟨rfl, (Below.refl _ _).alloc (Nat.le_refl _) _⟩

theorem cl35 (x y : List UInt8) (a b : Option Addr) (ca cb k : Nat) (hx : k < x.length) (hy : k < y.length) (hlen : x.length ≤ 10000) (hlen' : y.length ≤ 10000) (c0 c1 : Nat) (w : World) (ha : Byt w a x) (hb : Byt w b y)
    (h0 : w.cell? ⟨c0, 0, none⟩ = some (.slice a x.length ca)) (h1 : w.cell? ⟨c1, 0, none⟩ = some (.slice b y.length cb)) :
    Calls Try.prog 35 #[.int .i64 k, .pointer (some ⟨c0, 0, none⟩), .pointer (some ⟨c1, 0, none⟩)] w fun e w' => e = .returned (.int .u8 (gd x k ^^^ gd y k).toNat) ∧ Below w.heap.size w w' := by
  obtain ⟨p, o, rfl, hpl, hp⟩ := ha (by omega)
  obtain ⟨q, o', rfl, hql, hq⟩ := hb (by omega)
  have d0 := hp k hx
  have d1 := hq k hy
  have hbx := bits_x8 (gd x k) (gd y k)
  obtain ⟨X, hX⟩ : ∃ X : Int, X = ((gd x k).toNat : Int) := ⟨_, rfl⟩
  obtain ⟨Y, hY⟩ : ∃ X : Int, X = ((gd y k).toNat : Int) := ⟨_, rfl⟩
  rw [← hX] at d0 hbx
  rw [← hY] at d1 hbx
  have HBX := Lib.hid hbx
  clear hX hY hp hq hbx
  go_enter Try.func35, Try.ntmps35
  go_wp2_with fail
  go_still (by kernel_rfl)
  change Exit.then _ _ _ _ w.drew
  go_wp2
  go_ret
  rw [HBX.out]
  exact ⟨rfl, (Below.refl _ _).drew⟩

set_option maxHeartbeats 400000 in
theorem valid2 (x y : List UInt8) (v u : Value) (g c : Nat) (w : World) (hg : Blk w g #[v, u] 23) (hv : Bsl w v x) (hu : Bsl w u y) (hx : x.length ≤ 100000) (hy : y.length ≤ 100000) (hok : okb x = true) :
    Calls Try.prog 34 #[.slice (some ⟨g, 0, none⟩) 2 c] w fun e w' => e = .returned (.bool (okb y)) ∧ w' = w := by
  obtain ⟨a, cap, rfl, h1, h2, h3, h4⟩ := hv
  obtain ⟨b, cap', rfl, k1, k2, k3, k4⟩ := hu
  have c0 : w.cell? ⟨g, 0, none⟩ = some (.slice a x.length cap) := hg.cell 0
  have c1 : w.cell? ⟨g, 1, none⟩ = some (.slice b y.length cap') := hg.cell 1
  have HX := Lib.hid hok
  clear h2 h3 k2 k3 hok
  go_enter Try.func34, Try.ntmps34
  go_wp2
  refine wp_loop_rounds 3 ?_
  rw [rounds_succ]
  go_wp2_with (go_at_call 41; (with_reducible refine (contains_any x a cap _ h4 hx).mono ?_); rintro e w' ⟨rfl, hw⟩; subst w'; rw [HX.out, Bool.not_true])
  rw [rounds_succ]
  cases hr : okb y with
  | true =>
    have HR := Lib.hid hr
    clear hr
    go_wp2_with (go_at_call 41; (with_reducible refine (contains_any y b cap' _ k4 hy).mono ?_); rintro e w' ⟨rfl, hw⟩; subst w'; rw [HR.out, Bool.not_true])
    rw [rounds_succ]
    go_wp2
    go_ret
    rw [HR.out]
    exact ⟨rfl, rfl⟩
  | false =>
    have HR := Lib.hid hr
    clear hr
    go_wp2_with (go_at_call 41; (with_reducible refine (contains_any y b cap' _ k4 hy).mono ?_); rintro e w' ⟨rfl, hw⟩; subst w'; rw [HR.out, Bool.not_false])
    go_ret
    rw [HR.out]
    exact ⟨rfl, rfl⟩

theorem xorL_range (x y : List UInt8) (h : x.length = y.length) : (List.range x.length).map (fun k => gd x k ^^^ gd y k) = xorL x y := by
  apply ext_gd (by simp [xorL_length x y h])
  intro i hi
  have hi' : i < x.length := by simpa using hi
  rw [gd_map_range _ _ _ hi', xorL_gd x y h]

set_option maxHeartbeats 400000 in
theorem xor_ok (x y : List UInt8) (v u : Value) (w : World) (hv : Bsl w v x) (hu : Bsl w u y) (hl : x.length = y.length) (hx : okb x = true) (hy : okb y = true) (hlen : x.length ≤ 10000) :
    Calls Try.prog 17 #[v, u] w fun e w' => ∃ r, e = .returned (.tuple #[r, .int .i64 0]) ∧ Bsl w' r (xorL x y) ∧ Below w.heap.size w w' := by
  have hv0 := hv
  have hu0 := hu
  obtain ⟨a, cap, rfl, h1, h2, h3, h4⟩ := hv
  obtain ⟨b, cap', rfl, k1, k2, k3, k4⟩ := hu
  rw [← hl] at hu0 k1 ⊢
  obtain ⟨W, hW⟩ : ∃ W, W = (w.alloc (.cells #[.slice a x.length cap] 23)).alloc (.cells #[.slice b x.length cap'] 23) := ⟨_, rfl⟩
  have b0 : Blk W w.heap.size #[.slice a x.length cap] 23 := by rw [hW]; exact (Blk.new' rfl).alloc _
  have b1 : Blk W (w.heap.size + 1) #[.slice b x.length cap'] 23 := by rw [hW]; exact Blk.new' (by simp)
  have hB : Below w.heap.size w W := by rw [hW]; exact ((Below.refl _ _).alloc (Nat.le_refl _) _).alloc (by simp) _
  have hcall : ∀ (k : Nat) (w' : World), k < x.length → Below (W.alloc (.cells #[.slice a x.length cap, .slice b x.length cap'] 23)).heap.size (W.alloc (.cells #[.slice a x.length cap, .slice b x.length cap'] 23)) w' →
      Calls Try.prog 35 #[.int .i64 k, .pointer (some ⟨w.heap.size, 0, none⟩), .pointer (some ⟨w.heap.size + 1, 0, none⟩)] w' fun e w'' => e = .returned (.int .u8 ((fun k => gd x k ^^^ gd y k) k).toNat) ∧ Below w'.heap.size w' w'' :=
    fun k w' hk hb => cl35 x y a b cap cap' k hk (by omega) hlen (by omega) _ _ w' (((h4.cells hB).cells ((Below.refl _ _).alloc (Nat.le_refl _) _)).cells hb) (((k4.cells hB).cells ((Below.refl _ _).alloc (Nat.le_refl _) _)).cells hb)
      ((((b0.alloc _).below hb (b0.alloc _).lt)).cell 0) (by rw [← hl]; exact (((b1.alloc _).below hb (b1.alloc _).lt)).cell 0)
  have HC := Lib.hid hcall
  have HW := Lib.hid hW
  have HSZ := Lib.hid (show w.heap.size + 1 + 1 = W.heap.size by rw [hW]; simp)
  have HL := Lib.hid hl
  have HX := Lib.hid hx
  have HY := Lib.hid hy
  have V0 := hv0.below hB
  have V1 := hu0.below hB
  have d0 : (W.alloc (.cells #[.slice a x.length cap, .slice b x.length cap'] 23)).cell? ⟨w.heap.size, 0, none⟩ = some (.slice a x.length cap) := (b0.alloc _).cell 0
  have c0 : W.cell? ⟨w.heap.size, 0, none⟩ = some (.slice a x.length cap) := b0.cell 0
  have c1 : W.cell? ⟨w.heap.size + 1, 0, none⟩ = some (.slice b x.length cap') := b1.cell 0
  clear hW hcall b0 b1 h2 h3 h4 k2 k3 k4 hl hx hy hv0 hu0
  go_enter Try.func17, Try.ntmps17
  go_wp2_with (first
    | (go_at_call 34; rw [← HW.out]; (with_reducible refine (valid2 x y _ _ (w.heap.size + 1 + 1) _ _ (Blk.new' HSZ.out) (V0.below ((Below.refl _ _).alloc (Nat.le_refl _) _)) (V1.below ((Below.refl _ _).alloc (Nat.le_refl _) _)) ?_ ?_ HX.out).mono ?_); (omega); (rw [← HL.out]; omega); rintro e w' ⟨rfl, hw⟩; subst w'; rw [HY.out])
    | (go_at_call 32; (with_reducible refine (made35 _ x.length hlen _ _ _ HC.out).mono ?_); rintro e w2 ⟨r, rfl, hr, hb1⟩)
    | fail)
  go_ret2
  refine ⟨r, rfl, ?_, bnext (hB.alloc hB.size _) hb1⟩
  rw [← xorL_range x y HL.out]
  exact hr

theorem xor_len (x y : List UInt8) (v u : Value) (w : World) (hv : Bsl w v x) (hu : Bsl w u y) (hl : x.length ≠ y.length) :
    Calls Try.prog 17 #[v, u] w fun e w' => e = .returned (.tuple #[.slice none 0 0, .int .i64 2]) ∧ Below w.heap.size w w' := by
  obtain ⟨a, cap, rfl, h1, h2, h3, h4⟩ := hv
  obtain ⟨b, cap', rfl, k1, k2, k3, k4⟩ := hu
  have hI : ((x.length : Int) != (y.length : Int)) = true := by simp only [bne_iff_ne]; omega
  clear h2 h3 h4 k2 k3 k4
  go_enter Try.func17, Try.ntmps17
  go_wp2
  go_ret2
  exact ⟨rfl, ((Below.refl _ _).alloc (Nat.le_refl _) _).alloc (by simp) _⟩

theorem distance_ok (x y : List UInt8) (v u : Value) (w : World) (hv : Bsl w v x) (hu : Bsl w u y) (hl : x.length = y.length) (hx : okb x = true) (hy : okb y = true) (hlen : x.length ≤ 10000) :
    Calls Try.prog 19 #[v, u] w fun e w' => e = .returned (.tuple #[.int .i64 (dst x y), .int .i64 0]) ∧ Below w.heap.size w w' := by
  have hd := Lib.hid (wgt_xor x y hl hx hy)
  have hz := Lib.hid (xorL_length x y hl)
  go_enter Try.func19, Try.ntmps19
  go_wp2_with (first
    | (go_at_call 17; (with_reducible refine (xor_ok x y _ _ _ hv hu hl hx hy hlen).mono ?_); rintro e w1 ⟨r, rfl, hr, hB⟩)
    | (go_at_call 21; (with_reducible refine (weight_any (xorL x y) _ _ hr ?_).mono ?_); (rw [hz.out]; omega); rintro e w' ⟨rfl, hw⟩; subst w'; rw [hd.out]))
  go_ret2
  exact ⟨rfl, hB⟩
theorem distance_len (x y : List UInt8) (v u : Value) (w : World) (hv : Bsl w v x) (hu : Bsl w u y) (hl : x.length ≠ y.length) :
    Calls Try.prog 19 #[v, u] w fun e w' => e = .returned (.tuple #[.int .i64 0, .int .i64 2]) ∧ Below w.heap.size w w' := by
  go_enter Try.func19, Try.ntmps19
  go_wp2_with (first
    | (go_at_call 17; (with_reducible refine (xor_len x y _ _ _ hv hu hl).mono ?_); rintro e w1 ⟨rfl, hB⟩)
    | (go_at_call 21; (with_reducible refine (weight_any [] _ _ (bsl_nil _) (by simp)).mono ?_); rintro e w' ⟨rfl, hw⟩; subst w'))
  go_ret2
  exact ⟨rfl, hB⟩
end Go.Proofs.Ytflmbghbgmkdeaa
