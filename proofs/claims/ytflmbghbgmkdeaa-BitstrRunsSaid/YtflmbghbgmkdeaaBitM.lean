/-
  Bit strings, walks: the lowest bits; the statement BitstrMetric.
-/
import Derived.Test.YtflmbghbgmkdeaaBitW
set_option linter.unusedSimpArgs false
set_option linter.unusedVariables false
namespace Go.Proofs.Ytflmbghbgmkdeaa
open Go.RowKit

def lowL (l : List UInt8) (n : Nat) : List UInt8 := (l.take n).map (fun x => x % 2)
theorem lowL_length (l : List UInt8) (n : Nat) (h : n ≤ l.length) : (lowL l n).length = n := by simp [lowL]; omega
theorem lowL_gd (l : List UInt8) (n i : Nat) (h : i < n) (hn : n ≤ l.length) : gd (lowL l n) i = gd l i % 2 := by
  have h1 : i < l.length := by omega
  simp [gd, lowL, List.getElem?_take_of_lt h, h1]
theorem mod2_lt (x : UInt8) : (x % 2).toNat < 2 := by
  rw [UInt8.toNat_mod]
  exact Nat.mod_lt _ (by decide)
theorem lowL_okb (l : List UInt8) (n : Nat) : okb (lowL l n) = true := by
  rw [okb, List.all_eq_true]
  intro x hx
  simp only [lowL, List.mem_map] at hx
  obtain ⟨y, _, rfl⟩ := hx
  have := mod2_lt y
  simp only [decide_eq_true_eq, UInt8.le_iff_toNat_le]
  simp
  omega
def padL (l : List UInt8) (k n : Nat) : List UInt8 := lowL l k ++ List.replicate (n - k) 0
theorem padL_length (l : List UInt8) (k n : Nat) (h : k ≤ n) (hn : n ≤ l.length) : (padL l k n).length = n := by
  simp [padL, lowL]; omega
theorem padL_set (l : List UInt8) (k n : Nat) (h : k < n) (hn : n ≤ l.length) : (padL l k n).set k (gd l k % 2) = padL l (k + 1) n := by
  unfold padL
  rw [pad_set _ n k _ (lowL_length l k (by omega)) h]
  congr 1
  unfold lowL
  rw [take_one l k (by omega)]
  simp
theorem padL_end (l : List UInt8) (n : Nat) : padL l n n = lowL l n := by simp [padL]
set_option maxHeartbeats 1000000 in
theorem low_any (l : List UInt8) (v : Value) (n : Nat) (w : World) (hv : Bsl w v l) (hn : n ≤ l.length) (hn' : n ≤ 10000) :
    Calls Try.prog 22 #[v, .int .i64 n] w fun e w' => ∃ v', e = .returned v' ∧ Bsl w' v' (lowL l n) ∧ Below w.heap.size w w' := by
  obtain ⟨i0, hi, hz0, hz1, hz2⟩ := info_parts info5
  obtain ⟨a, cap, rfl, h1, h2, h3, h4⟩ := hv
  have H2 := Lib.hid h2
  clear h2
  go_enter Try.func22, Try.ntmps22
  go_wp2_with (at_make; refine wpList_make_full _ rfl (.tmp 7) (.tmp 7) 23 rfl w.heap.size 5 i0 (.int .u8 0) 1 Try.underlying23 hi hz0 hz1 .i64 .i64 _ _ n rfl rfl rfl rfl ?_ ?_ (Nat.le_refl _) ?_; (rw [hz2]; omega); (unfold maxLen; omega); intro w1 hown hg)
  rw [made_bytes] at hown
  obtain ⟨b0, _⟩ := blk_made hown
  have hB : Below w.heap.size w w1 := (Below.refl _ _).grown hg (Nat.le_refl _) (fun k hk => by cases hk)
  rw [show List.replicate n (0 : UInt8) = padL l 0 n by simp [padL, lowL]] at b0
  clear hown hg
  go_loopw [6] (fun t wr => ∃ k : Nat, k ≤ n ∧ t = .int .i64 k ∧ Blk wr w.heap.size (bytesV (padL l k n)) 5 ∧ Below w.heap.size w wr) (fun t _ => n - (intOf t).toNat)
  case atStart => exact ⟨0, by omega, rfl, b0, hB⟩
  case round =>
    clear b0 hB
    obtain ⟨k, hk, rfl, b0, hB⟩ := hrel
    by_cases hlt : k < n
    · obtain ⟨b, o, rfl, hbl, hc⟩ := h4 (by omega)
      have c0 := (hB.cell (p := ⟨b, o + k, none⟩) hbl).trans (hc k (by omega))
      have hpl := padL_length l k n hk hn
      have c1 := b0.gd k (by omega)
      have f1 := b0.frozen k
      have hset := padL_set l k n hlt hn
      have hm := mod2_lt (gd l k)
      obtain ⟨x, hx⟩ : ∃ x, x = gd l k := ⟨_, rfl⟩
      rw [← hx] at c0 hset hm
      have hmod : ((x % 2).toNat : Int) = (x.toNat : Int) % 2 := by rw [UInt8.toNat_mod]; rfl
      have r0 := b0.set k (B (x % 2))
      rw [bytesV_set, hset] at r0
      unfold B at r0
      rw [hmod] at r0
      have h9 := lt256 x
      clear hx hset hmod hc
      go_wp2
      exact ⟨⟨k + 1, by omega, by go_num, r0, hB.setCell (Nat.le_refl _) _⟩, by simp [intOf]; omega⟩
    · obtain rfl : k = n := by omega
      rw [padL_end] at b0
      have hll := lowL_length l k hn
      go_wp2
      go_ret
      refine ⟨_, rfl, ?_, hB⟩
      have := bsl_row b0 (by rw [hll]; unfold maxLen; omega)
      rwa [hll] at this

theorem dst_le : ∀ (p q : List UInt8), dst p q ≤ p.length
  | [], _ => Nat.zero_le _
  | _ :: _, [] => Nat.zero_le _
  | a :: p, b :: q => by
    have := dst_le p q
    simp only [dst, List.length_cons]
    split <;> omega

set_option maxRecDepth 100000 in
set_option maxHeartbeats 8000000 in
theorem walk_BitstrMetric (v0 : Value) (l0 : List UInt8) (v1 : Value) (l1 : List UInt8) (v2 : Value) (l2 : List UInt8) (w : World) (h0 : Bsl w v0 l0) (h1 : Bsl w v1 l1) (h2 : Bsl w v2 l2) :
    Calls Try.prog 5 #[v0, v1, v2] w fun e w' => e = .returned (.bool true) ∧ Below w.heap.size w w' := by
  have H0 := h0
  have H1 := h1
  have H2 := h2
  obtain ⟨a0, cap0, rfl, p1, _⟩ := h0
  obtain ⟨a1, cap1, rfl, q1, _⟩ := h1
  obtain ⟨a2, cap2, rfl, s1, _⟩ := h2
  clear p1 q1 s1
  obtain ⟨n, hc⟩ : ∃ n, (l1.length < l0.length ∧ l2.length < l1.length ∧ n = l2.length) ∨ (l1.length < l0.length ∧ ¬ l2.length < l1.length ∧ n = l1.length) ∨ (¬ l1.length < l0.length ∧ l2.length < l0.length ∧ n = l2.length) ∨ (¬ l1.length < l0.length ∧ ¬ l2.length < l0.length ∧ n = l0.length) := by
    by_cases h : l1.length < l0.length
    · by_cases k : l2.length < l1.length
      · exact ⟨_, .inl ⟨h, k, rfl⟩⟩
      · exact ⟨_, .inr (.inl ⟨h, k, rfl⟩)⟩
    · by_cases k : l2.length < l0.length
      · exact ⟨_, .inr (.inr (.inl ⟨h, k, rfl⟩))⟩
      · exact ⟨_, .inr (.inr (.inr ⟨h, k, rfl⟩))⟩
  have hn0 : n ≤ l0.length := by omega
  have hn1 : n ≤ l1.length := by omega
  have hn2 : n ≤ l2.length := by omega
  by_cases h500 : 500 < n
  · have hh : (500 : Int) < (n : Int) := by omega
    clear H0 H1 H2
    go_enter Try.func5, Try.ntmps5
    rcases hc with ⟨hc, hd, rfl⟩ | ⟨hc, hd, rfl⟩ | ⟨hc, hd, rfl⟩ | ⟨hc, hd, rfl⟩
    all_goals
      go_wp2_with (go_at_call 10; (with_reducible refine (works_any _).mono ?_); rintro e w9 ⟨rfl, hB⟩)
      go_ret
      exact ⟨rfl, hB⟩
  · have hh : ¬ (500 : Int) < (n : Int) := by omega
    have hn1000 : n ≤ 10000 := by omega
    obtain ⟨x, hx⟩ : ∃ x, x = lowL l0 n := ⟨_, rfl⟩
    obtain ⟨y, hy⟩ : ∃ x, x = lowL l1 n := ⟨_, rfl⟩
    obtain ⟨z, hz⟩ : ∃ x, x = lowL l2 n := ⟨_, rfl⟩
    have hxl : x.length = n := by rw [hx]; exact lowL_length l0 n hn0
    have hyl : y.length = n := by rw [hy]; exact lowL_length l1 n hn1
    have hzl : z.length = n := by rw [hz]; exact lowL_length l2 n hn2
    have hxo : okb x = true := by rw [hx]; exact lowL_okb _ _
    have hyo : okb y = true := by rw [hy]; exact lowL_okb _ _
    have hzo : okb z = true := by rw [hz]; exact lowL_okb _ _
    have exy : x.length = y.length := by omega
    have eyz : y.length = z.length := by omega
    have exz : x.length = z.length := by omega
    have hvo := xorL_okb x z exz hxo hzo
    have hwo := xorL_okb y z eyz hyo hzo
    have lxz := xorL_length x z exz
    have lyz := xorL_length y z eyz
    have lxy := xorL_length x y exy
    obtain ⟨p, hp⟩ : ∃ p, p = dst x y := ⟨_, rfl⟩
    obtain ⟨q, hq⟩ : ∃ p, p = dst y z := ⟨_, rfl⟩
    obtain ⟨r, hr⟩ : ∃ p, p = dst x z := ⟨_, rfl⟩
    have htri : r ≤ p + q := by rw [hp, hq, hr]; exact dst_tri x y z exy eyz
    have hz0 : p = 0 ↔ x = y := by rw [hp]; exact dst_zero x y exy
    have bp : p ≤ 500 := by have := dst_le x y; omega
    have bq : q ≤ 500 := by have := dst_le y z; omega
    have br : r ≤ 500 := by have := dst_le x z; omega
    have HBK := Lib.hid (show dst y x = p by rw [hp, dst_comm])
    have HD := Lib.hid (show dst (xorL x z) (xorL y z) = p by rw [hp]; exact dst_shift x y z exy eyz)
    have HW := Lib.hid (show wgt (xorL x y) = p by rw [hp]; exact wgt_xor x y exy hxo hyo)
    have HX := Lib.hid hx
    have HY := Lib.hid hy
    have HZ := Lib.hid hz
    have HP := Lib.hid hp
    have HQ := Lib.hid hq
    have HR := Lib.hid hr
    have EXY := Lib.hid exy
    have EYZ := Lib.hid eyz
    have EXZ := Lib.hid exz
    have EVW := Lib.hid (show (xorL x z).length = (xorL y z).length by omega)
    have LX := Lib.hid (show x.length ≤ 10000 by omega)
    have LY := Lib.hid (show y.length ≤ 10000 by omega)
    have LV := Lib.hid (show (xorL x z).length ≤ 10000 by omega)
    have LU := Lib.hid (show (xorL x y).length ≤ 100000 by omega)
    have htriI : (r : Int) ≤ (p : Int) + (q : Int) := by omega
    obtain ⟨bb, hbb⟩ : ∃ b, b = decide (x = y) := ⟨_, rfl⟩
    have hdec : decide (x = y) = bb := hbb.symm
    have hpz : ((p : Int) == 0) = bb := by
      rw [hbb]
      by_cases e : x = y
      · have := hz0.2 e; subst this; simp [e]
      · have : p ≠ 0 := fun h => e (hz0.1 h)
        rw [decide_eq_false e, beq_eq_false_iff_ne]; omega
    have HDEC := Lib.hid hdec
    clear hx hy hz hp hq hr exy eyz exz lxz lyz lxy hxl hyl hzl hz0 htri hbb hdec
    have hdec := HDEC.out
    go_enter Try.func5, Try.ntmps5
    rcases hc with ⟨hc, hd, rfl⟩ | ⟨hc, hd, rfl⟩ | ⟨hc, hd, rfl⟩ | ⟨hc, hd, rfl⟩
    all_goals
      go_wp2_with (first
        | (go_at_call 22; (with_reducible refine (low_any l0 _ _ _ H0 hn0 hn1000).mono ?_); rintro e w1 ⟨v8, rfl, hx, hB⟩; rw [← HX.out] at hx; replace H1 := H1.below hB; replace H2 := H2.below hB)
        | (go_at_call 22; (with_reducible refine (low_any l1 _ _ _ H1 hn1 hn1000).mono ?_); rintro e w2 ⟨v9, rfl, hy, hb⟩; rw [← HY.out] at hy; replace H2 := H2.below hb; replace hx := hx.below hb; replace hB := bnext hB hb; clear hb)
        | (go_at_call 22; (with_reducible refine (low_any l2 _ _ _ H2 hn2 hn1000).mono ?_); rintro e w3 ⟨v10, rfl, hz, hb⟩; rw [← HZ.out] at hz; replace hx := hx.below hb; replace hy := hy.below hb; replace hB := bnext hB hb; clear hb)
        | (go_at_call 19; (with_reducible refine (distance_ok x y _ _ _ hx hy EXY.out hxo hyo LX.out).mono ?_); rintro e w4 ⟨rfl, hb⟩; rw [← HP.out]; replace hx := hx.below hb; replace hy := hy.below hb; replace hz := hz.below hb; replace hB := bnext hB hb; clear hb)
        | (go_at_call 19; (with_reducible refine (distance_ok y z _ _ _ hy hz EYZ.out hyo hzo LY.out).mono ?_); rintro e w5 ⟨rfl, hb⟩; rw [← HQ.out]; replace hx := hx.below hb; replace hy := hy.below hb; replace hz := hz.below hb; replace hB := bnext hB hb; clear hb)
        | (go_at_call 19; (with_reducible refine (distance_ok x z _ _ _ hx hz EXZ.out hxo hzo LX.out).mono ?_); rintro e w6 ⟨rfl, hb⟩; rw [← HR.out]; replace hx := hx.below hb; replace hy := hy.below hb; replace hz := hz.below hb; replace hB := bnext hB hb; clear hb)
        | (go_at_call 19; (with_reducible refine (distance_ok y x _ _ _ hy hx EXY.out.symm hyo hxo LY.out).mono ?_); rintro e w7 ⟨rfl, hb⟩; rw [HBK.out]; replace hx := hx.below hb; replace hy := hy.below hb; replace hz := hz.below hb; replace hB := bnext hB hb; clear hb)
        | (go_at_call 17; (with_reducible refine (xor_ok x y _ _ _ hx hy EXY.out hxo hyo LX.out).mono ?_); rintro e w8 ⟨r1, rfl, hu, hb⟩; replace hx := hx.below hb; replace hy := hy.below hb; replace hz := hz.below hb; replace hB := bnext hB hb; clear hb)
        | (go_at_call 17; (with_reducible refine (xor_ok x z _ _ _ hx hz EXZ.out hxo hzo LX.out).mono ?_); rintro e w9 ⟨r2, rfl, hv, hb⟩; replace hx := hx.below hb; replace hy := hy.below hb; replace hz := hz.below hb; replace hu := hu.below hb; replace hB := bnext hB hb; clear hb)
        | (go_at_call 17; (with_reducible refine (xor_ok y z _ _ _ hy hz EYZ.out hyo hzo LY.out).mono ?_); rintro e w10 ⟨r3, rfl, hw, hb⟩; replace hx := hx.below hb; replace hy := hy.below hb; replace hz := hz.below hb; replace hu := hu.below hb; replace hv := hv.below hb; replace hB := bnext hB hb; clear hb)
        | (go_at_call 19; (with_reducible refine (distance_ok (xorL x z) (xorL y z) _ _ _ hv hw EVW.out hvo hwo LV.out).mono ?_); rintro e w11 ⟨rfl, hb⟩; rw [HD.out]; replace hx := hx.below hb; replace hy := hy.below hb; replace hz := hz.below hb; replace hu := hu.below hb; replace hB := bnext hB hb; clear hb)
        | (go_at_call 16; (with_reducible refine (num_any _ _).mono ?_); rintro e w' ⟨rfl, hw'⟩; subst w')
        | (go_at_call 15; (with_reducible refine (same_any x y _ _ _ hx hy).mono ?_); rintro e w' ⟨rfl, hw'⟩; subst w'; rw [hdec])
        | (go_at_call 21; (with_reducible refine (weight_any (xorL x y) _ _ hu LU.out).mono ?_); rintro e w' ⟨rfl, hw'⟩; subst w'; rw [HW.out])
        | (go_at_call 10; (with_reducible refine (works_any _).mono ?_); rintro e w12 ⟨rfl, hb⟩; replace hB := bnext hB hb; clear hb)
        | fail)
      go_ret
      exact ⟨rfl, hB⟩
end Go.Proofs.Ytflmbghbgmkdeaa
