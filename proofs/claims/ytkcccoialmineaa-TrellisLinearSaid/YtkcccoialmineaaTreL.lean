/-
  The trellis, walks: the statement TrellisLinear.
-/
import Derived.Test.YtkcccoialmineaaTreY
namespace Go.Proofs.Ytkcccoialmineaa
open Go.RowKit
attribute [-go_sem] Instr.build

theorem xorL_length (x y : List UInt8) (h : x.length = y.length) : (xorL x y).length = x.length := by simp [xorL, h]
theorem xorL_gd (x y : List UInt8) (h : x.length = y.length) (i : Nat) : gd (xorL x y) i = x8 (gd x i) (gd y i) := by
  unfold x8
  by_cases hi : i < x.length
  · have hj : i < y.length := by omega
    simp [gd, xorL, List.getElem?_zipWith, hi, hj]
  · have hj : ¬ i < y.length := by omega
    simp [gd, xorL, List.getElem?_zipWith, hi, hj]
theorem bit_cases {a : UInt8} (h : a.toNat < 2) : a = 0 ∨ a = 1 := by
  have : a.toNat = 0 ∨ a.toNat = 1 := by omega
  rcases this with h | h
  · exact .inl (UInt8.toNat_inj.1 h)
  · exact .inr (UInt8.toNat_inj.1 h)
theorem xorL_okb (x y : List UInt8) (h : x.length = y.length) (hx : okb x = true) (hy : okb y = true) : okb (xorL x y) = true := by
  apply okb_of
  intro i _
  rw [xorL_gd x y h]
  rcases bit_cases (okb_get x hx i) with e | e <;> rcases bit_cases (okb_get y hy i) with f | f <;> rw [e, f] <;> decide
def padX (x y : List UInt8) (k n : Nat) : List UInt8 := (xorL x y).take k ++ List.replicate (n - k) 0
theorem padX_length (x y : List UInt8) (k n : Nat) (h : x.length = y.length) (hx : x.length = n) (hk : k ≤ n) : (padX x y k n).length = n := by
  have := xorL_length x y h
  simp [padX]; omega
theorem padX_set (x y : List UInt8) (k n : Nat) (h : x.length = y.length) (hx : x.length = n) (hk : k < n) : (padX x y k n).set k (x8 (gd x k) (gd y k)) = padX x y (k + 1) n := by
  have hl := xorL_length x y h
  unfold padX
  rw [pad_set _ n k _ (by simp; omega) hk, take_one _ _ (by omega), xorL_gd x y h]
theorem padX_end (x y : List UInt8) (n : Nat) (h : x.length = y.length) (hx : x.length = n) : padX x y n n = xorL x y := by
  have hl := xorL_length x y h
  unfold padX
  rw [List.take_of_length_le (by omega)]
  simp

set_option maxRecDepth 100000 in
set_option maxHeartbeats 4000000 in
theorem walk_TrellisLinear (v0 : Value) (l0 : List UInt8) (v1 : Value) (l1 : List UInt8) (w : World) (h0 : Bsl w v0 l0) (h1 : Bsl w v1 l1) :
    Calls Try.prog 6 #[v0, v1] w fun e w' => e = .returned (.bool true) ∧ Below w.heap.size w w' := by
  obtain ⟨i0, hi, hz0, hz1, hz2⟩ := info_parts info5
  obtain ⟨a0, cap0, rfl, p1, p2, p3, p4⟩ := h0
  obtain ⟨a1, cap1, rfl, q1, q2, q3, q4⟩ := h1
  obtain ⟨n, hc⟩ : ∃ n, (l1.length < l0.length ∧ n = l1.length) ∨ (¬ l1.length < l0.length ∧ n = l0.length) := by
    by_cases h : l1.length < l0.length
    · exact ⟨_, .inl ⟨h, rfl⟩⟩
    · exact ⟨_, .inr ⟨h, rfl⟩⟩
  have hn0 : n ≤ l0.length := by omega
  have hn1 : n ≤ l1.length := by omega
  have P2 := Lib.hid p2
  have Q2 := Lib.hid q2
  clear p2 q2
  by_cases h500 : 500 < n
  · have hh : (500 : Int) < (n : Int) := by omega
    go_enter Try.func6, Try.ntmps6
    rcases hc with ⟨hc, rfl⟩ | ⟨hc, rfl⟩
    all_goals
      go_wp2_with (go_at_call 13; (with_reducible refine (works_any _).mono ?_); rintro e w9 ⟨rfl, hB⟩)
      go_ret
      exact ⟨rfl, hB⟩
  · have hh : ¬ (500 : Int) < (n : Int) := by omega
    obtain ⟨x, hx⟩ : ∃ x, x = lowL l0 n := ⟨_, rfl⟩
    obtain ⟨y, hy⟩ : ∃ x, x = lowL l1 n := ⟨_, rfl⟩
    have hxl : x.length = n := by rw [hx]; exact lowL_length l0 n hn0
    have hyl : y.length = n := by rw [hy]; exact lowL_length l1 n hn1
    have hxo : okb x = true := by rw [hx]; exact lowL_okb _ _
    have hyo : okb y = true := by rw [hy]; exact lowL_okb _ _
    have hxy : x.length = y.length := by omega
    have hzo := xorL_okb x y hxy hxo hyo
    have hzl := xorL_length x y hxy
    have hlin := wrd_xor x y hxy hxo hyo
    have H0 : Bsl w (.slice a0 l0.length cap0) l0 := ⟨a0, cap0, rfl, p1, P2.out, p3, p4⟩
    have H1 : Bsl w (.slice a1 l1.length cap1) l1 := ⟨a1, cap1, rfl, q1, Q2.out, q3, q4⟩
    have HX := Lib.hid hx
    have HY := Lib.hid hy
    have HXL := Lib.hid hxl
    have HYL := Lib.hid hyl
    have HXY := Lib.hid hxy
    have HZL := Lib.hid (hzl.trans hxl)
    have HLIN := Lib.hid hlin
    have e1 := Lib.hid (show (wrd x).length = 2 * n + 6 by rw [wrd_length, hxl])
    have e2 := Lib.hid (show (wrd y).length = 2 * n + 6 by rw [wrd_length, hyl])
    have e3 := Lib.hid (show (wrd (xorL x y)).length = 2 * n + 6 by rw [wrd_length, hzl, hxl])
    clear hx hy p1 p3 p4 q1 q3 q4 hxl hyl hxy hzl hlin
    go_enter Try.func6, Try.ntmps6
    rcases hc with ⟨hc, rfl⟩ | ⟨hc, rfl⟩
    all_goals
      go_wp2_with (first
        | (go_at_call 26; (with_reducible refine (low_any l0 _ _ _ H0 hn0 ?_).mono ?_); (omega); rintro e w1 ⟨v6, rfl, hx, hB⟩; rw [← HX.out] at hx; replace H1 := H1.below hB)
        | (go_at_call 26; (with_reducible refine (low_any l1 _ _ _ H1 hn1 ?_).mono ?_); (omega); rintro e w2 ⟨v7, rfl, hy, hb1⟩; rw [← HY.out] at hy; replace hx := hx.below hb1; replace hB := bnext hB hb1; obtain ⟨a6, c6, rfl, x1, x2, x3, x4⟩ := hx; obtain ⟨a7, c7, rfl, y1, y2, y3, y4⟩ := hy; rw [HXL.out]; rw [HYL.out]; have X2 := Lib.hid x2; have Y2 := Lib.hid y2; clear hb1 x2 y2)
        | (at_make; refine wpList_make_full _ rfl (.tmp 31) (.tmp 31) 36 rfl w2.heap.size 5 i0 (.int .u8 0) 1 Try.underlying36 hi hz0 hz1 .i64 .i64 _ _ _ rfl rfl rfl rfl ?_ ?_ (Nat.le_refl _) ?_; (rw [hz2]; omega); (unfold maxLen; omega); intro w3 hown hg; rw [made_bytes] at hown; have b0 := (blk_made hown).1; have hC : Below w2.heap.size w2 w3 := (Below.refl _ _).grown hg (Nat.le_refl _) (fun k hk => by cases hk); clear hown hg)
        | fail)
      rw [show ∀ m, List.replicate m (0 : UInt8) = padX x y 0 m from fun m => by simp [padX]] at b0
      go_loopw [9] (fun t wr => ∃ k : Nat, k ≤ x.length ∧ t = .int .i64 k ∧ Blk wr w2.heap.size (bytesV (padX x y k x.length)) 5 ∧ Below w2.heap.size w2 wr) (fun t _ => x.length - (intOf t).toNat)
      case atStart => exact ⟨0, by omega, rfl, by rw [HXL.out]; exact b0, hC⟩
      case round =>
        clear b0 hC
        obtain ⟨k, hk, rfl, b0, hC⟩ := hrel
        have hk' := hk
        rw [HXL.out] at hk'
        by_cases hlt : k < x.length
        · have hlt' := hlt
          rw [HXL.out] at hlt'
          obtain ⟨b6, o6, rfl, hbl6, hc6⟩ := x4 (by omega)
          obtain ⟨b7, o7, rfl, hbl7, hc7⟩ := y4 (by rw [← HXY.out]; omega)
          have c0 := (hC.cell (p := ⟨b6, o6 + k, none⟩) hbl6).trans (hc6 k hlt)
          have c1 := (hC.cell (p := ⟨b7, o7 + k, none⟩) hbl7).trans (hc7 k (by rw [← HXY.out]; exact hlt))
          have hpl := padX_length x y k x.length HXY.out rfl hk
          have c2 := b0.gd k (by omega)
          have f2 := b0.frozen k
          have hset := padX_set x y k x.length HXY.out rfl hlt
          have r0 := (b0.set k (B (x8 (gd x k) (gd y k)))).drew
          rw [bytesV_set, hset] at r0
          unfold B at r0
          have hbx := bits_x8 (gd x k) (gd y k)
          obtain ⟨X, hX⟩ : ∃ X : Int, X = ((gd x k).toNat : Int) := ⟨_, rfl⟩
          obtain ⟨Y, hY⟩ : ∃ X : Int, X = ((gd y k).toNat : Int) := ⟨_, rfl⟩
          obtain ⟨Z, hZ⟩ : ∃ X : Int, X = ((x8 (gd x k) (gd y k)).toNat : Int) := ⟨_, rfl⟩
          rw [← hX] at c0 hbx
          rw [← hY] at c1 hbx
          rw [← hZ] at r0 hbx
          have HLT := Lib.hid hlt
          clear hX hY hZ hset hc6 hc7 hlt hk
          go_wp2_with fail
          go_still_tail 11, (by kernel_rfl)
          change wpList _ _ _ _ _ wr.drew
          go_wp2
          exact ⟨⟨k + 1, by have := HLT.out; omega, by go_num, r0, (hC.setCell (Nat.le_refl _) _).drew⟩, by have := HLT.out; simp [intOf]; omega⟩
        · obtain rfl : k = x.length := by omega
          rw [padX_end x y _ HXY.out rfl] at b0
          have hx : Bsl wr (.slice a6 x.length c6) x := ⟨a6, c6, rfl, x1, X2.out, x3, x4.cells hC⟩
          have hy : Bsl wr (.slice a7 y.length c7) y := ⟨a7, c7, rfl, y1, Y2.out, y3, y4.cells hC⟩
          have hz := bsl_row b0 (by rw [HZL.out]; unfold maxLen; omega)
          rw [HXL.out] at hx ⊢
          rw [HYL.out] at hy
          rw [HZL.out] at hz
          replace hB := bnext hB hC
          have hnlt := Lib.hid hlt
          clear b0 hC hlt hk x4 y4 x1 x3 y1 y3
          go_wp2_with (first
            | (go_at_call 19; (with_reducible refine (word_ok x hxo _ _ hx ?_).mono ?_); (rw [HXL.out]; omega); rintro e w5 ⟨v10, rfl, hp, hb1⟩; replace hy := hy.below hb1; replace hz := hz.below hb1; replace hB := bnext hB hb1; clear hb1)
            | (go_at_call 19; (with_reducible refine (word_ok y hyo _ _ hy ?_).mono ?_); (rw [HYL.out]; omega); rintro e w6 ⟨v12, rfl, hq, hb1⟩; replace hz := hz.below hb1; replace hp := hp.below hb1; replace hB := bnext hB hb1; clear hb1)
            | (go_at_call 19; (with_reducible refine (word_ok (xorL x y) hzo _ _ hz ?_).mono ?_); (rw [HZL.out]; omega); rintro e w7 ⟨v14, rfl, hr, hb1⟩; replace hp := hp.below hb1; replace hq := hq.below hb1; replace hB := bnext hB hb1; obtain ⟨a8, c8, rfl, r1, r2, r3, r4⟩ := hp; obtain ⟨a10, c10, rfl, s1, s2, s3, s4⟩ := hq; obtain ⟨a14, c14, rfl, m1, m2, m3, m4⟩ := hr; rw [e1.out, e2.out, e3.out]; clear hb1 r1 r2 r3 s1 s2 s3 m1 m2 m3)
            | (go_at_call 15; (with_reducible refine (num_any _ _).mono ?_); rintro e w' ⟨rfl, hw⟩; subst w')
            | fail)
          have hlen2 := e1.out
          have hNb : (wrd x).length ≤ 5000 := by omega
          go_loopw [16] (fun t wr => ∃ k : Nat, k ≤ (wrd x).length ∧ t = .int .i64 k ∧ Below w7.heap.size w7 wr) (fun t _ => (wrd x).length - (intOf t).toNat)
          case atStart => exact ⟨0, by omega, rfl, Below.refl _ _⟩
          case round =>
            obtain ⟨k, hk, rfl, hC⟩ := hrel
            by_cases hlt : k < (wrd x).length
            · obtain ⟨b8, o8, rfl, hbl8, hc8⟩ := r4 (by omega)
              obtain ⟨b10, o10, rfl, hbl10, hc10⟩ := s4 (by rw [e2.out]; omega)
              obtain ⟨b14, o14, rfl, hbl14, hc14⟩ := m4 (by rw [e3.out]; omega)
              have c0 := (hC.cell (p := ⟨b8, o8 + k, none⟩) hbl8).trans (hc8 k hlt)
              have c1 := (hC.cell (p := ⟨b10, o10 + k, none⟩) hbl10).trans (hc10 k (by rw [e2.out]; omega))
              have c2 := (hC.cell (p := ⟨b14, o14 + k, none⟩) hbl14).trans (hc14 k (by rw [e3.out]; omega))
              rw [HLIN.out, xorL_gd _ _ (by rw [e1.out, e2.out])] at c2
              have hbx := bits_x8 (gd (wrd x) k) (gd (wrd y) k)
              have HLT := Lib.hid hlt
              have hlt2 := hlt
              rw [hlen2] at hlt2
              obtain ⟨X, hX⟩ : ∃ X : Int, X = ((gd (wrd x) k).toNat : Int) := ⟨_, rfl⟩
              obtain ⟨Y, hY⟩ : ∃ X : Int, X = ((gd (wrd y) k).toNat : Int) := ⟨_, rfl⟩
              obtain ⟨Z, hZ⟩ : ∃ X : Int, X = ((x8 (gd (wrd x) k) (gd (wrd y) k)).toNat : Int) := ⟨_, rfl⟩
              rw [← hX] at c0 hbx
              rw [← hY] at c1 hbx
              rw [← hZ] at c2 hbx
              clear hX hY hZ hc8 hc10 hc14 hlt hk hlen2
              go_wp2_with fail
              go_still (by kernel_rfl)
              change Exit.then _ _ _ _ wr.drew
              go_wp2
              exact ⟨⟨k + 1, by have := HLT.out; omega, by go_num, hC.drew⟩, by have := HLT.out; simp [intOf]; omega⟩
            · obtain rfl : k = (wrd x).length := by omega
              replace hB := bnext hB hC
              go_wp2_with (first
                | (go_at_call 13; (with_reducible refine (works_any _).mono ?_); rintro e w9 ⟨rfl, hb1⟩; replace hB := bnext hB hb1; clear hb1))
              go_ret
              exact ⟨rfl, hB⟩
end Go.Proofs.Ytkcccoialmineaa
