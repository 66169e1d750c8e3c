/-
  The trellis, walks: the lowest bits of a slice; the statement TrellisHolds.
-/
import Derived.Test.YtkcccoialmineaaTreW
import Derived.Laws.OwnMore
namespace Go.Proofs.Ytkcccoialmineaa
open Go.RowKit
attribute [-go_sem] Instr.build

def lowL (l : List UInt8) (n : Nat) : List UInt8 := (l.take n).map (fun x => x % 2)
theorem lowL_length (l : List UInt8) (n : Nat) (h : n ≤ l.length) : (lowL l n).length = n := by simp [lowL]; omega
theorem lowL_gd (l : List UInt8) (n i : Nat) (h : i < n) (hn : n ≤ l.length) : gd (lowL l n) i = gd l i % 2 := by
  have h1 : i < l.length := by omega
  simp [gd, lowL, List.getElem?_take_of_lt h, h1]
theorem mod2_lt (x : UInt8) : (x % 2).toNat < 2 := by
  rw [UInt8.toNat_mod]
  exact Nat.mod_lt _ (by decide)
theorem lowL_okb (l : List UInt8) (n : Nat) : okb (lowL l n) = true := by
  rw [okb, List.all_eq_true]
  intro x hx
  simp only [lowL, List.mem_map] at hx
  obtain ⟨y, _, rfl⟩ := hx
  have := mod2_lt y
  simp only [decide_eq_true_eq, UInt8.le_iff_toNat_le]
  simp
  omega
def padL (l : List UInt8) (k n : Nat) : List UInt8 := lowL l k ++ List.replicate (n - k) 0
theorem padL_length (l : List UInt8) (k n : Nat) (h : k ≤ n) (hn : n ≤ l.length) : (padL l k n).length = n := by
  simp [padL, lowL]; omega
theorem padL_set (l : List UInt8) (k n : Nat) (h : k < n) (hn : n ≤ l.length) : (padL l k n).set k (gd l k % 2) = padL l (k + 1) n := by
  unfold padL
  rw [pad_set _ n k _ (lowL_length l k (by omega)) h]
  congr 1
  unfold lowL
  rw [take_one l k (by omega)]
  simp
theorem padL_end (l : List UInt8) (n : Nat) : padL l n n = lowL l n := by simp [padL]
theorem made_bytes (n : Nat) : (madeCells (Value.int .u8 0).cells (n * 1)).toList = (List.replicate n (0 : UInt8)).map B := by
  rw [Nat.mul_one]
  exact (toList_madeCells_one _ _).trans (by simp [B])
theorem blk_made {w : World} {base g n : Nat} {t : TypeId} {l : List UInt8} (h : w.ownsRow base t 1 (.slice (some ⟨g, 0, none⟩) n n) n (l.map B)) : Blk w g (bytesV l) t ∧ base ≤ g := by
  obtain ⟨_, ⟨hbad, _⟩ | ⟨g', cap, cur, e, hb, hh, _, _, hs, ht⟩⟩ := h
  · cases hbad
  · simp only [Value.slice.injEq, Option.some.injEq, Addr.mk.injEq, and_true, true_and] at e
    obtain ⟨rfl, rfl⟩ := e
    refine ⟨?_, hb⟩
    have : cur = bytesV l := by
      apply Array.toList_inj.1
      rw [bytesV_toList, ← ht, List.take_of_length_le (by simp [hs])]
    unfold Blk
    rw [hh, this]

set_option maxHeartbeats 1000000 in
theorem low_any (l : List UInt8) (v : Value) (n : Nat) (w : World) (hv : Bsl w v l) (hn : n ≤ l.length) (hn' : n ≤ 10000) :
    Calls Try.prog 26 #[v, .int .i64 n] w fun e w' => ∃ v', e = .returned v' ∧ Bsl w' v' (lowL l n) ∧ Below w.heap.size w w' := by
  obtain ⟨i0, hi, hz0, hz1, hz2⟩ := info_parts info5
  obtain ⟨a, cap, rfl, h1, h2, h3, h4⟩ := hv
  have H2 := Lib.hid h2
  clear h2
  go_enter Try.func26, Try.ntmps26
  go_wp2_with (at_make; refine wpList_make_full _ rfl (.tmp 7) (.tmp 7) 36 rfl w.heap.size 5 i0 (.int .u8 0) 1 Try.underlying36 hi hz0 hz1 .i64 .i64 _ _ n rfl rfl rfl rfl ?_ ?_ (Nat.le_refl _) ?_; (rw [hz2]; omega); (unfold maxLen; omega); intro w1 hown hg)
  rw [made_bytes] at hown
  obtain ⟨b0, _⟩ := blk_made hown
  have hB : Below w.heap.size w w1 := (Below.refl _ _).grown hg (Nat.le_refl _) (fun k hk => by cases hk)
  rw [show List.replicate n (0 : UInt8) = padL l 0 n by simp [padL, lowL]] at b0
  clear hown hg
  go_loopw [6] (fun t wr => ∃ k : Nat, k ≤ n ∧ t = .int .i64 k ∧ Blk wr w.heap.size (bytesV (padL l k n)) 5 ∧ Below w.heap.size w wr) (fun t _ => n - (intOf t).toNat)
  case atStart => exact ⟨0, by omega, rfl, b0, hB⟩
  case round =>
    clear b0 hB
    obtain ⟨k, hk, rfl, b0, hB⟩ := hrel
    by_cases hlt : k < n
    · obtain ⟨b, o, rfl, hbl, hc⟩ := h4 (by omega)
      have c0 := (hB.cell (p := ⟨b, o + k, none⟩) hbl).trans (hc k (by omega))
      have hpl := padL_length l k n hk hn
      have c1 := b0.gd k (by omega)
      have f1 := b0.frozen k
      have hset := padL_set l k n hlt hn
      have hm := mod2_lt (gd l k)
      obtain ⟨x, hx⟩ : ∃ x, x = gd l k := ⟨_, rfl⟩
      rw [← hx] at c0 hset hm
      have hmod : ((x % 2).toNat : Int) = (x.toNat : Int) % 2 := by rw [UInt8.toNat_mod]; rfl
      have r0 := b0.set k (B (x % 2))
      rw [bytesV_set, hset] at r0
      unfold B at r0
      rw [hmod] at r0
      have h9 := lt256 x
      clear hx hset hmod hc
      go_wp2
      exact ⟨⟨k + 1, by omega, by go_num, r0, hB.setCell (Nat.le_refl _) _⟩, by simp [intOf]; omega⟩
    · obtain rfl : k = n := by omega
      rw [padL_end] at b0
      have hll := lowL_length l k hn
      go_wp2
      go_ret
      refine ⟨_, rfl, ?_, hB⟩
      have := bsl_row b0 (by rw [hll]; unfold maxLen; omega)
      rwa [hll] at this

theorem dst_le : ∀ (p q : List UInt8), dst p q ≤ p.length
  | [], _ => Nat.zero_le _
  | _ :: _, [] => Nat.zero_le _
  | a :: p, b :: q => by
    have := dst_le p q
    simp only [dst, List.length_cons]
    split <;> omega
theorem bytes_ne (x y : UInt8) : ((x.toNat : Int) != (y.toNat : Int)) = !decide (x = y) := by
  by_cases h : x = y
  · subst h; simp
  · have : x.toNat ≠ y.toNat := fun e => h (UInt8.toNat_inj.1 e)
    simp [h]
    omega
set_option maxRecDepth 100000 in
set_option maxHeartbeats 4000000 in
theorem walk_TrellisHolds (v0 : Value) (l0 : List UInt8) (v1 : Value) (l1 : List UInt8) (w : World) (h0 : Bsl w v0 l0) (h1 : Bsl w v1 l1) :
    Calls Try.prog 8 #[v0, v1] w fun e w' => e = .returned (.bool true) ∧ Below w.heap.size w w' := by
  obtain ⟨a0, cap0, rfl, p1, p2, p3, p4⟩ := h0
  obtain ⟨a1, cap1, rfl, q1, q2, q3, q4⟩ := h1
  obtain ⟨n, hc⟩ : ∃ n, (l1.length < l0.length ∧ n = l1.length) ∨ (¬ l1.length < l0.length ∧ n = l0.length) := by
    by_cases h : l1.length < l0.length
    · exact ⟨_, .inl ⟨h, rfl⟩⟩
    · exact ⟨_, .inr ⟨h, rfl⟩⟩
  have hn0 : n ≤ l0.length := by omega
  have hn1 : n ≤ l1.length := by omega
  have P2 := Lib.hid p2
  have Q2 := Lib.hid q2
  clear p2 q2
  by_cases h500 : 500 < n
  · have hh : (500 : Int) < (n : Int) := by omega
    go_enter Try.func8, Try.ntmps8
    rcases hc with ⟨hc, rfl⟩ | ⟨hc, rfl⟩
    all_goals
      go_wp2_with (go_at_call 13; (with_reducible refine (works_any _).mono ?_); rintro e w9 ⟨rfl, hB⟩)
      go_ret
      exact ⟨rfl, hB⟩
  · have hh : ¬ (500 : Int) < (n : Int) := by omega
    obtain ⟨x, hx⟩ : ∃ x, x = lowL l0 n := ⟨_, rfl⟩
    obtain ⟨y, hy⟩ : ∃ x, x = lowL l1 n := ⟨_, rfl⟩
    have hxl : x.length = n := by rw [hx]; exact lowL_length l0 n hn0
    have hyl : y.length = n := by rw [hy]; exact lowL_length l1 n hn1
    have hxo : okb x = true := by rw [hx]; exact lowL_okb _ _
    have hyo : okb y = true := by rw [hy]; exact lowL_okb _ _
    have H0 : Bsl w (.slice a0 l0.length cap0) l0 := ⟨a0, cap0, rfl, p1, P2.out, p3, p4⟩
    have H1 : Bsl w (.slice a1 l1.length cap1) l1 := ⟨a1, cap1, rfl, q1, Q2.out, q3, q4⟩
    have HX := Lib.hid hx
    have HY := Lib.hid hy
    have HXL := Lib.hid hxl
    have HYL := Lib.hid hyl
    clear hx hy p1 p3 p4 q1 q3 q4 hxl hyl
    go_enter Try.func8, Try.ntmps8
    rcases hc with ⟨hc, rfl⟩ | ⟨hc, rfl⟩
    all_goals
      go_wp2_with (first
        | (go_at_call 26; (with_reducible refine (low_any l0 _ _ _ H0 hn0 ?_).mono ?_); (omega); rintro e w1 ⟨v6, rfl, hx, hB⟩; rw [← HX.out] at hx; replace H1 := H1.below hB)
        | (go_at_call 26; (with_reducible refine (low_any l1 _ _ _ H1 hn1 ?_).mono ?_); (omega); rintro e w2 ⟨v7, rfl, hy, hb1⟩; rw [← HY.out] at hy; replace hx := hx.below hb1; replace hB := bnext hB hb1; clear hb1)
        | (go_at_call 19; (with_reducible refine (word_ok x hxo _ _ hx ?_).mono ?_); (rw [HXL.out]; omega); rintro e w3 ⟨v8, rfl, hp, hb1⟩; replace hx := hx.below hb1; replace hy := hy.below hb1; replace hB := bnext hB hb1; clear hb1)
        | (go_at_call 19; (with_reducible refine (word_ok y hyo _ _ hy ?_).mono ?_); (rw [HYL.out]; omega); rintro e w4 ⟨v10, rfl, hq, hb1⟩; replace hx := hx.below hb1; replace hy := hy.below hb1; replace hp := hp.below hb1; replace hB := bnext hB hb1; obtain ⟨a8, c8, rfl, r1, r2, r3, r4⟩ := hp; obtain ⟨a10, c10, rfl, s1, s2, s3, s4⟩ := hq; clear hb1 r1 r2 r3 s1 s2 s3; have e1 := wrd_length x; have e2 := wrd_length y; rw [HXL.out] at e1; rw [HYL.out] at e2)
        | (go_at_call 15; (with_reducible refine (num_any _ _).mono ?_); rintro e w' ⟨rfl, hw⟩; subst w')
        | fail)
      go_loopw [12, 13] (fun d i wr => ∃ k : Nat, k ≤ (wrd x).length ∧ i = .int .i64 k ∧ d = .int .i64 (dst ((wrd x).take k) ((wrd y).take k)) ∧ Below w4.heap.size w4 wr) (fun _ i _ => (wrd x).length - (intOf i).toNat)
      case atStart => exact ⟨0, by omega, rfl, rfl, Below.refl _ _⟩
      case round =>
        obtain ⟨k, hk, rfl, rfl, hC⟩ := hrel
        by_cases hlt : k < (wrd x).length
        · obtain ⟨b8, o8, rfl, hbl8, hc8⟩ := r4 (by omega)
          obtain ⟨b10, o10, rfl, hbl10, hc10⟩ := s4 (by omega)
          have c0 := (hC.cell (p := ⟨b8, o8 + k, none⟩) hbl8).trans (hc8 k hlt)
          have c1 := (hC.cell (p := ⟨b10, o10 + k, none⟩) hbl10).trans (hc10 k (by omega))
          have hst := dst_take (wrd x) (wrd y) k hlt (by omega)
          have hdl := dst_le ((wrd x).take k) ((wrd y).take k)
          rw [List.length_take] at hdl
          have hne := bytes_ne (gd (wrd x) k) (gd (wrd y) k)
          obtain ⟨D, hD⟩ : ∃ D, D = dst ((wrd x).take k) ((wrd y).take k) := ⟨_, rfl⟩
          rw [← hD] at hst hdl
          have hD1 : D ≤ 5000 := by omega
          have HST := Lib.hid hst
          have HL := Lib.hid hlt
          rw [← hD]
          clear hc8 hc10 hst hdl hD
          by_cases he : gd (wrd x) k = gd (wrd y) k
          · rw [decide_eq_true he, Bool.not_true] at hne
            have HE := Lib.hid he
            obtain ⟨X, hX⟩ : ∃ X : Int, X = ((gd (wrd x) k).toNat : Int) := ⟨_, rfl⟩
            obtain ⟨Y, hY⟩ : ∃ X : Int, X = ((gd (wrd y) k).toNat : Int) := ⟨_, rfl⟩
            rw [← hX] at c0 hne
            rw [← hY] at c1 hne
            clear hX hY he
            go_wp2_with fail
            go_still (by kernel_rfl)
            change Exit.then _ _ _ _ wr.drew
            go_wp2
            exact ⟨⟨k + 1, by omega, by go_num, by rw [HST.out, if_pos HE.out]; rfl, hC.drew⟩, by simp [intOf]; omega⟩
          · rw [decide_eq_false he, Bool.not_false] at hne
            have HE := Lib.hid he
            obtain ⟨X, hX⟩ : ∃ X : Int, X = ((gd (wrd x) k).toNat : Int) := ⟨_, rfl⟩
            obtain ⟨Y, hY⟩ : ∃ X : Int, X = ((gd (wrd y) k).toNat : Int) := ⟨_, rfl⟩
            rw [← hX] at c0 hne
            rw [← hY] at c1 hne
            clear hX hY he
            go_wp2_with fail
            go_still (by kernel_rfl)
            change Exit.then _ _ _ _ wr.drew
            go_wp2
            exact ⟨⟨k + 1, by omega, by go_num, by rw [HST.out, if_neg HE.out]; rfl, hC.drew⟩, by simp [intOf]; omega⟩
        · obtain rfl : k = (wrd x).length := by omega
          replace hx := hx.below hC
          replace hy := hy.below hC
          replace hB := bnext hB hC
          have hdd : dst ((wrd x).take (wrd x).length) ((wrd y).take (wrd x).length) = dst (wrd x) (wrd y) := by
            rw [List.take_length, List.take_of_length_le (by omega)]
          rw [hdd]
          by_cases hxy : x = y
          · have hD : dst (wrd x) (wrd y) = 0 := by rw [hxy]; exact dst_self _
            rw [hD]
            have hs := decide_eq_true hxy
            clear hxy hD hdd
            go_wp2_with (first
              | (go_at_call 21; (with_reducible refine (same_any x y _ _ _ hx hy).mono ?_); rintro e w' ⟨rfl, hw⟩; subst w'; rw [hs])
              | (go_at_call 13; (with_reducible refine (works_any _).mono ?_); rintro e w9 ⟨rfl, hb1⟩; replace hB := bnext hB hb1; clear hb1))
            go_ret
            exact ⟨rfl, hB⟩
          · have hD : 6 ≤ dst (wrd x) (wrd y) := wrd_apart x y (by rw [HXL.out, HYL.out]) hxo hyo hxy
            have hs := decide_eq_false hxy
            obtain ⟨D, hDD⟩ : ∃ D, D = dst (wrd x) (wrd y) := ⟨_, rfl⟩
            rw [← hDD] at hD ⊢
            clear hxy hDD hdd
            go_wp2_with (first
              | (go_at_call 21; (with_reducible refine (same_any x y _ _ _ hx hy).mono ?_); rintro e w' ⟨rfl, hw⟩; subst w'; rw [hs])
              | (go_at_call 13; (with_reducible refine (works_any _).mono ?_); rintro e w9 ⟨rfl, hb1⟩; replace hB := bnext hB hb1; clear hb1))
            go_ret
            exact ⟨rfl, hB⟩
end Go.Proofs.Ytkcccoialmineaa
