/-
  Bit strings, walks: the statement BitstrHolds.
-/
import Derived.Test.YtflmbghbgmkdeaaBitM
namespace Go.Proofs.Ytflmbghbgmkdeaa
open Go.RowKit

theorem unpackL_okb (p : List UInt8) (n : Nat) : okb (unpackL p n) = true := by
  apply okb_of
  intro i hi
  rw [unpackL_length] at hi
  rw [unpackL_gd p n i hi, toNat_small _ (by have := Nat.mod_lt ((gd p (i / 8)).toNat / 2 ^ (7 - i % 8)) (show 0 < 2 by decide); omega)]
  exact Nat.mod_lt _ (by decide)
theorem wf_u64 {a : Int} (h : (Lit.int .u64 a).wf = true) : ∃ n : Nat, a = n ∧ n < 2 ^ 64 := by
  have hmin : IntKind.u64.min = 0 := rfl
  have hmax : IntKind.u64.max = 18446744073709551615 := rfl
  simp only [Lit.wf, Bool.and_eq_true, decide_eq_true_eq] at h
  refine ⟨a.toNat, by omega, ?_⟩
  have : a.toNat < 18446744073709551616 := by omega
  exact this
theorem wf_u8 {a : Int} (h : (Lit.int .u8 a).wf = true) : ∃ n : Nat, a = n ∧ n < 256 := by
  have hmin : IntKind.u8.min = 0 := rfl
  have hmax : IntKind.u8.max = 255 := rfl
  simp only [Lit.wf, Bool.and_eq_true, decide_eq_true_eq] at h
  exact ⟨a.toNat, by omega, by omega⟩

theorem unpack8 (l : List UInt8) (v : Value) (w : World) (hv : Bsl w v l) (hlen : l.length ≤ 1000) :
    Calls Try.prog 24 #[v, .int .i64 (8 * (l.length : Int))] w fun e w' => ∃ u, e = .returned (.tuple #[u, .int .i64 0]) ∧ Bsl w' u (unpackL l (8 * l.length)) ∧ Below w.heap.size w w' := by
  have := unpack_ok l (8 * l.length) v w hv (Nat.le_refl _) hlen
  rwa [show ((8 * l.length : Nat) : Int) = 8 * (l.length : Int) by omega] at this
set_option maxRecDepth 100000 in
set_option maxHeartbeats 2000000 in
theorem walk_BitstrHolds (v0 : Value) (l0 : List UInt8) (vv : Int) (wv : (Lit.int .u64 vv).wf = true) (nn : Int) (wn : (Lit.int .u8 nn).wf = true) (w : World) (h0 : Bsl w v0 l0) :
    Calls Try.prog 6 #[v0, .int .u64 vv, .int .u8 nn] w fun e w' => e = .returned (.bool true) ∧ Below w.heap.size w w' := by
  obtain ⟨V, rfl, hV⟩ := wf_u64 wv
  obtain ⟨n, rfl, hn⟩ := wf_u8 wn
  have H0 := h0
  obtain ⟨a0, cap0, rfl, p1, _⟩ := h0
  clear wv wn p1
  by_cases h500 : 500 < l0.length
  · have hh : (500 : Int) < (l0.length : Int) := by omega
    have HV := Lib.hid hV
    clear H0 hV
    go_enter Try.func6, Try.ntmps6
    go_wp2_with (go_at_call 10; (with_reducible refine (works_any _).mono ?_); rintro e w9 ⟨rfl, hB⟩)
    go_ret
    exact ⟨rfl, hB⟩
  · have hh : ¬ (500 : Int) < (l0.length : Int) := by omega
    obtain ⟨x, hx⟩ : ∃ x, x = lowL l0 l0.length := ⟨_, rfl⟩
    have hxl : x.length = l0.length := by rw [hx]; exact lowL_length l0 _ (Nat.le_refl _)
    have hxo : okb x = true := by rw [hx]; exact lowL_okb _ _
    obtain ⟨M, hM⟩ : ∃ M, M = (x.length + 7) / 8 := ⟨_, rfl⟩
    have hxu := unpack_pack x hxo
    rw [← hM, hxl] at hxu
    have hpl := packL_length M x
    have hzo := unpackL_okb l0 (8 * l0.length)
    have hzl := unpackL_length l0 (8 * l0.length)
    have hzq := pack_unpack l0
    have hbits := uintL_bits
    have hbl := bitsL_length
    have HX := Lib.hid hx
    have HXL := Lib.hid hxl
    have HM := Lib.hid hM
    have HXU := Lib.hid hxu
    have HPL := Lib.hid hpl
    have HZL := Lib.hid hzl
    have HZQ := Lib.hid hzq
    have HV := Lib.hid hV
    have hbo := bitsL_okb
    have HBO := Lib.hid hbo
    have HBITS := Lib.hid hbits
    have HBL := Lib.hid hbl
    have hMI : (M : Int) = ((l0.length : Int) + 7) / 8 := by rw [hM, hxl]; omega
    have hMne : ((M : Int) != ((l0.length : Int) + 7) / 8) = false := by rw [hMI]; simp
    clear hx hxl hM hxu hpl hzl hzq hV hbo hbits hbl hMI
    obtain ⟨K, hK⟩ : ∃ K, K = n % 65 := ⟨_, rfl⟩
    have hKI : (n : Int) % 65 = (K : Int) := by omega
    have hK65 : K ≤ 64 := by omega
    have HK := Lib.hid hK65
    by_cases hK64 : K < 64
    · have hKI64 : (K : Int) < 64 := by omega
      obtain ⟨P, hP⟩ : ∃ P, P = 2 ^ K := ⟨_, rfl⟩
      have hP0 : 0 < P := by rw [hP]; exact Nat.two_pow_pos K
      have hPlt : P < 2 ^ 64 := by rw [hP]; exact Nat.pow_lt_pow_right (by decide) hK64
      have hwr : IntKind.u64.wrap ((2 : Int) ^ K) = (P : Int) := by
        have := wrap_u64 P hPlt
        rw [← this, hP, Int.natCast_pow]
        rfl
      obtain ⟨U, hU⟩ : ∃ U, U = V % P := ⟨_, rfl⟩
      have hVP : (V : Int) % (P : Int) = (U : Int) := by rw [hU]; exact (Int.natCast_emod V P).symm
      have hPne : ¬ (P : Int) = 0 := by omega
      have hUP : U < P := by rw [hU]; exact Nat.mod_lt _ hP0
      have HUL := Lib.hid (show U < 2 ^ 64 from Nat.lt_trans hUP hPlt)
      have HUK := Lib.hid (show U < 2 ^ K by rw [← hP]; exact hUP)
      have HUM := Lib.hid (show U % 2 ^ K = U by rw [← hP]; exact Nat.mod_eq_of_lt hUP)
      clear hK hPlt hP hU hUP hP0 hK64 hK65
      go_enter Try.func6, Try.ntmps6
      go_wp2_with (first
        | (go_at_call 22; (with_reducible refine (low_any l0 _ _ _ H0 (Nat.le_refl _) ?_).mono ?_); (omega); rintro e w1 ⟨v7, rfl, h7, hB⟩; rw [← HX.out] at h7; replace H0 := H0.below hB)
        | (go_at_call 23; (with_reducible refine (pack_ok x _ _ h7 ?_ hxo).mono ?_); (rw [HXL.out]; omega); rintro e w2 ⟨v8, rfl, h8, hb⟩; rw [← HM.out] at h8; replace H0 := H0.below hb; replace h7 := h7.below hb; replace hB := bnext hB hb; obtain ⟨a7, c7, rfl, m1, m2, m3, m4⟩ := h7; rw [HXL.out]; obtain ⟨a8, c8, rfl, k1, k2, k3, k4⟩ := h8; rw [HPL.out]; have h7 : Bsl w2 (.slice a7 l0.length c7) x := (by have : Bsl w2 (.slice a7 x.length c7) x := ⟨a7, c7, rfl, m1, m2, m3, m4⟩; rwa [HXL.out] at this); have h8 : Bsl w2 (.slice a8 M c8) (packL M x) := (by have : Bsl w2 (.slice a8 (packL M x).length c8) (packL M x) := ⟨a8, c8, rfl, k1, k2, k3, k4⟩; rwa [HPL.out] at this); clear hb m1 m2 m3 m4 k1 k2 k3 k4)
        | (go_at_call 24; (with_reducible refine (unpack_ok (packL M x) l0.length _ _ h8 ?_ ?_).mono ?_); (rw [HPL.out]; have := HM.out; have := HXL.out; omega); (rw [HPL.out]; have := HM.out; have := HXL.out; omega); rintro e w3 ⟨v10, rfl, h10, hb⟩; rw [HXU.out] at h10; replace H0 := H0.below hb; replace h7 := h7.below hb; replace hB := bnext hB hb; clear hb)
        | (go_at_call 24; (with_reducible refine (unpack8 l0 _ _ H0 ?_).mono ?_); (omega); rintro e w4 ⟨v12, rfl, h12, hb⟩; replace H0 := H0.below hb; replace h7 := h7.below hb; replace h10 := h10.below hb; replace hB := bnext hB hb; clear hb)
        | (go_at_call 23; (with_reducible refine (pack_ok (unpackL l0 (8 * l0.length)) _ _ h12 ?_ hzo).mono ?_); (rw [HZL.out]; omega); rintro e w5 ⟨v14, rfl, h14, hb⟩; rw [HZL.out, show (8 * l0.length + 7) / 8 = l0.length by omega, HZQ.out] at h14; replace H0 := H0.below hb; replace h7 := h7.below hb; replace h10 := h10.below hb; replace hB := bnext hB hb; clear hb)
        | (go_at_call 16; (with_reducible refine (num_any _ _).mono ?_); rintro e w' ⟨rfl, hw'⟩; subst w')
        | (go_at_call 15; (with_reducible refine (same_any x x _ _ _ h10 h7).mono ?_); rintro e w' ⟨rfl, hw'⟩; subst w'; rw [decide_self])
        | (go_at_call 15; (with_reducible refine (same_any l0 l0 _ _ _ h14 H0).mono ?_); rintro e w' ⟨rfl, hw'⟩; subst w'; rw [decide_self])
        | (go_at_call 11; (with_reducible refine (fromuint_ok U K HUL.out HK.out HUK.out _).mono ?_); rintro e w6 ⟨v17, rfl, h17, hb⟩; replace hB := bnext hB hb; obtain ⟨a17, c17, rfl, j1, j2, j3, j4⟩ := h17; rw [HBL.out]; have h17 : Bsl w6 (.slice a17 K c17) (bitsL U K) := (by have : Bsl w6 (.slice a17 (bitsL U K).length c17) (bitsL U K) := ⟨a17, c17, rfl, j1, j2, j3, j4⟩; rwa [HBL.out] at this); clear hb j1 j2 j3 j4)
        | (go_at_call 13; (with_reducible refine (uint_ok (bitsL U K) _ _ h17 ?_ (HBO.out _ _)).mono ?_); (rw [HBL.out]; exact HK.out); rintro e w7 ⟨rfl, hb⟩; rw [HBITS.out, HUM.out]; replace hB := bnext hB hb; clear hb)
        | (go_at_call 10; (with_reducible refine (works_any _).mono ?_); rintro e w8 ⟨rfl, hb⟩; replace hB := bnext hB hb; clear hb)
        | fail)
      go_ret
      exact ⟨rfl, hB⟩
    · have hKI64 : ¬ (K : Int) < 64 := by omega
      have e64 : K = 64 := by omega
      obtain ⟨U, hU⟩ : ∃ U, U = V := ⟨_, rfl⟩
      have HUL := Lib.hid (show U < 2 ^ 64 by rw [hU]; exact HV.out)
      have HUK := Lib.hid (show U < 2 ^ K by rw [e64]; exact HUL.out)
      have HUM := Lib.hid (show U % 2 ^ K = U from Nat.mod_eq_of_lt HUK.out)
      rw [← hU]
      clear hK hU e64 hK64 hK65
      go_enter Try.func6, Try.ntmps6
      go_wp2_with (first
        | (go_at_call 22; (with_reducible refine (low_any l0 _ _ _ H0 (Nat.le_refl _) ?_).mono ?_); (omega); rintro e w1 ⟨v7, rfl, h7, hB⟩; rw [← HX.out] at h7; replace H0 := H0.below hB)
        | (go_at_call 23; (with_reducible refine (pack_ok x _ _ h7 ?_ hxo).mono ?_); (rw [HXL.out]; omega); rintro e w2 ⟨v8, rfl, h8, hb⟩; rw [← HM.out] at h8; replace H0 := H0.below hb; replace h7 := h7.below hb; replace hB := bnext hB hb; obtain ⟨a7, c7, rfl, m1, m2, m3, m4⟩ := h7; rw [HXL.out]; obtain ⟨a8, c8, rfl, k1, k2, k3, k4⟩ := h8; rw [HPL.out]; have h7 : Bsl w2 (.slice a7 l0.length c7) x := (by have : Bsl w2 (.slice a7 x.length c7) x := ⟨a7, c7, rfl, m1, m2, m3, m4⟩; rwa [HXL.out] at this); have h8 : Bsl w2 (.slice a8 M c8) (packL M x) := (by have : Bsl w2 (.slice a8 (packL M x).length c8) (packL M x) := ⟨a8, c8, rfl, k1, k2, k3, k4⟩; rwa [HPL.out] at this); clear hb m1 m2 m3 m4 k1 k2 k3 k4)
        | (go_at_call 24; (with_reducible refine (unpack_ok (packL M x) l0.length _ _ h8 ?_ ?_).mono ?_); (rw [HPL.out]; have := HM.out; have := HXL.out; omega); (rw [HPL.out]; have := HM.out; have := HXL.out; omega); rintro e w3 ⟨v10, rfl, h10, hb⟩; rw [HXU.out] at h10; replace H0 := H0.below hb; replace h7 := h7.below hb; replace hB := bnext hB hb; clear hb)
        | (go_at_call 24; (with_reducible refine (unpack8 l0 _ _ H0 ?_).mono ?_); (omega); rintro e w4 ⟨v12, rfl, h12, hb⟩; replace H0 := H0.below hb; replace h7 := h7.below hb; replace h10 := h10.below hb; replace hB := bnext hB hb; clear hb)
        | (go_at_call 23; (with_reducible refine (pack_ok (unpackL l0 (8 * l0.length)) _ _ h12 ?_ hzo).mono ?_); (rw [HZL.out]; omega); rintro e w5 ⟨v14, rfl, h14, hb⟩; rw [HZL.out, show (8 * l0.length + 7) / 8 = l0.length by omega, HZQ.out] at h14; replace H0 := H0.below hb; replace h7 := h7.below hb; replace h10 := h10.below hb; replace hB := bnext hB hb; clear hb)
        | (go_at_call 16; (with_reducible refine (num_any _ _).mono ?_); rintro e w' ⟨rfl, hw'⟩; subst w')
        | (go_at_call 15; (with_reducible refine (same_any x x _ _ _ h10 h7).mono ?_); rintro e w' ⟨rfl, hw'⟩; subst w'; rw [decide_self])
        | (go_at_call 15; (with_reducible refine (same_any l0 l0 _ _ _ h14 H0).mono ?_); rintro e w' ⟨rfl, hw'⟩; subst w'; rw [decide_self])
        | (go_at_call 11; (with_reducible refine (fromuint_ok U K HUL.out HK.out HUK.out _).mono ?_); rintro e w6 ⟨v17, rfl, h17, hb⟩; replace hB := bnext hB hb; obtain ⟨a17, c17, rfl, j1, j2, j3, j4⟩ := h17; rw [HBL.out]; have h17 : Bsl w6 (.slice a17 K c17) (bitsL U K) := (by have : Bsl w6 (.slice a17 (bitsL U K).length c17) (bitsL U K) := ⟨a17, c17, rfl, j1, j2, j3, j4⟩; rwa [HBL.out] at this); clear hb j1 j2 j3 j4)
        | (go_at_call 13; (with_reducible refine (uint_ok (bitsL U K) _ _ h17 ?_ (HBO.out _ _)).mono ?_); (rw [HBL.out]; exact HK.out); rintro e w7 ⟨rfl, hb⟩; rw [HBITS.out, HUM.out]; replace hB := bnext hB hb; clear hb)
        | (go_at_call 10; (with_reducible refine (works_any _).mono ?_); rintro e w8 ⟨rfl, hb⟩; replace hB := bnext hB hb; clear hb)
        | fail)
      go_ret
      exact ⟨rfl, hB⟩
end Go.Proofs.Ytflmbghbgmkdeaa
