/-
  Bit strings, walks: Pack.
-/
import Derived.Test.YtflmbghbgmkdeaaBitC
set_option linter.unusedSimpArgs false
set_option linter.unusedVariables false
namespace Go.Proofs.Ytflmbghbgmkdeaa
open Go.RowKit

/-- The first i bits of byte j. -/
def pb (l : List UInt8) (j : Nat) : Nat → Nat
  | 0 => 0
  | i + 1 => pb l j i + (gd l (8 * j + i)).toNat * 2 ^ (7 - i)
theorem pb_eight (l : List UInt8) (j : Nat) : pb l j 8 = by8 l j := by
  simp only [pb, by8, Nat.reduceSub, Nat.reducePow, Nat.zero_add, Nat.sub_zero, Nat.add_zero]
  omega
theorem pb_stay (l : List UInt8) (j i : Nat) (h : l.length ≤ 8 * j + i) : pb l j (i + 1) = pb l j i := by
  rw [pb, gd_out l _ h]; simp
theorem pb_end (l : List UInt8) (j n : Nat) (hn : n ≤ 8) (h : n = 8 ∨ l.length ≤ 8 * j + n) : pb l j n = by8 l j := by
  rw [← pb_eight]
  rcases h with rfl | h
  · rfl
  · have : ∀ d, n + d ≤ 8 → pb l j (n + d) = pb l j n := by
      intro d hd
      induction d with
      | zero => rfl
      | succ d ih => rw [← Nat.add_assoc, pb_stay l j (n + d) (by omega), ih (by omega)]
    have := this (8 - n) (by omega)
    rw [show n + (8 - n) = 8 by omega] at this
    exact this.symm
theorem pb_mul (l : List UInt8) (j i : Nat) (hi : i ≤ 8) : ∃ m, pb l j i = 2 ^ (8 - i) * m := by
  induction i with
  | zero => exact ⟨0, rfl⟩
  | succ i ih =>
    obtain ⟨m, hm⟩ := ih (by omega)
    refine ⟨2 * m + (gd l (8 * j + i)).toNat, ?_⟩
    rw [pb, hm, show 8 - i = (7 - i) + 1 by omega, show 8 - (i + 1) = 7 - i by omega, Nat.pow_succ, Nat.mul_add]
    congr 1
    · rw [Nat.mul_assoc]
    · rw [Nat.mul_comm]
theorem pb_lt (l : List UInt8) (hok : okb l = true) (j i : Nat) (hi : i ≤ 8) : pb l j i + 2 ^ (8 - i) ≤ 256 := by
  induction i with
  | zero => simp [pb]
  | succ i ih =>
    have h := ih (by omega)
    have hb := okb_get l hok (8 * j + i)
    rw [pb, show 8 - (i + 1) = 7 - i by omega]
    rw [show 8 - i = (7 - i) + 1 by omega, Nat.pow_succ] at h
    have : (gd l (8 * j + i)).toNat * 2 ^ (7 - i) ≤ 1 * 2 ^ (7 - i) := Nat.mul_le_mul_right _ (by omega)
    omega
theorem or_u8n (c x : Nat) (hc : c < 256) (hx : x < 256) : bits .or .u8 (c : Int) (x : Int) = ((c ||| x : Nat) : Int) := by
  have := bits_or_u8 (UInt8.ofNat c) (UInt8.ofNat x)
  rw [toNat_small c hc, toNat_small x hx] at this
  rw [this, UInt8.toNat_or, toNat_small c hc, toNat_small x hx]
theorem pb_or (l : List UInt8) (hok : okb l = true) (j i : Nat) (hi : i < 8) : bits .or .u8 (pb l j i : Int) (((gd l (8 * j + i)).toNat * 2 ^ (7 - i) : Nat) : Int) = (pb l j (i + 1) : Int) := by
  have h := pb_lt l hok j i (by omega)
  have hb := okb_get l hok (8 * j + i)
  have hp : 0 < 2 ^ (8 - i) := Nat.two_pow_pos _
  have hx : (gd l (8 * j + i)).toNat * 2 ^ (7 - i) < 2 ^ (8 - i) := by
    rw [show 8 - i = (7 - i) + 1 by omega, Nat.pow_succ]
    have : (gd l (8 * j + i)).toNat * 2 ^ (7 - i) ≤ 1 * 2 ^ (7 - i) := Nat.mul_le_mul_right _ (by omega)
    have := Nat.two_pow_pos (7 - i)
    omega
  obtain ⟨m, hm⟩ := pb_mul l j i (by omega)
  rw [or_u8n _ _ (by omega) (by omega), pb, hm, ← Nat.two_pow_add_eq_or_of_lt hx]
theorem packL_succ (l : List UInt8) (j : Nat) : packL (j + 1) l = packL j l ++ [UInt8.ofNat (by8 l j)] := by
  unfold packL; rw [List.range_succ, List.map_append]; rfl

set_option maxRecDepth 10000 in
set_option maxHeartbeats 1000000 in
theorem pack_ok (l : List UInt8) (v : Value) (w : World) (hv : Bsl w v l) (hlen : l.length ≤ 10000) (hok : okb l = true) :
    Calls Try.prog 23 #[v] w fun e w' => ∃ u, e = .returned (.tuple #[u, .int .i64 0]) ∧ Bsl w' u (packL ((l.length + 7) / 8) l) ∧ Below w.heap.size w w' := by
  obtain ⟨i0, hi, hz0, hz1, hz2⟩ := info_parts info5
  have hB1 := (Below.refl w.heap.size w).alloc (Nat.le_refl _) (.cells #[v] 23)
  have hv1 := hv.below hB1
  obtain ⟨a, cap, rfl, h1, h2, h3, h4⟩ := hv
  have HOK := Lib.hid hok
  clear h2 h3 hok
  go_enter Try.func23, Try.ntmps23
  go_wp2
  go_step3
  go_wp2_with (go_at_call 34; (with_reducible refine (valid1 l _ _ _ _ (Blk.new' rfl) hv1 ?_).mono ?_); (omega); rintro e w' ⟨rfl, hw⟩; subst w'; rw [HOK.out])
  go_loopw [2, 4] (fun u r wr => ∃ (j : Nat) (A : Option Addr) (C : Nat), 8 * j ≤ l.length + 7 ∧ (8 * j ≤ l.length ∨ r = .slice A 0 C) ∧ r = .slice A (l.length - 8 * j) C ∧ l.length - 8 * j ≤ C ∧ (0 < l.length - 8 * j → ∃ b o, a = some ⟨b, o, none⟩ ∧ A = some ⟨b, o + 8 * j, none⟩) ∧ wr.ownsRow w.heap.size 5 1 u (packL j l).length ((packL j l).map B) ∧ Below w.heap.size w wr)
    (fun _ r _ => match r with | .slice _ n _ => n | _ => 0)
  case atStart => exact ⟨0, a, cap, by omega, .inl (by omega), rfl, h1, (fun h => by obtain ⟨b, o, e, _⟩ := h4 (by omega); exact ⟨b, o, e, e⟩), World.ownsRow_nil _ _ _ _, hB1⟩
  case round =>
    obtain ⟨j, A, C, hj, hj2, rfl, hC, hA, hown, hB⟩ := hrel
    by_cases hlt : 8 * j < l.length
    · obtain ⟨b, o, rfl, rfl⟩ := hA (by omega)
      obtain ⟨m, hm⟩ : ∃ m, m = l.length - 8 * j := ⟨_, rfl⟩
      rw [← hm] at hC ⊢
      have hmpos : 0 < m := by omega
      have hmI : (0 : Int) < (m : Int) := by omega
      have hm4 : m ≤ 10000 := by omega
      obtain ⟨n, hn⟩ : ∃ n, (m < 8 ∧ n = m) ∨ (¬ m < 8 ∧ n = 8) := by
        by_cases h : m < 8
        · exact ⟨_, .inl ⟨h, rfl⟩⟩
        · exact ⟨_, .inr ⟨h, rfl⟩⟩
      have hn8 : n ≤ 8 := by omega
      have hnm : n ≤ m := by omega
      have hnz : 0 < n := by omega
      have hsz := hB.size
      have HM := Lib.hid hm
      have HJ := Lib.hid hj
      have HPB := Lib.hid (pb_end l j n hn8 (by omega))
      clear hj hj2 hA hm hlt
      rcases hn with ⟨h8, rfl⟩ | ⟨h8, rfl⟩
      · have h8I : (n : Int) < 8 := by omega
        go_wp2
        go_loopw [6, 25] (fun c t wr' => ∃ i : Nat, i ≤ n ∧ t = .int .i64 i ∧ c = .int .u8 (pb l j i : Nat) ∧ wr' = wr) (fun _ t _ => n - (intOf t).toNat)
        case atStart => exact ⟨0, by omega, rfl, rfl, rfl⟩
        case round =>
          obtain ⟨i, hi9, rfl, rfl, rfl⟩ := hrel
          by_cases hlt : i < n
          · obtain ⟨b', o', e, hbl, hc⟩ := h4 (by have := HM.out; omega)
            simp only [Option.some.injEq, Addr.mk.injEq, and_true] at e
            obtain ⟨rfl, rfl⟩ := e
            have c0 : wr.cell? ⟨b, o + 8 * j + i, none⟩ = some (.int .u8 (gd l (8 * j + i)).toNat) := by
              rw [Nat.add_assoc]
              exact (hB.cell (p := ⟨b, o + (8 * j + i), none⟩) hbl).trans (hc (8 * j + i) (by have := HM.out; omega))
            have hor := pb_or l HOK.out j i (by omega)
            have hb2 := okb_get l HOK.out (8 * j + i)
            have hplt := pb_lt l HOK.out j i (by omega)
            obtain ⟨x, hx⟩ : ∃ x, x = (gd l (8 * j + i)).toNat := ⟨_, rfl⟩
            rw [← hx] at c0 hor hb2
            have hxb : x * 2 ^ (7 - i) < 256 := by
              have e1 : x * 2 ^ (7 - i) ≤ 1 * 2 ^ 7 := Nat.mul_le_mul (by omega) (Nat.pow_le_pow_right (by decide) (by omega))
              omega
            have hwr : IntKind.u8.wrap ((x : Int) * 2 ^ (7 - i)) = ((x * 2 ^ (7 - i) : Nat) : Int) := by
              rw [← wrap_u8 _ hxb]
              congr 1
            have k1 := IntWalk.i64_in (7 - (i : Int)) (by omega)
            have k3 : 0 ≤ 7 - (i : Int) := by omega
            have k4 : (7 - (i : Int)).toNat = 7 - i := by omega
            have HOR := Lib.hid hor
            have hltI : (i : Int) < n := by omega
            clear hx hc hor hb2 hplt hxb
            go_wp2
            exact ⟨⟨i + 1, by omega, by go_num, by rw [← HOR.out, Int.natCast_mul, Int.natCast_pow]; rfl, trivial⟩, by simp [intOf]; omega⟩
          · obtain rfl : i = n := by omega
            rw [HPB.out]
            have hby := by8_lt l (okb_get l HOK.out) j
            obtain ⟨y, hy⟩ : ∃ y, y = by8 l j := ⟨_, rfl⟩
            have hps := packL_succ l j
            have hpl := packL_length j l
            rw [← hy] at hby hps ⊢
            have HPS := Lib.hid hps
            have HJ4 := Lib.hid (show (packL j l).length ≤ 20000 by rw [hpl]; have := HJ.out; omega)
            obtain ⟨P, hP⟩ : ∃ P, P = packL j l := ⟨_, rfl⟩
            rw [← hP] at hown
            have HP := Lib.hid hP
            clear hy hps hpl hP
            go_wp2_with (first
              | (at_builtin; refine wpList_append_own _ rfl (.tmp 37) (.tmp 39) 23 rfl w.heap.size 5 i0 (.int .u8 0) 1 1 Try.underlying23 hi hz0 hz1 hz2 rfl (by decide) _ P.length (P.map B) rfl (hown.alloc _) ⟨wr.heap.size, 0, none⟩ 1 1 [.int .u8 (y : Int)] rfl rfl ?_ ?_ ?_ ?_ ?_ ?_; (exact one_new _ _ _); (exact one_one _ _); (rw [HP.out]; have := HJ4.out; unfold maxLen; omega); (rw [HP.out]; have := HJ4.out; omega); (exact le_alloc hsz _); intro v6 w6 h6 hg6 _; have hB6 := (hB.alloc hsz _).grown hg6 (le_alloc hsz _) (own_ge hown); rw [one_byte P y (by omega), HP.out, ← HPS.out] at h6)
              | fail)
            rw [packL_length] at h6
            have hM := HM.out
            have hJ := HJ.out
            refine ⟨⟨j + 1, _, _, by omega, .inr rfl, by rw [show l.length - 8 * (j + 1) = 0 by omega], by omega, fun h => absurd h (by omega), by rw [packL_length]; exact h6, hB6⟩, ?_⟩
            exact hnz
      · have h8I : ¬ (m : Int) < 8 := by omega
        go_wp2
        go_loopw [6, 25] (fun c t wr' => ∃ i : Nat, i ≤ 8 ∧ t = .int .i64 i ∧ c = .int .u8 (pb l j i : Nat) ∧ wr' = wr) (fun _ t _ => 8 - (intOf t).toNat)
        case atStart => exact ⟨0, by omega, rfl, rfl, rfl⟩
        case round =>
          obtain ⟨i, hi9, rfl, rfl, rfl⟩ := hrel
          by_cases hlt : i < 8
          · obtain ⟨b', o', e, hbl, hc⟩ := h4 (by have := HM.out; omega)
            simp only [Option.some.injEq, Addr.mk.injEq, and_true] at e
            obtain ⟨rfl, rfl⟩ := e
            have c0 : wr.cell? ⟨b, o + 8 * j + i, none⟩ = some (.int .u8 (gd l (8 * j + i)).toNat) := by
              rw [Nat.add_assoc]
              exact (hB.cell (p := ⟨b, o + (8 * j + i), none⟩) hbl).trans (hc (8 * j + i) (by have := HM.out; omega))
            have hor := pb_or l HOK.out j i (by omega)
            have hb2 := okb_get l HOK.out (8 * j + i)
            have hplt := pb_lt l HOK.out j i (by omega)
            obtain ⟨x, hx⟩ : ∃ x, x = (gd l (8 * j + i)).toNat := ⟨_, rfl⟩
            rw [← hx] at c0 hor hb2
            have hxb : x * 2 ^ (7 - i) < 256 := by
              have e1 : x * 2 ^ (7 - i) ≤ 1 * 2 ^ 7 := Nat.mul_le_mul (by omega) (Nat.pow_le_pow_right (by decide) (by omega))
              omega
            have hwr : IntKind.u8.wrap ((x : Int) * 2 ^ (7 - i)) = ((x * 2 ^ (7 - i) : Nat) : Int) := by
              rw [← wrap_u8 _ hxb]
              congr 1
            have k1 := IntWalk.i64_in (7 - (i : Int)) (by omega)
            have k3 : 0 ≤ 7 - (i : Int) := by omega
            have k4 : (7 - (i : Int)).toNat = 7 - i := by omega
            have HOR := Lib.hid hor
            have hltI : (i : Int) < 8 := by omega
            clear hx hc hor hb2 hplt hxb
            go_wp2
            exact ⟨⟨i + 1, by omega, by go_num, by rw [← HOR.out, Int.natCast_mul, Int.natCast_pow]; rfl, trivial⟩, by simp [intOf]; omega⟩
          · obtain rfl : i = 8 := by omega
            rw [HPB.out]
            have hby := by8_lt l (okb_get l HOK.out) j
            obtain ⟨y, hy⟩ : ∃ y, y = by8 l j := ⟨_, rfl⟩
            have hps := packL_succ l j
            have hpl := packL_length j l
            rw [← hy] at hby hps ⊢
            have HPS := Lib.hid hps
            have HJ4 := Lib.hid (show (packL j l).length ≤ 20000 by rw [hpl]; have := HJ.out; omega)
            obtain ⟨P, hP⟩ : ∃ P, P = packL j l := ⟨_, rfl⟩
            rw [← hP] at hown
            have HP := Lib.hid hP
            clear hy hps hpl hP
            go_wp2_with (first
              | (at_builtin; refine wpList_append_own _ rfl (.tmp 37) (.tmp 39) 23 rfl w.heap.size 5 i0 (.int .u8 0) 1 1 Try.underlying23 hi hz0 hz1 hz2 rfl (by decide) _ P.length (P.map B) rfl (hown.alloc _) ⟨wr.heap.size, 0, none⟩ 1 1 [.int .u8 (y : Int)] rfl rfl ?_ ?_ ?_ ?_ ?_ ?_; (exact one_new _ _ _); (exact one_one _ _); (rw [HP.out]; have := HJ4.out; unfold maxLen; omega); (rw [HP.out]; have := HJ4.out; omega); (exact le_alloc hsz _); intro v6 w6 h6 hg6 _; have hB6 := (hB.alloc hsz _).grown hg6 (le_alloc hsz _) (own_ge hown); rw [one_byte P y (by omega), HP.out, ← HPS.out] at h6)
              | fail)
            rw [packL_length] at h6
            have hM := HM.out
            have hJ := HJ.out
            have e8 : l.length - 8 * (j + 1) = m - 8 := by omega
            refine ⟨⟨j + 1, _, _, by omega, .inl (by omega), by rw [e8], by omega, fun h => ⟨b, o, rfl, ?_⟩, by rw [packL_length]; exact h6, hB6⟩, ?_⟩
            · rw [if_neg (by omega)]
              rfl
            · show m - 8 < m
              omega
    · have e0 : l.length - 8 * j = 0 := by omega
      have ej : j = (l.length + 7) / 8 := by omega
      rw [e0]
      have EJ := Lib.hid ej
      clear hj hj2 hA hC e0 ej hlt
      go_wp2
      rw [Exit.noGoto_ret]
      go_ret2
      rw [← EJ.out]
      exact ⟨_, rfl, bsl_own hown, hB⟩
end Go.Proofs.Ytflmbghbgmkdeaa
