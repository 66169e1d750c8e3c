/-
  Fractions, walks: two sorted rows merged in place: one element on the right.
-/
import Derived.Test.YtdnpbemkobhlcaaRatG
namespace Go.Proofs.Ytdnpbemkobhlcaa
open Go.RowKit
attribute [-go_sem] Instr.build

theorem same_rot' {f : Nat → Nat} {a b s m e : Nat} (h1 : a ≤ s) (h2 : s ≤ m) (h3 : m ≤ e) (h4 : e ≤ b) : Same f (rot f s m e) a b := (same_rot f s m e h2 h3).mono h1 h4
theorem rot_none (f : Nat → Nat) (m : Nat) : rot f m m (m + 1) = f := rot_same' f m (m + 1)
set_option maxRecDepth 100000 in
set_option maxHeartbeats 4000000 in
theorem merge_r {p : Nat → Nat × Nat} {lb : Array Value} {N r n : Nat} {w0 : World} (hS : SortBy p lb N r w0) (hn : n ≤ 1000) (f : Nat → Nat) (a m b : Nat) (ham : a + 2 ≤ m) (hm : b = m + 1) (hb : b ≤ n) (hf : ∀ i, i < n → f i < N)
    (h1 : Srt (ltF p) f a m) (hL : LR (clF p) (ltF p) f a m b) (w : World) (hk : SortAt r n w0 f w) :
    Calls Try.prog 70 #[.slice (some ⟨r, 0, none⟩) n n, .int .i64 a, .int .i64 m, .int .i64 b, .func (.func 60) #[] lb] w fun e w' => Merged p r n w0 f a b e w' := by
  have hst := strictF p hS.good
  have hm0 : ((m : Int) - a == 1) = false := by rw [beq_eq_false_iff_ne]; omega
  have hm1 : IntKind.i64.wrap ((b : Int) - m) = 1 := by rw [show (b : Int) - m = 1 by omega]; rfl
  have hm2 : m < b := by omega
  replace hm := Lib.hid hm
  go_enter Try.func70, Try.ntmps70
  go_wp2
  go_loopw [14, 15] (fun u v wr => ∃ i j : Nat, u = .int .i64 i ∧ v = .int .i64 j ∧ a ≤ i ∧ i ≤ j ∧ j ≤ m ∧ (∀ c, a ≤ c → c < i → clF p (f m) (f c) = false) ∧ (∀ c, j ≤ c → c < m → clF p (f m) (f c) = true) ∧ SortAt r n w0 f wr) (fun u v _ => (intOf v).toNat - (intOf u).toNat)
  case atStart => exact ⟨a, m, rfl, rfl, Nat.le_refl _, by omega, Nat.le_refl _, fun c h1 h2 => by omega, fun c h1 h2 => by omega, hk⟩
  case round =>
    clear hk
    obtain ⟨i, j, rfl, rfl, hi, hij, hjb, hno, hy, hk⟩ := hrel
    by_cases hlt : i < j
    · obtain ⟨h, hh⟩ : ∃ h, h = (i + j) / 2 := ⟨_, rfl⟩
      have hh1 : i ≤ h := by omega
      have hh2 : h < j := by omega
      have e1 : ((i : Int) + j) / 2 = (h : Int) := by omega
      have c1 := hk.row.row m (by omega)
      have c2 := hk.row.row h (by omega)
      have v1 := hf m (by omega)
      have v2 := hf h (by omega)
      have hcmp := fun W k => hS.cmp W (f m) (f h) k v1 v2
      dsimp only at hcmp
      have hcl : clF p (f m) (f h) = decide (cmpF (p (f h)) (p (f m)) < 0) := rfl
      have hLb : LR (clF p) (ltF p) f a m b := hL
      have hyes' : clF p (f m) (f h) = true → ∀ c, h ≤ c → c < m → clF p (f m) (f c) = true := fun k c k1 k2 => right_yes hst h1 hL hm2 (by omega) k1 k2 k
      have hno' : clF p (f m) (f h) = false → ∀ c, a ≤ c → c < h + 1 → clF p (f m) (f c) = false := fun k c k1 k2 => right_no hst h1 hL hm2 k1 (by omega) (by omega) k
      generalize f m = x at *
      generalize hya : f h = y at *
      generalize cmpF (p y) (p x) = z at *
      have s0 : wr.drew.cell? ⟨r, m, none⟩ = some (.int .i64 (x : Nat)) ∧ wr.drew.cell? ⟨r, h, none⟩ = some (.int .i64 (y : Nat)) := ⟨c1, c2⟩
      have hkd := hk.drew
      have hrs : r < wr.drew.heap.size := Nat.lt_of_lt_of_le hS.lt hkd.but.size
      have i1 : (0 : Int) ≤ (h : Int) := by omega
      have i2 : (h : Int) < (n : Int) := by omega
      have i3 : (0 : Int) ≤ (m : Int) := by omega
      have i4 : (m : Int) < (n : Int) := by omega
      have i5 : IntKind.i64.wrap ((i : Int) + j) = (i : Int) + j := IntWalk.i64_in _ (by omega)
      have i6 : IntKind.u64.wrap ((i : Int) + j) = (i : Int) + j := IntWalk.u64_in _ (by omega)
      have i7 : IntKind.i64.wrap (h : Int) = h := IntWalk.i64_in _ (by omega)
      clear c1 c2 hk hh
      go_wp2
      go_region_held3 (fun w' => w'.cell? ⟨r, m, none⟩ = some (.int .i64 (x : Nat)) ∧ w'.cell? ⟨r, h, none⟩ = some (.int .i64 (y : Nat))) (first | assumption)
        (first | (go_at_call 60; (with_reducible refine (hcmp _ hkd.but).mono ?_); rintro e w1 ⟨rfl, hw⟩; replace hkd := hkd.below hS.lt hw; have s1 : w1.cell? ⟨r, m, none⟩ = some (.int .i64 (x : Nat)) ∧ w1.cell? ⟨r, h, none⟩ = some (.int .i64 (y : Nat)) := ⟨(hw.cell hrs).trans s0.1, (hw.cell hrs).trans s0.2⟩))
      by_cases hz : z < 0
      · rw [decide_eq_true hz] at hcl
        replace hyes' := Lib.hid (hyes' hcl)
        clear hno' s0 s1 hy
        have hz2 : (!decide (z < 0)) = false := by simp [hz]
        go_wp2
        all_goals (rename_i hq; first | (rw [hz2] at hq; cases hq; done) | skip)
        exact ⟨⟨i, h, rfl, rfl, by omega, by omega, by omega, hno, hyes'.out, hkd⟩, by simp [intOf]; omega⟩
      · rw [decide_eq_false hz] at hcl
        replace hno' := Lib.hid (hno' hcl)
        have hz' : ¬ z < 0 := hz
        clear hyes' s0 s1 hno
        have hz2 : (!decide (z < 0)) = true := by simp [hz]
        go_wp2
        all_goals (rename_i hq; first | (rw [hz2] at hq; cases hq; done) | skip)
        exact ⟨⟨h + 1, j, by go_num, rfl, by omega, by omega, by omega, hno'.out, hy, hkd⟩, by simp [intOf]; omega⟩
    · obtain rfl : i = j := by omega
      have hres : Srt (ltF p) (rot f i m (m + 1)) a b := by
        rw [hm.out] at hL
        rw [hm.out]
        exact merge_right h1 hL hi hjb hno hy
      have hsame : Same f (rot f i m (m + 1)) a b := same_rot' hi hjb (by omega) (by omega)
      clear hy hno h1 hL
      go_wp2
      go_loopw [17] (fun v wr => ∃ k : Nat, v = .int .i64 k ∧ i ≤ k ∧ k ≤ m ∧ SortAt r n w0 (rot f k m (m + 1)) wr) (fun v _ => (intOf v).toNat)
      case atStart => exact ⟨m, rfl, hjb, Nat.le_refl _, by rw [rot_none]; exact hk⟩
      case round =>
        clear hk
        obtain ⟨k, rfl, hik, hkm, hk⟩ := hrel
        by_cases hlt2 : i < k
        · obtain ⟨t, rfl⟩ : ∃ t, k = t + 1 := ⟨k - 1, by omega⟩
          have e3 := rot_right_step f t m hkm
          have c1 := hk.row.row (t + 1) (by omega)
          have c2 := hk.row.row t (by omega)
          have f1 := hk.row.frozen (t + 1)
          have f2 := hk.row.frozen t
          generalize hR : rot f (t + 1) m (m + 1) = R at *
          generalize R (t + 1) = x at *
          generalize R t = y at *
          have i1 : (0 : Int) ≤ (t : Int) := by omega
          have i2 : (t : Int) < (n : Int) := by omega
          have i3 : (0 : Int) ≤ (t : Int) + 1 := by omega
          have i4 : (t : Int) + 1 < (n : Int) := by omega
          have i5 : (i : Int) < (t : Int) + 1 := by omega
          have i6 : IntKind.i64.wrap (t : Int) = t := IntWalk.i64_in _ (by omega)
          have i7 : IntKind.i64.wrap ((t : Int) + 1 - 1) = t := by rw [show (t : Int) + 1 - 1 = t by omega]; exact i6
          replace e3 := Lib.hid e3
          clear hR
          go_wp2
          go_region
          have hks := (hk.swap (t + 1) t y x).drew
          rw [e3.out] at hks
          go_wp2
          exact ⟨⟨t, by go_num, by omega, by omega, hks⟩, by simp [intOf]⟩
        · obtain rfl : i = k := by omega
          go_wp2
          refine bodyPost_ret (results_none rfl _ _ _) rfl ?_
          exact ⟨rfl, _, hsame, hres, hk⟩
end Go.Proofs.Ytdnpbemkobhlcaa
