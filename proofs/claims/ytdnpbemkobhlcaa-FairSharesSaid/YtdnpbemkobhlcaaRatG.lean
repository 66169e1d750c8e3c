/-
  Fractions, walks: two sorted rows merged in place: one element on the left, one on the right.
-/
import Derived.Test.YtdnpbemkobhlcaaRatF
namespace Go.Proofs.Ytdnpbemkobhlcaa
open Go.RowKit
attribute [-go_sem] Instr.build

section
variable {cl : Nat → Nat → Bool} {lt : Nat → Nat → Prop}
theorem left_yes (hS : Strict lt) {f : Nat → Nat} {a m b h c : Nat} (h2 : Srt lt f m b) (hL : LR cl lt f a m b) (ham : a < m) (hc : m ≤ c) (hch : c ≤ h) (hb : h < b) (hy : cl (f h) (f a) = true) : cl (f c) (f a) = true := by
  have l0 := (hL a h (Nat.le_refl _) ham (by omega) hb).1 hy
  cases e : cl (f c) (f a) with
  | true => rfl
  | false =>
    have l1 := (hL a c (Nat.le_refl _) ham hc (by omega)).2 e
    rcases h2.le hc hch hb with e' | e'
    · rw [e'] at l1; exact absurd (hS.trans _ _ _ l0 l1) (hS.irrefl _)
    · exact absurd (hS.trans _ _ _ l0 (hS.trans _ _ _ l1 e')) (hS.irrefl _)
theorem left_no (hS : Strict lt) {f : Nat → Nat} {a m b h c : Nat} (h2 : Srt lt f m b) (hL : LR cl lt f a m b) (ham : a < m) (hh : m ≤ h) (hch : h ≤ c) (hb : c < b) (hy : cl (f h) (f a) = false) : cl (f c) (f a) = false := by
  cases e : cl (f c) (f a) with
  | false => rfl
  | true =>
    have := left_yes hS h2 hL ham hh hch hb e
    rw [this] at hy; cases hy
theorem right_no (hS : Strict lt) {f : Nat → Nat} {a m b h c : Nat} (h1 : Srt lt f a m) (hL : LR cl lt f a m b) (hmb : m < b) (hc : a ≤ c) (hch : c ≤ h) (hm : h < m) (hy : cl (f m) (f h) = false) : cl (f m) (f c) = false := by
  have l0 := (hL h m (by omega) hm (Nat.le_refl _) hmb).2 hy
  cases e : cl (f m) (f c) with
  | false => rfl
  | true =>
    have l1 := (hL c m hc (by omega) (Nat.le_refl _) hmb).1 e
    rcases h1.le hc hch hm with e' | e'
    · rw [e'] at l1; exact absurd (hS.trans _ _ _ l0 l1) (hS.irrefl _)
    · exact absurd (hS.trans _ _ _ l1 (hS.trans _ _ _ e' l0)) (hS.irrefl _)
theorem right_yes (hS : Strict lt) {f : Nat → Nat} {a m b h c : Nat} (h1 : Srt lt f a m) (hL : LR cl lt f a m b) (hmb : m < b) (hh : a ≤ h) (hch : h ≤ c) (hm : c < m) (hy : cl (f m) (f h) = true) : cl (f m) (f c) = true := by
  cases e : cl (f m) (f c) with
  | true => rfl
  | false =>
    have := right_no hS h1 hL hmb hh hch hm e
    rw [this] at hy; cases hy
end
/-- What a merge hands back. -/
def Merged (p : Nat → Nat × Nat) (r n : Nat) (w0 : World) (f : Nat → Nat) (a b : Nat) (e : Ending) (w' : World) : Prop :=
  e = .returned (.tuple #[]) ∧ ∃ g, Same f g a b ∧ Srt (ltF p) g a b ∧ SortAt r n w0 g w'
set_option maxRecDepth 100000 in
set_option maxHeartbeats 4000000 in
theorem merge_l {p : Nat → Nat × Nat} {lb : Array Value} {N r n : Nat} {w0 : World} (hS : SortBy p lb N r w0) (hn : n ≤ 1000) (f : Nat → Nat) (a m b : Nat) (hm : m = a + 1) (hmb : m < b) (hb : b ≤ n) (hf : ∀ i, i < n → f i < N)
    (h2 : Srt (ltF p) f m b) (hL : LR (clF p) (ltF p) f a m b) (w : World) (hk : SortAt r n w0 f w) :
    Calls Try.prog 70 #[.slice (some ⟨r, 0, none⟩) n n, .int .i64 a, .int .i64 m, .int .i64 b, .func (.func 60) #[] lb] w fun e w' => Merged p r n w0 f a b e w' := by
  have hst := strictF p hS.good
  have hm1 : IntKind.i64.wrap ((m : Int) - a) = 1 := by rw [show (m : Int) - a = 1 by omega]; rfl
  have hm2 : a < m := by omega
  have hm3 : ∀ c, m ≤ c ↔ a < c := fun c => by omega
  replace hm := Lib.hid hm
  go_enter Try.func70, Try.ntmps70
  go_wp2
  go_loopw [10, 11] (fun u v wr => ∃ i j : Nat, u = .int .i64 i ∧ v = .int .i64 j ∧ m ≤ i ∧ i ≤ j ∧ j ≤ b ∧ (∀ c, m ≤ c → c < i → clF p (f c) (f a) = true) ∧ (∀ c, j ≤ c → c < b → clF p (f c) (f a) = false) ∧ SortAt r n w0 f wr) (fun u v _ => (intOf v).toNat - (intOf u).toNat)
  case atStart => exact ⟨m, b, rfl, rfl, Nat.le_refl _, by omega, Nat.le_refl _, fun c h1 h2 => by omega, fun c h1 h2 => by omega, hk⟩
  case round =>
    clear hk
    obtain ⟨i, j, rfl, rfl, hi, hij, hjb, hy, hno, hk⟩ := hrel
    by_cases hlt : i < j
    · obtain ⟨h, hh⟩ : ∃ h, h = (i + j) / 2 := ⟨_, rfl⟩
      have hh1 : i ≤ h := by omega
      have hh2 : h < j := by omega
      have e1 : ((i : Int) + j) / 2 = (h : Int) := by omega
      have c1 := hk.row.row h (by omega)
      have c2 := hk.row.row a (by omega)
      have v1 := hf h (by omega)
      have v2 := hf a (by omega)
      have hcmp := fun W k => hS.cmp W (f h) (f a) k v1 v2
      dsimp only at hcmp
      have hcl : clF p (f h) (f a) = decide (cmpF (p (f a)) (p (f h)) < 0) := rfl
      have hyes' : clF p (f h) (f a) = true → ∀ c, m ≤ c → c < h + 1 → clF p (f c) (f a) = true := fun k c k1 k2 => left_yes hst h2 hL hm2 k1 (by omega) (by omega) k
      have hno' : clF p (f h) (f a) = false → ∀ c, h ≤ c → c < b → clF p (f c) (f a) = false := fun k c k1 k2 => left_no hst h2 hL hm2 (by omega) k1 k2 k
      generalize f h = x at *
      generalize hya : f a = y at *
      generalize cmpF (p y) (p x) = z at *
      have s0 : wr.drew.cell? ⟨r, h, none⟩ = some (.int .i64 (x : Nat)) ∧ wr.drew.cell? ⟨r, a, none⟩ = some (.int .i64 (y : Nat)) := ⟨c1, c2⟩
      have hkd := hk.drew
      have hrs : r < wr.drew.heap.size := Nat.lt_of_lt_of_le hS.lt hkd.but.size
      have i1 : (0 : Int) ≤ (h : Int) := by omega
      have i2 : (h : Int) < (n : Int) := by omega
      have i3 : (0 : Int) ≤ (a : Int) := by omega
      have i4 : (a : Int) < (n : Int) := by omega
      have i5 : IntKind.i64.wrap ((i : Int) + j) = (i : Int) + j := IntWalk.i64_in _ (by omega)
      have i6 : IntKind.u64.wrap ((i : Int) + j) = (i : Int) + j := IntWalk.u64_in _ (by omega)
      have i7 : IntKind.i64.wrap (h : Int) = h := IntWalk.i64_in _ (by omega)
      clear c1 c2 hk hh
      go_wp2
      go_region_held3 (fun w' => w'.cell? ⟨r, h, none⟩ = some (.int .i64 (x : Nat)) ∧ w'.cell? ⟨r, a, none⟩ = some (.int .i64 (y : Nat))) (first | assumption)
        (first | (go_at_call 60; (with_reducible refine (hcmp _ hkd.but).mono ?_); rintro e w1 ⟨rfl, hw⟩; replace hkd := hkd.below hS.lt hw; have s1 : w1.cell? ⟨r, h, none⟩ = some (.int .i64 (x : Nat)) ∧ w1.cell? ⟨r, a, none⟩ = some (.int .i64 (y : Nat)) := ⟨(hw.cell hrs).trans s0.1, (hw.cell hrs).trans s0.2⟩))
      by_cases hz : z < 0
      · rw [decide_eq_true hz] at hcl
        replace hyes' := Lib.hid (hyes' hcl)
        clear hno' s0 s1 hy
        go_wp2
        exact ⟨⟨h + 1, j, by go_num, rfl, by omega, by omega, hjb, hyes'.out, hno, hkd⟩, by simp [intOf]; omega⟩
      · rw [decide_eq_false hz] at hcl
        replace hno' := Lib.hid (hno' hcl)
        have hz' : ¬ z < 0 := hz
        clear hyes' s0 s1 hno
        go_wp2
        exact ⟨⟨i, h, rfl, rfl, by omega, by omega, by omega, hy, hno'.out, hkd⟩, by simp [intOf]; omega⟩
    · obtain rfl : i = j := by omega
      have hres : Srt (ltF p) (rot f a (a + 1) i) a b := by
        rw [hm.out] at h2 hL hi hy
        exact merge_left h2 hL hi hjb hy hno
      have hsame : Same f (rot f a (a + 1) i) a b := (same_rot f a (a + 1) i (by omega) (by omega)).mono (Nat.le_refl _) hjb
      have hi1 : a + 1 ≤ i := by omega
      clear hy hno h2 hL hm3
      go_wp2
      go_loopw [13] (fun v wr => ∃ k : Nat, v = .int .i64 k ∧ a ≤ k ∧ k + 1 ≤ i ∧ SortAt r n w0 (rot f a (a + 1) (k + 1)) wr) (fun v _ => i - (intOf v).toNat)
      case atStart => exact ⟨a, rfl, by omega, hi1, by rw [rot_same]; exact hk⟩
      case round =>
        clear hk
        obtain ⟨k, rfl, hak, hki, hk⟩ := hrel
        have i7 : IntKind.i64.wrap ((i : Int) - 1) = (i : Int) - 1 := IntWalk.i64_in _ (by omega)
        by_cases hlt2 : k + 2 ≤ i
        · have e3 := rot_left_step f a k hak
          have c1 := hk.row.row k (by omega)
          have c2 := hk.row.row (k + 1) (by omega)
          have f1 := hk.row.frozen k
          have f2 := hk.row.frozen (k + 1)
          generalize hR : rot f a (a + 1) (k + 1) = R at *
          generalize R k = x at *
          generalize R (k + 1) = y at *
          have i1 : (0 : Int) ≤ (k : Int) := by omega
          have i2 : (k : Int) < (n : Int) := by omega
          have i3 : (0 : Int) ≤ (k : Int) + 1 := by omega
          have i4 : (k : Int) + 1 < (n : Int) := by omega
          have i5 : (k : Int) < (i : Int) - 1 := by omega
          have i6 : IntKind.i64.wrap ((k : Int) + 1) = (k : Int) + 1 := IntWalk.i64_in _ (by omega)
          replace e3 := Lib.hid e3
          clear hR
          go_wp2
          go_region
          have hks := (hk.swap k (k + 1) y x).drew
          rw [e3.out] at hks
          go_wp2
          exact ⟨⟨k + 1, by go_num, by omega, by omega, hks⟩, by simp [intOf]; omega⟩
        · obtain rfl : i = k + 1 := by omega
          have i5 : ¬ (k : Int) < ((k + 1 : Nat) : Int) - 1 := by omega
          go_wp2
          refine bodyPost_ret (results_none rfl _ _ _) rfl ?_
          exact ⟨rfl, _, hsame, hres, hk⟩
end Go.Proofs.Ytdnpbemkobhlcaa
