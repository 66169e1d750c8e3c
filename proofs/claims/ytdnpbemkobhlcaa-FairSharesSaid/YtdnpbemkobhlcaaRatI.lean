/-
  Fractions, walks: two sorted rows merged in place, whatever their lengths.
-/
import Derived.Test.YtdnpbemkobhlcaaRatH
namespace Go.Proofs.Ytdnpbemkobhlcaa
open Go.RowKit
attribute [-go_sem] Instr.build

theorem LR.congr {cl : Nat → Nat → Bool} {lt : Nat → Nat → Prop} {f g : Nat → Nat} {a m b : Nat} (h : LR cl lt f a m b) (e : ∀ i, a ≤ i → i < b → g i = f i) : LR cl lt g a m b := fun i j h1 h2 h3 h4 => by
  rw [e i h1 (by omega), e j (by omega) h4]; exact h i j h1 h2 h3 h4
theorem same_below {f g : Nat → Nat} {a b n N : Nat} (h : Same f g a b) (hb : b ≤ n) (hf : ∀ i, i < n → f i < N) : ∀ i, i < n → g i < N := fun i hi => by
  by_cases k : a ≤ i ∧ i < b
  · obtain ⟨j, j1, j2, e⟩ := h.1 i k.1 k.2
    rw [e]; exact hf j (by omega)
  · rw [h.2.2 i (by omega)]; exact hf i hi
/-- What the search for the point of rotation has come to. -/
structure Search (cl : Nat → Nat → Bool) (f : Nat → Nat) (lo hi p i j : Nat) : Prop where
  l : lo ≤ i
  m : i ≤ j
  h : j ≤ hi
  no : ∀ c, lo ≤ c → c < i → cl (f (p - c)) (f c) = false
  yes : ∀ c, j ≤ c → c < hi → cl (f (p - c)) (f c) = true
theorem Search.found {cl : Nat → Nat → Bool} {f : Nat → Nat} {lo hi p i : Nat} (h : Search cl f lo hi p i i) : Found cl f lo hi p i := ⟨h.l, h.h, h.no, h.yes⟩
/-- Where the search may look. -/
structure Span (a m b mid lo hi p : Nat) : Prop where
  am : a < m
  mb : m < b
  d : mid = (a + b) / 2
  p : p = mid + m - 1
  c : (mid < m ∧ lo = mid + m - b ∧ hi = mid) ∨ (m ≤ mid ∧ lo = a ∧ hi = m)
theorem Search.up {cl : Nat → Nat → Bool} {lt : Nat → Nat → Prop} (hS : Strict lt) {f : Nat → Nat} {a m b mid lo hi p i j c : Nat} (hs : Span a m b mid lo hi p) (h1 : Srt lt f a m) (h2 : Srt lt f m b) (hL : LR cl lt f a m b) (h : Search cl f lo hi p i j) (hc : i ≤ c) (hcj : c < j) (hno : cl (f (p - c)) (f c) = false) : Search cl f lo hi p (c + 1) j := by
  obtain ⟨s1, s2, s3, s4, s5⟩ := hs
  obtain ⟨t1, t2, t3, t4, t5⟩ := h
  exact ⟨by omega, by omega, t3, fun x x1 x2 => no_before hS h1 h2 hL (by omega) (by omega) (by omega) (by omega) (by omega) (by omega) hno, t5⟩
theorem Search.down {cl : Nat → Nat → Bool} {lt : Nat → Nat → Prop} (hS : Strict lt) {f : Nat → Nat} {a m b mid lo hi p i j c : Nat} (hs : Span a m b mid lo hi p) (h1 : Srt lt f a m) (h2 : Srt lt f m b) (hL : LR cl lt f a m b) (h : Search cl f lo hi p i j) (hc : i ≤ c) (hcj : c < j) (hyes : cl (f (p - c)) (f c) = true) : Search cl f lo hi p i c := by
  obtain ⟨s1, s2, s3, s4, s5⟩ := hs
  obtain ⟨t1, t2, t3, t4, t5⟩ := h
  exact ⟨t1, hc, by omega, t4, fun x x1 x2 => yes_behind hS h1 h2 hL (by omega) (by omega) (by omega) (by omega) (by omega) (by omega) hyes⟩
theorem Span.start {a m b mid lo hi p : Nat} (hs : Span a m b mid lo hi p) (cl : Nat → Nat → Bool) (f : Nat → Nat) : Search cl f lo hi p lo hi := by
  obtain ⟨s1, s2, s3, s4, s5⟩ := hs
  exact ⟨Nat.le_refl _, by omega, Nat.le_refl _, fun c h1 h2 => by omega, fun c h1 h2 => by omega⟩
structure Idx (a m b lo hi P n i j c : Nat) : Prop where
  c1 : i ≤ c
  c2 : c < j
  d1 : m ≤ P - c
  d2 : P - c < n
  d3 : c ≤ P
  c3 : c < n
theorem Search.idx {cl : Nat → Nat → Bool} {f : Nat → Nat} {a m b mid lo hi p n i j : Nat} (hs : Span a m b mid lo hi p) (h : Search cl f lo hi p i j) (hn : b ≤ n) (hlt : i < j) : Idx a m b lo hi p n i j ((i + j) / 2) := by
  obtain ⟨s1, s2, s3, s4, s5⟩ := hs
  obtain ⟨t1, t2, t3, t4, t5⟩ := h
  exact ⟨by omega, by omega, by omega, by omega, by omega, by omega⟩
/-- What merging asks of a row. -/
structure Halves (p : Nat → Nat × Nat) (N n : Nat) (f : Nat → Nat) (a m b : Nat) : Prop where
  am : a < m
  mb : m < b
  bn : b ≤ n
  fb : ∀ i, i < n → f i < N
  h1 : Srt (ltF p) f a m
  h2 : Srt (ltF p) f m b
  hL : LR (clF p) (ltF p) f a m b
/-- Behind the rotation: what is left to do, and what it comes to. -/
theorem halves_rot {p : Nat → Nat × Nat} {N n : Nat} (hS : Strict (ltF p)) {f : Nat → Nat} {a m b mid lo hi P s : Nat} (hs : Span a m b mid lo hi P) (hH : Halves p N n f a m b) (hF : Found (clF p) f lo hi P s) :
    a ≤ s ∧ s ≤ m ∧ s ≤ mid ∧ mid ≤ mid + m - s ∧ m ≤ mid + m - s ∧ mid + m - s ≤ b ∧ Same f (rot f s m (mid + m - s)) a b ∧ (∀ i, i < n → rot f s m (mid + m - s) i < N) ∧
    (a < s → s < mid → Halves p N n (rot f s m (mid + m - s)) a s mid) ∧ (¬ (a < s ∧ s < mid) → Srt (ltF p) (rot f s m (mid + m - s)) a mid) ∧
    (∀ g, Same (rot f s m (mid + m - s)) g a mid → Srt (ltF p) g a mid →
      (mid < mid + m - s → mid + m - s < b → Halves p N n g mid (mid + m - s) b) ∧ (¬ (mid < mid + m - s ∧ mid + m - s < b) → Srt (ltF p) g mid b) ∧
      (∀ k, Same g k mid b → Srt (ltF p) k mid b → Srt (ltF p) k a b ∧ Same f k a b)) := by
  have hsp := hs
  obtain ⟨s1, s2, s3, s4, s5⟩ := hs
  rw [s4] at hF
  obtain ⟨r1, r2, r3, r4, r5, r6, q1, q2, q3, q4, q5, q6, q7⟩ := merge_halves hS hH.h1 hH.h2 hH.hL s1 s2 s3 s5 hF
  have hmb : mid ≤ b := by omega
  have ham : a ≤ mid := by omega
  have bn := hH.bn
  have sm : Same f (rot f s m (mid + m - s)) a b := same_rot' r1 r2 r5 r6
  have hbl := same_below sm bn hH.fb
  generalize hR : rot f s m (mid + m - s) = R at *
  refine ⟨r1, r2, r3, r4, r5, r6, sm, hbl, fun h1 h2 => ⟨h1, h2, by omega, hbl, q1, q2, q6⟩, fun h => ?_, fun g sg tg => ?_⟩
  · by_cases e : s = mid
    · rw [← e]; exact q1
    · have : s = a := by omega
      rw [← this]; exact q2
  · have eg : ∀ i, mid ≤ i → g i = R i := fun i hi => sg.2.2 i (.inr hi)
    have gb := same_below sg (show mid ≤ n by omega) hbl
    have g3 : Srt (ltF p) g mid (mid + m - s) := q3.congr fun i h1 h2 => eg i h1
    have g4 : Srt (ltF p) g (mid + m - s) b := q4.congr fun i h1 h2 => eg i (by omega)
    refine ⟨fun h1 h2 => ⟨h1, h2, bn, gb, g3, g4, q7.congr (fun i h1 h2 => eg i h1)⟩, fun h => ?_, fun k sk tk => ?_⟩
    · by_cases e : mid + m - s = b
      · rw [e] at g3; exact g3
      · have e' : mid + m - s = mid := by omega
        rw [e'] at g4; exact g4
    · have := merge_end ham hmb sg sk tg tk q5
      exact ⟨this.1, sm.trans this.2⟩

set_option maxRecDepth 100000 in
set_option maxHeartbeats 8000000 in
theorem merge_any {p : Nat → Nat × Nat} {lb : Array Value} {N r n : Nat} {w0 : World} (hS : SortBy p lb N r w0) (hn : n ≤ 1000) : ∀ (K : Nat) (f : Nat → Nat) (a m b : Nat), b - a ≤ K → Halves p N n f a m b → ∀ (A M B : Int), A = a → M = m → B = b → ∀ (w : World), SortAt r n w0 f w →
    Calls Try.prog 70 #[.slice (some ⟨r, 0, none⟩) n n, .int .i64 A, .int .i64 M, .int .i64 B, .func (.func 60) #[] lb] w fun e w' => Merged p r n w0 f a b e w' := by
  intro K
  induction K with
  | zero =>
    intro f a m b hK hH
    have := hH.am
    have := hH.mb
    omega
  | succ K ih =>
    intro f a m b hK hH A M B hA hM hB w hk
    subst hA hM hB
    have hst := strictF p hS.good
    have am := hH.am
    have mb := hH.mb
    have bn := hH.bn
    by_cases c1 : m = a + 1
    · exact merge_l hS hn f a m b c1 mb bn hH.fb hH.h2 hH.hL w hk
    by_cases c2 : b = m + 1
    · exact merge_r hS hn f a m b (by omega) c2 bn hH.fb hH.h1 hH.hL w hk
    have hm0 : ((m : Int) - a == 1) = false := by rw [beq_eq_false_iff_ne]; omega
    have hm1 : ((b : Int) - m == 1) = false := by rw [beq_eq_false_iff_ne]; omega
    obtain ⟨mid, hmid⟩ : ∃ x, x = (a + b) / 2 := ⟨_, rfl⟩
    obtain ⟨q, hq⟩ : ∃ x, x = mid + m := ⟨_, rfl⟩
    obtain ⟨P, hP⟩ : ∃ x, x = mid + m - 1 := ⟨_, rfl⟩
    have hsp : ∃ lo hi, Span a m b mid lo hi P ∧ ((mid < m ∧ ((q : Int) - b = (lo : Int)) ∧ hi = mid) ∨ (m ≤ mid ∧ lo = a ∧ hi = m)) := by
      by_cases c : mid < m
      · exact ⟨mid + m - b, mid, ⟨am, mb, hmid, hP, .inl ⟨c, rfl, rfl⟩⟩, .inl ⟨c, by omega, rfl⟩⟩
      · exact ⟨a, m, ⟨am, mb, hmid, hP, .inr ⟨by omega, rfl, rfl⟩⟩, .inr ⟨by omega, rfl, rfl⟩⟩
    obtain ⟨lo, hi, hsp, hcase⟩ := hsp
    have e1 : ((a : Int) + b) / 2 = (mid : Int) := by omega
    have i1 : IntKind.i64.wrap ((a : Int) + b) = (a : Int) + b := IntWalk.i64_in _ (by omega)
    have i2 : IntKind.u64.wrap ((a : Int) + b) = (a : Int) + b := IntWalk.u64_in _ (by omega)
    have i3 : IntKind.i64.wrap (mid : Int) = mid := IntWalk.i64_in _ (by omega)
    have i4 : IntKind.i64.wrap ((mid : Int) + m) = (q : Int) := by rw [IntWalk.i64_in _ (by omega)]; omega
    have i5 : IntKind.i64.wrap ((q : Int) - 1) = (P : Int) := by rw [IntWalk.i64_in _ (by omega)]; omega
    replace hmid := Lib.hid hmid
    have bP : P < 4000 := by omega
    have bq : q < 4000 := by omega
    replace hq := Lib.hid hq
    replace hP := Lib.hid hP
    replace c1 := Lib.hid c1
    replace c2 := Lib.hid c2
    replace hK := Lib.hid hK
    replace ih := Lib.hid ih
    have hfb := Lib.hid hH.fb
    have hHh := Lib.hid hH
    have hspan := Lib.hid hsp
    clear hH
    go_enter Try.func70, Try.ntmps70
    rcases hcase with ⟨d1, d2, d3⟩ | ⟨d1, d2, d3⟩
    all_goals
      try have i6 : IntKind.i64.wrap ((q : Int) - b) = (lo : Int) := by rw [IntWalk.i64_in _ (by omega)]; exact d2
      try have d4 : ¬ (mid : Int) < m := by omega
      replace d2 := Lib.hid d2
      replace d3 := Lib.hid d3
      clear hsp
      go_wp2
      go_loopw [20, 21] (fun u v wr => ∃ i j : Nat, u = .int .i64 i ∧ v = .int .i64 j ∧ Search (clF p) f lo hi P i j ∧ SortAt r n w0 f wr) (fun u v _ => (intOf v).toNat - (intOf u).toNat)
      case atStart => exact ⟨lo, hi, by first | rfl | rw [d2.out], by rw [d3.out], hspan.out.start _ _, hk⟩
      case round =>
        clear hk
        obtain ⟨i, j, rfl, rfl, hse, hk⟩ := hrel
        by_cases hlt : i < j
        · have hx := hse.idx hspan.out bn hlt
          obtain ⟨h, hh⟩ : ∃ h, h = (i + j) / 2 := ⟨_, rfl⟩
          rw [← hh] at hx
          obtain ⟨x1, x2, x3, x4, x5, x6⟩ := hx
          obtain ⟨g, hg⟩ : ∃ g, g = P - h := ⟨_, rfl⟩
          rw [← hg] at x3 x4
          have e2 : ((i : Int) + j) / 2 = (h : Int) := by omega
          have c3 := hk.row.row g (by omega)
          have c4 := hk.row.row h (by omega)
          have v1 := hfb.out g (by omega)
          have v2 := hfb.out h (by omega)
          have hcmp := fun W k => hS.cmp W (f g) (f h) k v1 v2
          dsimp only at hcmp
          have hcl : clF p (f g) (f h) = decide (cmpF (p (f h)) (p (f g)) < 0) := rfl
          have hdn : clF p (f g) (f h) = true → Search (clF p) f lo hi P i h := fun k => hse.down hst hspan.out hHh.out.h1 hHh.out.h2 hHh.out.hL x1 x2 (by rw [← hg]; exact k)
          have hup : clF p (f g) (f h) = false → Search (clF p) f lo hi P (h + 1) j := fun k => hse.up hst hspan.out hHh.out.h1 hHh.out.h2 hHh.out.hL x1 x2 (by rw [← hg]; exact k)
          generalize f g = x at *
          generalize f h = y at *
          generalize cmpF (p y) (p x) = z at *
          have s0 : wr.drew.cell? ⟨r, g, none⟩ = some (.int .i64 (x : Nat)) ∧ wr.drew.cell? ⟨r, h, none⟩ = some (.int .i64 (y : Nat)) := ⟨c3, c4⟩
          have hkd := hk.drew
          have hrs : r < wr.drew.heap.size := Nat.lt_of_lt_of_le hS.lt hkd.but.size
          have j1 : (0 : Int) ≤ (h : Int) := by omega
          have j2 : (h : Int) < (n : Int) := by omega
          have j3 : (0 : Int) ≤ (g : Int) := by omega
          have j4 : (g : Int) < (n : Int) := by omega
          have j5 : IntKind.i64.wrap ((i : Int) + j) = (i : Int) + j := IntWalk.i64_in _ (by omega)
          have j6 : IntKind.u64.wrap ((i : Int) + j) = (i : Int) + j := IntWalk.u64_in _ (by omega)
          have j7 : IntKind.i64.wrap (h : Int) = h := IntWalk.i64_in _ (by omega)
          have j8 : IntKind.i64.wrap ((P : Int) - h) = (g : Int) := by rw [IntWalk.i64_in _ (by omega)]; omega
          replace hdn := Lib.hid hdn
          replace hup := Lib.hid hup
          clear c3 c4 hk hh hg hse
          go_wp2
          go_region_held3 (fun w' => w'.cell? ⟨r, g, none⟩ = some (.int .i64 (x : Nat)) ∧ w'.cell? ⟨r, h, none⟩ = some (.int .i64 (y : Nat))) (first | assumption)
            (first | (go_at_call 60; (with_reducible refine (hcmp _ hkd.but).mono ?_); rintro e w1 ⟨rfl, hw⟩; replace hkd := hkd.below hS.lt hw; have s1 : w1.cell? ⟨r, g, none⟩ = some (.int .i64 (x : Nat)) ∧ w1.cell? ⟨r, h, none⟩ = some (.int .i64 (y : Nat)) := ⟨(hw.cell hrs).trans s0.1, (hw.cell hrs).trans s0.2⟩))
          by_cases hz : z < 0
          · rw [decide_eq_true hz] at hcl
            have hdn := Lib.hid (hdn.out hcl)
            have hz2 : (!decide (z < 0)) = false := by simp [hz]
            clear s0 s1 hup
            go_wp2
            all_goals (rename_i hq; first | (rw [hz2] at hq; cases hq; done) | skip)
            exact ⟨⟨i, h, rfl, rfl, hdn.out, hkd⟩, by simp [intOf]; omega⟩
          · rw [decide_eq_false hz] at hcl
            have hup := Lib.hid (hup.out hcl)
            have hz2 : (!decide (z < 0)) = true := by simp [hz]
            clear s0 s1 hdn
            go_wp2
            all_goals (rename_i hq; first | (rw [hz2] at hq; cases hq; done) | skip)
            exact ⟨⟨h + 1, j, by go_num, rfl, hup.out, hkd⟩, by simp [intOf]; omega⟩
        · obtain rfl : i = j := by have := hse.m; omega
          obtain ⟨r1, r2, r3, r4, r5, r6, sm, hbl, hl1, hl2, rest⟩ := halves_rot hst hspan.out hHh.out hse.found
          obtain ⟨e, he⟩ : ∃ e, e = mid + m - i := ⟨_, rfl⟩
          rw [← he] at r4 r5 r6 sm hbl hl1 hl2 rest
          have i7 : IntKind.i64.wrap ((q : Int) - i) = (e : Int) := by have := hq.out; rw [IntWalk.i64_in _ (by omega)]; omega
          have mx : a < mid ∧ mid < b := by have := hmid.out; have := c1.out; have := c2.out; omega
          obtain ⟨mx1, mx2⟩ := mx
          have kk1 : mid - a ≤ K := by have := hK.out; omega
          have kk2 : b - mid ≤ K := by have := hK.out; omega
          have hR1 : i = m ∨ e = m → rot f i m e = f := fun k => by
            rcases k with k | k
            · rw [k]; exact rot_same' f m e
            · rw [k]; exact rot_same f i m
          replace he := Lib.hid he
          replace hl1 := Lib.hid hl1
          replace hl2 := Lib.hid hl2
          replace rest := Lib.hid rest
          replace sm := Lib.hid sm
          replace hbl := Lib.hid hbl
          replace hR1 := Lib.hid hR1
          clear hse
          by_cases x1 : i < m
          · by_cases x2 : i < mid
            · have x3 : m < e := by have := he.out; omega
              have x4 : mid < e := by have := he.out; omega
              by_cases x5 : a < i
              · by_cases x6 : e < b
                · go_wp2_with (first | (go_at_call 71; (with_reducible refine (rotate_any _ f i m e x1 x3 (Nat.le_trans r6 bn) hn _ _ _ rfl rfl rfl _ hk).mono ?_); rintro _ w1 ⟨rfl, hkR⟩) | (go_at_call 70; first | ((with_reducible refine (ih.out (rot f i m e) a i mid kk1 (hl1.out x5 x2) _ _ _ rfl rfl rfl _ hkR).mono ?_); rintro _ w2 ⟨rfl, g, sg, tg, hkg⟩; obtain ⟨ry, rn, fin⟩ := rest.out g sg tg; replace ry := Lib.hid ry; replace rn := Lib.hid rn; replace fin := Lib.hid fin) | ((with_reducible refine (ih.out g mid e b kk2 (ry.out x4 x6) _ _ _ rfl rfl rfl _ hkg).mono ?_); rintro _ w3 ⟨rfl, k, sk, tk, hkk⟩)))
                  go_end0
                  have fn := fin.out _ sk tk
                  exact ⟨rfl, _, fn.2, fn.1, hkk⟩
                · go_wp2_with (first | (go_at_call 71; (with_reducible refine (rotate_any _ f i m e x1 x3 (Nat.le_trans r6 bn) hn _ _ _ rfl rfl rfl _ hk).mono ?_); rintro _ w1 ⟨rfl, hkR⟩) | (go_at_call 70; first | ((with_reducible refine (ih.out (rot f i m e) a i mid kk1 (hl1.out x5 x2) _ _ _ rfl rfl rfl _ hkR).mono ?_); rintro _ w2 ⟨rfl, g, sg, tg, hkg⟩; obtain ⟨ry, rn, fin⟩ := rest.out g sg tg; replace ry := Lib.hid ry; replace rn := Lib.hid rn; replace fin := Lib.hid fin)))
                  go_end0
                  have fn := fin.out _ (Same.refl _ _ _) (rn.out (by omega))
                  exact ⟨rfl, _, fn.2, fn.1, hkg⟩
              · obtain rfl : a = i := by omega
                by_cases x6 : e < b
                · have tg := hl2.out (by omega); obtain ⟨ry, rn, fin⟩ := rest.out _ (Same.refl _ _ _) tg; replace ry := Lib.hid ry; replace rn := Lib.hid rn; replace fin := Lib.hid fin
                  go_wp2_with (first | (go_at_call 71; (with_reducible refine (rotate_any _ f a m e x1 x3 (Nat.le_trans r6 bn) hn _ _ _ rfl rfl rfl _ hk).mono ?_); rintro _ w1 ⟨rfl, hkR⟩) | (go_at_call 70; first | ((with_reducible refine (ih.out (rot f a m e) mid e b kk2 (ry.out x4 x6) _ _ _ rfl rfl rfl _ hkR).mono ?_); rintro _ w3 ⟨rfl, k, sk, tk, hkk⟩)))
                  go_end0
                  have fn := fin.out _ sk tk
                  exact ⟨rfl, _, fn.2, fn.1, hkk⟩
                · have tg := hl2.out (by omega); obtain ⟨ry, rn, fin⟩ := rest.out _ (Same.refl _ _ _) tg; replace ry := Lib.hid ry; replace rn := Lib.hid rn; replace fin := Lib.hid fin
                  go_wp2_with (first | (go_at_call 71; (with_reducible refine (rotate_any _ f a m e x1 x3 (Nat.le_trans r6 bn) hn _ _ _ rfl rfl rfl _ hk).mono ?_); rintro _ w1 ⟨rfl, hkR⟩))
                  go_end0
                  have fn := fin.out _ (Same.refl _ _ _) (rn.out (by omega))
                  exact ⟨rfl, _, fn.2, fn.1, hkR⟩
            · have x3 : ¬ m < e := by have := he.out; omega
              have x4 : mid < e := by have := he.out; omega
              have x5 : a < i := by omega
              have x6 : e < b := by omega
              have hR := hR1.out (.inr (by omega))
              have hkR : SortAt r n w0 (rot f i m e) wr := by rw [hR]; exact hk
              clear hR hk
              have tg := hl2.out (by omega); obtain ⟨ry, rn, fin⟩ := rest.out _ (Same.refl _ _ _) tg; replace ry := Lib.hid ry; replace rn := Lib.hid rn; replace fin := Lib.hid fin
              go_wp2_with (first | (go_at_call 70; first | ((with_reducible refine (ih.out (rot f i m e) mid e b kk2 (ry.out x4 x6) _ _ _ rfl rfl rfl _ hkR).mono ?_); rintro _ w3 ⟨rfl, k, sk, tk, hkk⟩)))
              go_end0
              have fn := fin.out _ sk tk
              exact ⟨rfl, _, fn.2, fn.1, hkk⟩
          · have x3 : ¬ mid < e := by have := he.out; omega
            have x5 : a < i := by omega
            have hR := hR1.out (.inl (by omega))
            by_cases x2 : i < mid
            · have hkR : SortAt r n w0 (rot f i m e) wr := by rw [hR]; exact hk
              clear hR hk
              go_wp2_with (first | (go_at_call 70; first | ((with_reducible refine (ih.out (rot f i m e) a i mid kk1 (hl1.out x5 x2) _ _ _ rfl rfl rfl _ hkR).mono ?_); rintro _ w2 ⟨rfl, g, sg, tg, hkg⟩; obtain ⟨ry, rn, fin⟩ := rest.out g sg tg; replace ry := Lib.hid ry; replace rn := Lib.hid rn; replace fin := Lib.hid fin)))
              go_end0
              have fn := fin.out _ (Same.refl _ _ _) (rn.out (by omega))
              exact ⟨rfl, _, fn.2, fn.1, hkg⟩
            · have hkR : SortAt r n w0 (rot f i m e) wr := by rw [hR]; exact hk
              clear hR hk
              have tg := hl2.out (by omega); obtain ⟨ry, rn, fin⟩ := rest.out _ (Same.refl _ _ _) tg; replace ry := Lib.hid ry; replace rn := Lib.hid rn; replace fin := Lib.hid fin
              go_wp2
              go_end0
              have fn := fin.out _ (Same.refl _ _ _) (rn.out (by omega))
              exact ⟨rfl, _, fn.2, fn.1, hkR⟩
end Go.Proofs.Ytdnpbemkobhlcaa
