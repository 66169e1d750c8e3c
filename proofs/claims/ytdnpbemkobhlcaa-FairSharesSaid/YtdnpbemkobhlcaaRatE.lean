/-
  Fractions, walks: the insertion sort by a comparing closure.
-/
import Derived.Test.YtdnpbemkobhlcaaRatD
namespace Go.Proofs.Ytdnpbemkobhlcaa
open Go.RowKit
attribute [-go_sem] Instr.build

theorem But.drew {b base : Nat} {w1 w2 : World} (h : But b base w1 w2) : But b base w1 w2.drew := ⟨h.os, h.tape, h.output, h.size, h.block⟩
theorem But.setCell {b base : Nat} {w1 w2 : World} (h : But b base w1 w2) (o : Nat) (v : Value) : But b base w1 (w2.setCell ⟨b, o, none⟩ v) := h.only (Only.setCell w2 o v) (.inl rfl)
/-- What a sort stands on: the comparing closure 60, bound to lb, in the world w0; its row lies in block r. -/
structure SortBy (p : Nat → Nat × Nat) (lb : Array Value) (N r : Nat) (w0 : World) : Prop where
  good : ∀ x, ¬ Bad (p x)
  lt : r < w0.heap.size
  cmp : CmpAt Try.prog 60 lb (fun i k => cmpF (p k) (p i)) N r w0
/-- The state of a sort: the row f. -/
structure SortAt (r n : Nat) (w0 : World) (f : Nat → Nat) (w : World) : Prop where
  but : But r w0.heap.size w0 w
  row : Blk w r (rowV f n) 3
theorem SortAt.swap {r n : Nat} {w0 w : World} {f : Nat → Nat} (h : SortAt r n w0 f w) (i j x y : Nat) : SortAt r n w0 (upd (upd f i x) j y) ((w.setCell ⟨r, i, none⟩ (.int .i64 x)).setCell ⟨r, j, none⟩ (.int .i64 y)) :=
  ⟨(h.but.setCell _ _).setCell _ _, by have := (h.row.set i (.int .i64 x)).set j (.int .i64 y); rwa [rowV_set, rowV_set] at this⟩
theorem SortAt.drew {r n : Nat} {w0 w : World} {f : Nat → Nat} (h : SortAt r n w0 f w) : SortAt r n w0 f w.drew := ⟨h.but.drew, h.row.drew⟩
theorem SortAt.below {r n : Nat} {w0 w w' : World} {f : Nat → Nat} (hr : r < w0.heap.size) (h : SortAt r n w0 f w) (hb : Below w.heap.size w w') : SortAt r n w0 f w' :=
  ⟨h.but.below hb h.but.size, h.row.below hb (by have := h.but.size; omega)⟩
set_option maxHeartbeats 2000000 in
theorem isort_any {p : Nat → Nat × Nat} {lb : Array Value} {N r : Nat} {w0 : World} (hS : SortBy p lb N r w0) (f : Nat → Nat) (n a b : Nat) (hab : a ≤ b) (hb : b ≤ n) (hn : n ≤ 1000) (hf : ∀ i, i < n → f i < N)
    (ht : Tell (clF p) (ltF p) f a b) (w : World) (hk : SortAt r n w0 f w) :
    Calls Try.prog 69 #[.slice (some ⟨r, 0, none⟩) n n, .int .i64 a, .int .i64 b, .func (.func 60) #[] lb] w fun e w' => e = .returned (.tuple #[]) ∧ ∃ g, Same f g a b ∧ Srt (ltF p) g a b ∧ SortAt r n w0 g w' := by
  have hst := strictF p hS.good
  go_enter Try.func69, Try.ntmps69
  go_wp2
  go_loopw [8] (fun v wr => ∃ (i : Nat) (g : Nat → Nat), v = .int .i64 i ∧ a < i ∧ i ≤ b + 1 ∧ (i ≤ b ∨ g = f) ∧ Same f g a i ∧ Srt (ltF p) g a i ∧ SortAt r n w0 g wr) (fun v _ => b + 1 - (intOf v).toNat)
  case atStart => exact ⟨a + 1, f, by go_num, by omega, by omega, .inr rfl, Same.refl _ _ _, Srt.tiny _ _ _ (by omega), hk⟩
  case round =>
    clear hk
    obtain ⟨i, g, rfl, hai, hib, hfg, hsm, hsr, hk⟩ := hrel
    by_cases hlt : i < b
    · have hin : i < n := by omega
      go_wp2
      go_loopw [9] (fun v wr => ∃ j : Nat, v = .int .i64 j ∧ a ≤ j ∧ j ≤ i ∧ (∀ c, j ≤ c → c < i → clF p (g i) (g c) = true) ∧ SortAt r n w0 (rot g j i (i + 1)) wr) (fun v _ => (intOf v).toNat)
      case atStart => exact ⟨i, rfl, by omega, Nat.le_refl _, fun c h1 h2 => by omega, by rw [rot_end]; exact hk⟩
      case round =>
        clear hk
        obtain ⟨j, rfl, haj, hji, hyes, hk⟩ := hrel
        have out : (j = a ∨ clF p (g i) (g (j - 1)) = false) → Same f (rot g j i (i + 1)) a (i + 1) ∧ Srt (ltF p) (rot g j i (i + 1)) a (i + 1) := fun h => isort_step hst ht hsm hsr haj hji hlt hyes h
        by_cases hja : a < j
        · obtain ⟨m, rfl⟩ : ∃ m, j = m + 1 := ⟨j - 1, by omega⟩
          simp only [Nat.add_sub_cancel] at out
          have e1 := rot_at g (m + 1) i hji
          have e2 := rot_before g (m + 1) i m (by omega)
          have e3 := rot_swap g (m + 1) i (by omega) hji
          simp only [Nat.add_sub_cancel] at e3
          have c1 := hk.row.row (m + 1) (by omega)
          have c2 := hk.row.row m (by omega)
          rw [e1] at c1
          rw [e2] at c2
          have v1 : g i < N := by
            have := hsm.2.2 i (.inr (Nat.le_refl _))
            rw [this]; exact hf i hin
          have v2 : g m < N := by
            obtain ⟨z, z1, z2, e⟩ := hsm.1 m (by omega) (by omega)
            rw [e]; exact hf z (by omega)
          have hcmp := fun W h => hS.cmp W (g i) (g m) h v1 v2
          dsimp only at hcmp
          have hyes' : clF p (g i) (g m) = true → ∀ c, m ≤ c → c < i → clF p (g i) (g c) = true := fun h c h1 h2 => by
            by_cases e : c = m
            · rw [e]; exact h
            · exact hyes c (by omega) h2
          have hcl : clF p (g i) (g m) = decide (cmpF (p (g m)) (p (g i)) < 0) := rfl
          generalize hR : rot g (m + 1) i (i + 1) = R at *
          generalize hx : g i = x at *
          generalize hy : g m = y at *
          generalize cmpF (p y) (p x) = z at *
          have hja' : (a : Int) < (m : Int) + 1 := by omega
          have s0 : wr.drew.cell? ⟨r, m + 1, none⟩ = some (.int .i64 (x : Nat)) ∧ wr.drew.cell? ⟨r, m, none⟩ = some (.int .i64 (y : Nat)) := ⟨c1, c2⟩
          have hkd := hk.drew
          have hrs : r < wr.drew.heap.size := Nat.lt_of_lt_of_le hS.lt hkd.but.size
          have i1 : (0 : Int) ≤ (m : Int) + 1 := by omega
          have i2 : (m : Int) + 1 < (n : Int) := by omega
          have i3 : (0 : Int) ≤ (m : Int) := by omega
          have i4 : (m : Int) < (n : Int) := by omega
          have i5 : IntKind.i64.wrap (m : Int) = m := IntWalk.i64_in _ (by omega)
          have i6 : IntKind.i64.wrap ((m : Int) + 1 - 1) = m := by rw [show (m : Int) + 1 - 1 = m by omega]; exact i5
          clear c1 c2 hk
          go_wp2
          go_region_held3 (fun w' => w'.cell? ⟨r, m + 1, none⟩ = some (.int .i64 (x : Nat)) ∧ w'.cell? ⟨r, m, none⟩ = some (.int .i64 (y : Nat))) (first | assumption)
            (first | (go_at_call 60; (with_reducible refine (hcmp _ hkd.but).mono ?_); rintro e w1 ⟨rfl, hw⟩; replace hkd := hkd.below hS.lt hw; have s1 : w1.cell? ⟨r, m + 1, none⟩ = some (.int .i64 (x : Nat)) ∧ w1.cell? ⟨r, m, none⟩ = some (.int .i64 (y : Nat)) := ⟨(hw.cell hrs).trans s0.1, (hw.cell hrs).trans s0.2⟩))
          by_cases hz : z < 0
          · rw [decide_eq_true hz] at hcl
            replace hyes' := Lib.hid (hyes' hcl)
            obtain ⟨c1, c2⟩ := s1
            have f1 := hkd.row.frozen (m + 1)
            have f2 := hkd.row.frozen m
            clear out hyes hsr ht hf hcl hR hx hy e1 e2 s0
            replace e3 := Lib.hid e3
            go_wp2
            go_region
            have hks := (hkd.swap (m + 1) m y x).drew
            rw [e3.out] at hks
            go_wp2
            exact ⟨⟨m, by go_num, by omega, by omega, hyes'.out, hks⟩, by simp [intOf]⟩
          · rw [decide_eq_false hz] at hcl
            replace out := Lib.hid (out (.inr hcl))
            clear hyes hsr ht hf hcl hR hx hy e1 e2 e3 s0 s1 hyes'
            have hz' : ¬ z < 0 := hz
            go_wp2
            exact ⟨⟨i + 1, R, by go_num, by omega, by omega, .inl (by omega), out.out.1, out.out.2, hkd⟩, by simp [intOf]; omega⟩
        · obtain rfl : j = a := by omega
          replace out := Lib.hid (out (.inl rfl))
          have hj1 : ¬ (j : Int) < j := by omega
          clear hyes hsr ht hf
          go_wp2
          go_region
          all_goals go_wp2
          all_goals exact ⟨⟨i + 1, _, by go_num, by omega, by omega, .inl (by omega), out.out.1, out.out.2, hk.drew⟩, by simp [intOf]; omega⟩
    · go_wp2
      go_end0
      refine ⟨rfl, g, ?_⟩
      rcases hfg with h | rfl
      · obtain rfl : i = b := by omega
        exact ⟨hsm, hsr, hk⟩
      · exact ⟨Same.refl _ _ _, hsr.mono (Nat.le_refl _) (by omega), hk⟩
end Go.Proofs.Ytdnpbemkobhlcaa
