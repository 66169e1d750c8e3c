/-
  The scheduler and the reference's, walks: what every method answers; the law's helpers.
-/
import Derived.Test.YtdnpbemkobhlcaaFaiE
import Derived.Test.YtdnpbemkobhlcaaFaiG
set_option linter.unusedSimpArgs false
set_option linter.unusedVariables false
/-! The scheduler, walks: what Order, Pick and Turn answer to any rates; the reference's the same. -/
namespace Go.Proofs.Ytdnpbemkobhlcaa
open Go.RowKit
attribute [-go_sem] Instr.build

/-- Rates that fit n users. -/
def okR (xs : List Int) (n : Nat) : Prop := xs.length = n ∧ ∀ x ∈ xs, 0 ≤ x ∧ x ≤ 4294967296
instance (xs : List Int) (n : Nat) : Decidable (okR xs n) := inferInstanceAs (Decidable (_ ∧ _))
def rOf (xs : List Int) : Nat → Nat := fun i => (xs.getD i 0).toNat
def ordE (xs : List Int) (n : Nat) : Int := if okR xs n then 0 else 2
def ordL (xs : List Int) (S : Nat → Nat) (n : Nat) : List Nat := if okR xs n then ordU (rOf xs) S n else []
def pickE (xs : List Int) (S : Nat → Nat) (n : Nat) : Int := if ordE xs n = 0 then (if ordL xs S n = [] then 10 else 0) else ordE xs n
def pickU (xs : List Int) (S : Nat → Nat) (n : Nat) : Nat := (ordL xs S n).getD 0 0
def turnS (xs : List Int) (S : Nat → Nat) (n : Nat) : Nat → Nat := if pickE xs S n = 0 then addS S (pickU xs S n) (rOf xs (pickU xs S n)) else S
theorem okR_at {xs : List Int} {n : Nat} (h : okR xs n) (i : Nat) (hi : i < n) : xs.getD i 0 = (rOf xs i : Nat) ∧ rOf xs i ≤ 4294967296 := by
  obtain ⟨h1, h2⟩ := h
  have hm : xs.getD i 0 ∈ xs := by rw [List.getD_eq_getElem?_getD, List.getElem?_eq_getElem (by omega)]; exact List.getElem_mem _
  obtain ⟨p, q⟩ := h2 _ hm
  unfold rOf
  exact ⟨(Int.toNat_of_nonneg p).symm, by omega⟩
theorem okR_bad {xs : List Int} {n : Nat} (h : ¬ okR xs n) (hl : xs.length = n) : ∃ i, i < n ∧ (xs.getD i 0 < 0 ∨ 4294967296 < xs.getD i 0) := by
  apply Decidable.byContradiction
  intro hn
  refine h ⟨hl, fun x hx => ?_⟩
  obtain ⟨i, hi, rfl⟩ := List.getElem_of_mem hx
  have e : xs.getD i 0 = xs[i] := by rw [List.getD_eq_getElem?_getD, List.getElem?_eq_getElem hi]; rfl
  have : ¬ (xs.getD i 0 < 0 ∨ 4294967296 < xs.getD i 0) := fun k => hn ⟨i, by omega, k⟩
  rw [e] at this
  omega
theorem ordL_none {xs : List Int} {n : Nat} (S : Nat → Nat) (h : ordE xs n ≠ 0) : ordL xs S n = [] := by
  unfold ordE at h; unfold ordL
  split at h
  · exact absurd rfl h
  · rename_i hk; rw [if_neg hk]
theorem ordL_length (xs : List Int) (S : Nat → Nat) (n : Nat) : (ordL xs S n).length ≤ n := by
  unfold ordL; split
  · exact ordU_length _ _ _
  · exact Nat.zero_le _
theorem pick_good {xs : List Int} {S : Nat → Nat} {n : Nat} (h : pickE xs S n = 0) : pickU xs S n < n ∧ okR xs n ∧ 0 < rOf xs (pickU xs S n) := by
  unfold pickE at h
  split at h
  · split at h
    · cases h
    · rename_i h1 h2
      unfold ordE at h1
      split at h1
      · rename_i hk
        unfold pickU
        unfold ordL at h2 ⊢
        rw [if_pos hk] at h2 ⊢
        cases hl : ordU (rOf xs) S n with
        | nil => exact absurd hl h2
        | cons u l =>
          have := (ordU_mem (rOf xs) S n u).1 (by rw [hl]; exact List.mem_cons_self ..)
          exact ⟨this.1, hk, this.2⟩
      · cases h1
  · rename_i h1; exact absurd h h1
theorem pick_bad {xs : List Int} {S : Nat → Nat} {n : Nat} (h : pickE xs S n ≠ 0) : pickU xs S n = 0 := by
  unfold pickE at h
  split at h
  · split at h
    · rename_i h2; unfold pickU; rw [h2]; rfl
    · exact absurd rfl h
  · rename_i h1; unfold pickU; rw [ordL_none S h1]; rfl
theorem cells_ints {w : World} {b : Nat} {l : List Nat} (h : Blk w b (rowV (fun i => l.getD i 0) l.length) 3) : Ints w (some ⟨b, 0, none⟩) (l.map fun (x : Nat) => (x : Int)) := fun _ =>
  ⟨b, 0, rfl, h.lt, fun i hi => by
    rw [List.length_map] at hi
    rw [Nat.zero_add, h.row i hi]
    simp [hi]⟩
theorem forder_none (v : Value) (a : Value) (w : World) (h : Noone w v) : Calls Try.prog 23 #[v, a] w fun e w' => e = .returned (.tuple #[.slice none 0 0, .int .i64 1]) ∧ w' = w := by
  have h0 := none_none v w h
  go_enter Try.func23, Try.ntmps23
  go_wp2_with (go_at_call 44; (with_reducible refine h0.mono ?_); rintro e w' ⟨rfl, hw⟩; rw [hw])
  go_ret2
  exact ⟨rfl, rfl⟩
theorem forder_bad {sb rb n m : Nat} {S : Nat → Nat} (w : World) (hs : Sch w sb rb n m S) (a : Option Addr) (k cap : Nat) (xs : List Int) (hx : Ints w a xs) (hk : k = xs.length) (hbad : ¬ okR xs n) :
    Calls Try.prog 23 #[.pointer (some ⟨sb, 0, none⟩), .slice a k cap] w fun e w' => e = .returned (.tuple #[.slice none 0 0, .int .i64 2]) ∧ w' = w := by
  have h0 := none_any w hs
  have n0 := hs.n0
  have n1 := hs.n1
  have c0 : w.cell? ⟨sb, 0, none⟩ = some (.slice (some ⟨rb, 0, none⟩) n m) := hs.c.cell 0
  by_cases hl : k = n
  · have e0 : ((k : Int) != n) = false := by simp [hl]
    obtain ⟨i, hi, hq⟩ := okR_bad hbad (by omega)
    have hmin := min_any xs a cap w hx (by omega) (by omega) k hk
    have hmax := max_any xs a cap w hx (by omega) (by omega) k hk
    have m1 := minI_le xs (k - 1) i (by omega)
    have m2 := maxI_ge xs (k - 1) i (by omega)
    have hb : minI xs (k - 1) < 0 ∨ 4294967296 < maxI xs (k - 1) := by omega
    generalize minI xs (k - 1) = lo at *
    generalize maxI xs (k - 1) = hj at *
    clear hq m1 m2 hbad hs hx hk
    subst hl
    by_cases g1 : lo < 0
    · go_enter Try.func23, Try.ntmps23
      go_wp2_with (first
        | (go_at_call 44; (with_reducible refine h0.mono ?_); rintro e w' ⟨rfl, hw⟩; rw [hw]; clear hw)
        | (go_at_call 46; (with_reducible refine hmin.mono ?_); rintro e w' ⟨rfl, hw⟩; rw [hw]; clear hw))
      go_ret2
      exact ⟨rfl, rfl⟩
    · have g2 : 4294967296 < hj := by omega
      go_enter Try.func23, Try.ntmps23
      go_wp2_with (first
        | (go_at_call 44; (with_reducible refine h0.mono ?_); rintro e w' ⟨rfl, hw⟩; rw [hw]; clear hw)
        | (go_at_call 46; (with_reducible refine hmin.mono ?_); rintro e w' ⟨rfl, hw⟩; rw [hw]; clear hw)
        | (go_at_call 47; (with_reducible refine hmax.mono ?_); rintro e w' ⟨rfl, hw⟩; rw [hw]; clear hw))
      go_ret2
      exact ⟨rfl, rfl⟩
  · have e0 : ((k : Int) != n) = true := by simp; omega
    clear hbad hs hx hk
    go_enter Try.func23, Try.ntmps23
    go_wp2_with (go_at_call 44; (with_reducible refine h0.mono ?_); rintro e w' ⟨rfl, hw⟩; rw [hw]; clear hw)
    go_ret2
    exact ⟨rfl, rfl⟩
/-- What Order hands back, of either side. -/
def OrdA (xs : List Int) (S : Nat → Nat) (n base : Nat) (e : Ending) (w : World) : Prop :=
  ∃ b c, e = .returned (.tuple #[.slice b (ordL xs S n).length c, .int .i64 (ordE xs n)]) ∧ Ints w b ((ordL xs S n).map fun (x : Nat) => (x : Int)) ∧ ∀ g o, b = some ⟨g, o, none⟩ → base ≤ g
theorem forder_any {sb rb n m : Nat} {S : Nat → Nat} (w : World) (hs : Sch w sb rb n m S) (a : Option Addr) (k cap : Nat) (xs : List Int) (hx : Ints w a xs) (hk : k = xs.length) :
    Calls Try.prog 23 #[.pointer (some ⟨sb, 0, none⟩), .slice a k cap] w fun e w' => OrdA xs S n w.heap.size e w' ∧ Below w.heap.size w w' := by
  by_cases h : okR xs n
  · obtain ⟨kr, o, rfl, _⟩ := hx (by have := hs.n0; have := h.1; omega)
    obtain rfl : k = n := by rw [hk, h.1]
    refine (forder_ok w hs kr o cap xs hx hk (fun i hi => okR_at h i hi)).mono ?_
    rintro e w' ⟨⟨b, rfl, hbl, hb⟩, hB⟩
    refine ⟨⟨some ⟨b, 0, none⟩, (ordL xs S k).length, ?_, ?_, fun g o e => by simp only [Option.some.injEq, Addr.mk.injEq] at e; omega⟩, hB⟩
    · unfold ordL ordE; rw [if_pos h, if_pos h]
    · unfold ordL; rw [if_pos h]; exact cells_ints hb
  · refine (forder_bad w hs a k cap xs hx hk h).mono ?_
    rintro e w' ⟨rfl, rfl⟩
    refine ⟨⟨none, 0, ?_, ?_, fun _ _ e => nomatch e⟩, Below.refl _ _⟩
    · unfold ordL ordE; rw [if_neg h, if_neg h]; rfl
    · unfold ordL; rw [if_neg h]; exact Ints.nil _ _
theorem reforder_any {n : Nat} {S : Nat → Nat} (w : World) (mb mc : Nat) (hM : Mro w mb n S) (a : Option Addr) (k cap : Nat) (xs : List Int) (hx : Ints w a xs) (hk : k = xs.length) (h1 : k ≤ 100000) (h0 : 0 < n) :
    Calls Try.prog 43 #[.slice (some ⟨mb, 0, none⟩) n mc, .slice a k cap] w fun e w' => OrdA xs S n w.heap.size e w' ∧ Below w.heap.size w w' := by
  by_cases h : okR xs n
  · obtain ⟨kr, o, rfl, hkr, hc⟩ := hx (by have := h.1; omega)
    obtain rfl : k = n := by rw [hk, h.1]
    refine (reforder_ok (r := rOf xs) w mb k mc hM kr o cap hkr (fun i hi => ⟨by rw [hc i (by have := h.1; omega), (okR_at h i hi).1], (okR_at h i hi).2⟩)).mono ?_
    rintro e w' ⟨⟨v, rfl, hO⟩, hB⟩
    obtain ⟨b, c, rfl, hI, _, hbl, _⟩ := hO.ints
    refine ⟨⟨b, c, ?_, ?_, hbl⟩, hB⟩
    · unfold ordL ordE; rw [if_pos h, if_pos h]
    · unfold ordL; rw [if_pos h]; exact hI
  · by_cases hl : k = n
    · subst hl
      have hn1 := hM.n1
      refine (reforder_range (some ⟨mb, 0, none⟩) a k mc cap xs w hx hk (by omega) (okR_bad h hk.symm)).mono ?_
      rintro e w' ⟨rfl, rfl⟩
      refine ⟨⟨none, 0, ?_, ?_, fun _ _ e => nomatch e⟩, Below.refl _ _⟩
      · unfold ordL ordE; rw [if_neg h, if_neg h]; rfl
      · unfold ordL; rw [if_neg h]; exact Ints.nil _ _
    · refine (reforder_len (some ⟨mb, 0, none⟩) a k n mc cap hl w).mono ?_
      rintro e w' ⟨rfl, rfl⟩
      refine ⟨⟨none, 0, ?_, ?_, fun _ _ e => nomatch e⟩, Below.refl _ _⟩
      · unfold ordL ordE; rw [if_neg h, if_neg h]; rfl
      · unfold ordL; rw [if_neg h]; exact Ints.nil _ _
theorem pick_none (v : Value) (a : Value) (w : World) (h : Noone w v) : Calls Try.prog 22 #[v, a] w fun e w' => e = .returned (.tuple #[.int .i64 0, .int .i64 1]) ∧ w' = w := by
  have h0 := forder_none v a w h
  go_enter Try.func22, Try.ntmps22
  go_wp2_with (go_at_call 23; (with_reducible refine h0.mono ?_); rintro e w' ⟨rfl, hw⟩; rw [hw])
  go_ret2
  exact ⟨rfl, rfl⟩
theorem ints_zero {w : World} {b : Option Addr} {l : List Nat} (h : Ints w b (l.map fun (x : Nat) => (x : Int))) (h0 : l ≠ []) : ∃ g o, b = some ⟨g, o, none⟩ ∧ w.cell? ⟨g, o, none⟩ = some (.int .i64 (l.getD 0 0 : Nat)) ∧ g < w.heap.size := by
  have hl : 0 < l.length := List.length_pos_iff.2 h0
  obtain ⟨g, o, rfl, hg, hc⟩ := h (by rw [List.length_map]; exact hl)
  refine ⟨g, o, rfl, ?_, hg⟩
  have := hc 0 (by rw [List.length_map]; exact hl)
  rw [Nat.add_zero] at this
  rw [this]
  simp [hl]
theorem pick_any {sb rb n m : Nat} {S : Nat → Nat} (w : World) (hs : Sch w sb rb n m S) (a : Option Addr) (k cap : Nat) (xs : List Int) (hx : Ints w a xs) (hk : k = xs.length) :
    Calls Try.prog 22 #[.pointer (some ⟨sb, 0, none⟩), .slice a k cap] w fun e w' => e = .returned (.tuple #[.int .i64 (pickU xs S n : Nat), .int .i64 (pickE xs S n)]) ∧ Below w.heap.size w w' := by
  have h0 := forder_any w hs a k cap xs hx hk
  have hln := ordL_none S (xs := xs) (n := n)
  unfold OrdA at h0
  unfold pickE pickU
  clear hx hk hs
  generalize ordL xs S n = l at *
  generalize ordE xs n = E at *
  by_cases hE : E = 0
  · subst hE
    rw [if_pos rfl]
    by_cases hl : l = []
    · subst hl
      rw [if_pos rfl]
      clear hln
      go_enter Try.func22, Try.ntmps22
      go_wp2_with (go_at_call 23; (with_reducible refine h0.mono ?_); rintro e w' ⟨⟨b, c, rfl, hb, _⟩, hw⟩)
      go_ret2
      exact ⟨rfl, hw⟩
    · rw [if_neg hl]
      have hlen : ((l.length : Int) == 0) = false := by
        rw [beq_eq_false_iff_ne]
        have := List.length_pos_iff.2 hl
        omega
      have hlp := List.length_pos_iff.2 hl
      have hz := fun w b h => ints_zero (w := w) (b := b) h hl
      clear hln hl
      generalize l.getD 0 0 = x0 at *
      replace hz := Lib.hid hz
      go_enter Try.func22, Try.ntmps22
      go_wp2_with (go_at_call 23; (with_reducible refine h0.mono ?_); rintro e w' ⟨⟨b, c, rfl, hb, _⟩, hw⟩; obtain ⟨g, o, rfl, hc, hg⟩ := hz.out _ _ hb; replace hb := Lib.hid hb)
      go_ret2
      exact ⟨rfl, hw⟩
  · rw [if_neg hE, hln hE]
    have e0 : (E != 0) = true := by simp [hE]
    replace hE := Lib.hid hE
    clear hln
    go_enter Try.func22, Try.ntmps22
    go_wp2_with (go_at_call 23; (with_reducible refine h0.mono ?_); rintro e w' ⟨⟨b, c, rfl, hb, _⟩, hw⟩)
    go_ret2
    exact ⟨rfl, hw⟩
theorem turn_none (v : Value) (a : Value) (w : World) (h : Noone w v) : Calls Try.prog 24 #[v, a] w fun e w' => e = .returned (.tuple #[.int .i64 0, .int .i64 1]) ∧ w' = w := by
  have h0 := pick_none v a w h
  go_enter Try.func24, Try.ntmps24
  go_wp2_with (go_at_call 22; (with_reducible refine h0.mono ?_); rintro e w' ⟨rfl, hw⟩; rw [hw])
  go_ret2
  exact ⟨rfl, rfl⟩
theorem addS_congr {S T : Nat → Nat} {n u b : Nat} (e : ∀ i, i < n → T i = S i) (hu : u < n) : ∀ i, i < n → addS T u b i = addS S u b i := fun i hi => by
  unfold addS upd
  rw [e u hu, e i hi]
/-- What serving answers, what becomes of the services. -/
def serveE (n : Nat) (u b : Int) : Int := if b < 0 ∨ 2305843009213693952 < b then 2 else if ¬ (0 ≤ u ∧ u < n) then 6 else 0
def serveS (S : Nat → Nat) (n : Nat) (u b : Int) : Nat → Nat := if serveE n u b = 0 then addS S u.toNat b.toNat else S
def servV (S : Nat → Nat) (n : Nat) (u : Int) : Int := if 0 ≤ u ∧ u < n then (S u.toNat : Nat) else 0
def servE (n : Nat) (u : Int) : Int := if 0 ≤ u ∧ u < n then 0 else 6
theorem serve_all {sb rb n m : Nat} {S : Nat → Nat} (w : World) (h : Sch w sb rb n m S) (u b : Int) :
    Calls Try.prog 26 #[.pointer (some ⟨sb, 0, none⟩), .int .i64 u, .int .i64 b] w fun e w' => e = .returned (.int .i64 (serveE n u b)) ∧ Sch w' sb rb n m (serveS S n u b) ∧ But rb w.heap.size w w' := by
  unfold serveS serveE
  by_cases h1 : b < 0 ∨ 2305843009213693952 < b
  · rw [if_pos h1, if_neg (by decide)]
    refine (serve_arg w h u b h1).mono ?_
    rintro e w' ⟨rfl, rfl⟩
    exact ⟨rfl, h, But.refl _ _ _⟩
  · rw [if_neg h1]
    by_cases h2 : 0 ≤ u ∧ u < n
    · rw [if_neg (not_not_intro h2), if_pos rfl]
      have := serve_any w h u.toNat b.toNat (by omega) (by omega)
      rw [Int.toNat_of_nonneg h2.1, Int.toNat_of_nonneg (by omega)] at this
      exact this
    · rw [if_pos h2, if_neg (by decide)]
      refine (serve_range w h u b (by omega) (by omega) h2).mono ?_
      rintro e w' ⟨rfl, rfl⟩
      exact ⟨rfl, h, But.refl _ _ _⟩
theorem service_all {sb rb n m : Nat} {S : Nat → Nat} (w : World) (h : Sch w sb rb n m S) (u : Int) :
    Calls Try.prog 25 #[.pointer (some ⟨sb, 0, none⟩), .int .i64 u] w fun e w' => e = .returned (.tuple #[.int .i64 (servV S n u), .int .i64 (servE n u)]) ∧ w' = w := by
  unfold servV servE
  by_cases h2 : 0 ≤ u ∧ u < n
  · rw [if_pos h2, if_pos h2]
    have := service_any w h u.toNat (by omega)
    rw [Int.toNat_of_nonneg h2.1] at this
    exact this
  · rw [if_neg h2, if_neg h2]
    exact service_bad w h u h2
theorem turn_any {sb rb n m : Nat} {S : Nat → Nat} (w : World) (hs : Sch w sb rb n m S) (a : Option Addr) (k cap : Nat) (xs : List Int) (hx : Ints w a xs) (hk : k = xs.length) :
    Calls Try.prog 24 #[.pointer (some ⟨sb, 0, none⟩), .slice a k cap] w fun e w' => e = .returned (.tuple #[.int .i64 (pickU xs S n : Nat), .int .i64 (pickE xs S n)]) ∧ Sch w' sb rb n m (turnS xs S n) ∧ But rb w.heap.size w w' := by
  have h0 := pick_any w hs a k cap xs hx hk
  unfold turnS
  by_cases hE : pickE xs S n = 0
  · obtain ⟨g1, g2, g3⟩ := pick_good hE
    have g4 := okR_at g2 _ g1
    obtain ⟨b, o, rfl, hb, hc⟩ := hx (by have := g2.1; omega)
    have hc1 := hc (pickU xs S n) (by have := g2.1; omega)
    rw [g4.1] at hc1
    have hkn : pickU xs S n < k := by have := g2.1; omega
    rw [if_pos hE]
    rw [hE] at h0 ⊢
    have hsv := fun W (h : Sch W sb rb n m S) => serve_any W h (pickU xs S n) (rOf xs (pickU xs S n)) g1 (by omega)
    replace hs := Lib.hid hs
    clear g2 g3 hc hE hx hk g1
    obtain ⟨g4, g5⟩ := g4
    clear g4
    generalize hr : rOf xs (pickU xs S n) = r at *
    generalize pickU xs S n = u at *
    clear hr g5
    replace hsv := Lib.hid hsv
    go_enter Try.func24, Try.ntmps24
    go_wp2_with (first
      | (go_at_call 22; (with_reducible refine h0.mono ?_); rintro e w1 ⟨rfl, hw⟩; have hc2 := (hw.cell (p := ⟨b, o + u, none⟩) hb).trans hc1; have hs1 := Lib.hid (hs.out.below hw))
      | (go_at_call 26; (with_reducible refine (hsv.out _ hs1.out).mono ?_); rintro e w2 ⟨rfl, hs2, hw2⟩))
    go_ret2
    exact ⟨rfl, hs2, (But.refl _ _ _).below hw (Nat.le_refl _) |>.trans ⟨hw2.os, hw2.tape, hw2.output, hw2.size, fun i hi hn => hw2.block i (by have := hw.size; omega) hn⟩⟩
  · have hU := pick_bad hE
    rw [if_neg hE]
    rw [hU] at h0 ⊢
    have e0 : (pickE xs S n != 0) = true := by simp [hE]
    have hs1 := Lib.hid hs
    clear hE hU hs hx hk
    generalize pickE xs S n = E at *
    go_enter Try.func24, Try.ntmps24
    go_wp2_with (go_at_call 22; (with_reducible refine h0.mono ?_); rintro e w1 ⟨rfl, hw⟩)
    go_ret2
    exact ⟨rfl, hs1.out.below hw, (But.refl _ _ _).below hw (Nat.le_refl _)⟩
end Go.Proofs.Ytdnpbemkobhlcaa

/-! The reference's scheduler, walks: Start, Serve, Turn. -/
namespace Go.Proofs.Ytdnpbemkobhlcaa
open Go.RowKit
attribute [-go_sem] Instr.build

theorem start_any (n : Nat) (h1 : 1 ≤ n) (h32 : n ≤ 32) (w : World) : Calls Try.prog 18 #[.int .i64 n] w fun e w' => (∃ mb, e = .returned (.slice (some ⟨mb, 0, none⟩) n n) ∧ w.heap.size ≤ mb ∧ Mro w' mb n (fun _ => 1)) ∧ Below w.heap.size w w' := by
  have hmk := mk_row n (by omega)
  rw [← ones_zero] at hmk
  have k0 : Blk (w.alloc (.cells (rowV (ones 0) n) 3)) w.heap.size (rowV (ones 0) n) 3 := Blk.new' rfl
  have hB := below_new (Below.refl w.heap.size w) (.cells (rowV (ones 0) n) 3)
  have hone : ∀ k, upd (ones k) k 1 = ones (k + 1) := fun k => by
    funext i; unfold upd ones
    repeat' split
    all_goals first | rfl | omega
  replace hone := Lib.hid hone
  go_enter Try.func18, Try.ntmps18
  go_wp2
  generalize w.alloc (.cells (rowV (ones 0) n) 3) = W at *
  go_loopw [4] (fun t wr => ∃ k : Nat, k ≤ n ∧ t = .int .i64 k ∧ Blk wr w.heap.size (rowV (ones k) n) 3 ∧ Below w.heap.size w wr) (fun t _ => n - (intOf t).toNat)
  case atStart => exact ⟨0, by omega, rfl, k0, hB⟩
  case round =>
    clear k0 hB
    obtain ⟨k, hk, rfl, k0, hB⟩ := hrel
    by_cases hlt : k < n
    · have f0 := k0.frozen k
      have c0 := k0.row k hlt
      have q := k0.set k (.int .i64 ((1 : Nat) : Int))
      rw [rowV_set, hone.out] at q
      have HQ := Lib.hid q
      clear q
      go_wp2
      exact ⟨⟨k + 1, by omega, by go_num, HQ.out, below_only hB (Only.setCell wr k _) (Nat.le_refl _)⟩, by simp [intOf]; omega⟩
    · obtain rfl : k = n := by omega
      rw [ones_all] at k0
      go_wp2
      go_ret
      exact ⟨⟨w.heap.size, rfl, Nat.le_refl _, ⟨_, k0, by rw [rowV_size]; exact Nat.le_refl _, fun i hi => row_cells _ k i hi⟩, fun i _ => ⟨Nat.le_refl _, by omega⟩, h32⟩, hB⟩
set_option maxRecDepth 100000 in
theorem refserve_all {n : Nat} {S : Nat → Nat} (w : World) (mb mc : Nat) (h : Mro w mb n S) (u b : Int) :
    Calls Try.prog 42 #[.slice (some ⟨mb, 0, none⟩) n mc, .int .i64 u, .int .i64 b] w fun e w' => e = .returned (.int .i64 (serveE n u b)) ∧ Mro w' mb n (serveS S n u b) ∧ But mb w.heap.size w w' := by
  have H := Lib.hid h
  unfold serveS serveE
  by_cases h1 : b < 0 ∨ 2305843009213693952 < b
  · rw [if_pos h1, if_neg (by decide)]
    clear h
    go_enter Try.func42, Try.ntmps42
    rcases h1 with h1 | h1
    · go_wp2
      go_ret
      exact ⟨rfl, H.out, But.refl _ _ _⟩
    · have h2 : ¬ b < 0 := by omega
      go_wp2
      go_ret
      exact ⟨rfl, H.out, But.refl _ _ _⟩
  · rw [if_neg h1]
    have b1 : ¬ b < 0 := by omega
    have b2 : ¬ 2305843009213693952 < b := by omega
    by_cases h2 : 0 ≤ u ∧ u < n
    · rw [if_neg (not_not_intro h2), if_pos rfl]
      obtain ⟨v, hv⟩ : ∃ v : Nat, u = v := ⟨u.toNat, (Int.toNat_of_nonneg h2.1).symm⟩
      obtain ⟨c, hc⟩ : ∃ c : Nat, b = c := ⟨b.toNat, (Int.toNat_of_nonneg (by omega)).symm⟩
      subst hv
      subst hc
      simp only [Int.toNat_natCast]
      have hu : v < n := by omega
      have hs := h.bd v hu
      have c1 := h.cell v hu
      have f1 := h.frozen v
      have i1 : IntKind.i64.wrap ((S v : Int) + c) = ((S v + c : Nat) : Int) := by rw [IntWalk.i64_in _ (by omega)]; omega
      have hz : S v + c < 5000000000000000000 := by omega
      have u1 : ¬ ((v : Int) < 0) := by omega
      have u2 : ¬ ((n : Int) ≤ v) := by omega
      unfold addS
      by_cases hle : S v + c ≤ 2305843009213693952
      · have hst := h.set v (S v + c) hu (by omega) hle
        rw [Nat.min_eq_left hle]
        have hite : (if ((S v + c : Nat) : Int) < 2305843009213693952 then ((S v + c : Nat) : Int) else 2305843009213693952) = ((S v + c : Nat) : Int) := by split <;> omega
        clear h2
        have HST := Lib.hid hst
        clear hst
        generalize S v + c = z at *
        generalize S v = x at *
        clear hs hle hz h1 h
        go_enter Try.func42, Try.ntmps42
        go_wp2
        go_ret
        exact ⟨rfl, HST.out, (But.refl _ _ _).setCell _ _⟩
      · have hst := h.set v 2305843009213693952 hu (by omega) (Nat.le_refl _)
        rw [Nat.min_eq_right (by omega)]
        have hite : (if ((S v + c : Nat) : Int) < 2305843009213693952 then ((S v + c : Nat) : Int) else 2305843009213693952) = 2305843009213693952 := if_neg (by omega)
        clear h2
        have HST := Lib.hid hst
        clear hst
        generalize S v + c = z at *
        generalize S v = x at *
        clear hs hle hz h1 h
        go_enter Try.func42, Try.ntmps42
        go_wp2
        go_ret
        exact ⟨rfl, HST.out, (But.refl _ _ _).setCell _ _⟩
    · rw [if_pos h2, if_neg (by decide)]
      clear h h1
      go_enter Try.func42, Try.ntmps42
      by_cases g1 : u < 0
      · go_wp2
        go_ret
        exact ⟨rfl, H.out, But.refl _ _ _⟩
      · have g2 : (n : Int) ≤ u := by omega
        clear h2
        go_wp2
        go_ret
        exact ⟨rfl, H.out, But.refl _ _ _⟩
set_option maxHeartbeats 1000000 in
theorem refturn_any {n : Nat} {S : Nat → Nat} (w : World) (mb mc : Nat) (hM : Mro w mb n S) (a : Option Addr) (k cap : Nat) (xs : List Int) (hx : Ints w a xs) (hk : k = xs.length) (h1 : k ≤ 100000) (h0n : 0 < n) :
    Calls Try.prog 41 #[.slice (some ⟨mb, 0, none⟩) n mc, .slice a k cap] w fun e w' => e = .returned (.tuple #[.int .i64 (pickU xs S n : Nat), .int .i64 (pickE xs S n)]) ∧ Mro w' mb n (turnS xs S n) ∧ But mb w.heap.size w w' := by
  have h0 := reforder_any w mb mc hM a k cap xs hx hk h1 h0n
  have hln := ordL_none S (xs := xs) (n := n)
  have hmb := hM.lt
  have HM := Lib.hid hM
  unfold OrdA at h0
  by_cases hE : pickE xs S n = 0
  · obtain ⟨g1, g2, g3⟩ := pick_good hE
    have g4 := okR_at g2 _ g1
    obtain ⟨kr, o, rfl, hkr, hc⟩ := hx (by have := g2.1; omega)
    have hc1 := hc (pickU xs S n) (by have := g2.1; omega)
    rw [g4.1] at hc1
    have hkn : pickU xs S n < k := by have := g2.1; omega
    have hsv := fun W (h : Mro W mb n S) => refserve_all W mb mc h (pickU xs S n : Nat) (rOf xs (pickU xs S n) : Nat)
    have hse : serveE n (pickU xs S n : Nat) (rOf xs (pickU xs S n) : Nat) = 0 := by
      unfold serveE
      rw [if_neg (by omega), if_neg (by omega)]
    have hss : serveS S n (pickU xs S n : Nat) (rOf xs (pickU xs S n) : Nat) = turnS xs S n := by
      unfold serveS turnS
      rw [hse, if_pos rfl, if_pos hE, Int.toNat_natCast, Int.toNat_natCast]
    rw [hss, hse] at hsv
    have hl : ordL xs S n ≠ [] ∧ ordE xs n = 0 := by
      unfold pickE at hE
      split at hE
      · split at hE
        · cases hE
        · rename_i q1 q2; exact ⟨q2, q1⟩
      · rename_i q1; exact absurd hE q1
    obtain ⟨hl, hoE⟩ := hl
    rw [hE]
    rw [hoE] at h0
    have hlen : (((ordL xs S n).length : Int) == 0) = false := by
      rw [beq_eq_false_iff_ne]
      have := List.length_pos_iff.2 hl
      omega
    have hlp := List.length_pos_iff.2 hl
    have hz := fun w b h => ints_zero (w := w) (b := b) h hl
    have hpu : (ordL xs S n).getD 0 0 = pickU xs S n := rfl
    rw [hpu] at hz
    replace hsv := Lib.hid hsv
    replace hz := Lib.hid hz
    clear hln hl hoE hss hse hE g1 g2 g3 g4 hc hx hk hM hpu
    generalize turnS xs S n = T at *
    generalize rOf xs (pickU xs S n) = r at *
    generalize pickU xs S n = u at *
    generalize ordL xs S n = l at *
    go_enter Try.func41, Try.ntmps41
    go_wp2_with (go_at_call 43; (with_reducible refine h0.mono ?_); rintro e w1 ⟨⟨b, c, rfl, hb, hbn⟩, hw⟩; obtain ⟨g, o', rfl, hcg, hg⟩ := hz.out _ _ hb; replace hb := Lib.hid hb; have hge := hbn g o' rfl; clear hbn; have hcr := (hw.cell (p := ⟨kr, o + u, none⟩) hkr).trans hc1; have HM1 := Lib.hid (HM.out.below hw))
    go_region_with (go_at_call 42; (with_reducible refine (hsv.out _ (HM1.out.drew)).mono ?_); rintro e w2 ⟨rfl, hs2, hw2⟩)
    all_goals have hc2 : w2.cell? ⟨g, o', none⟩ = some (.int .i64 (u : Nat)) := by rw [← hcg]; unfold World.cell?; rw [hw2.block g hg (by show g ≠ mb; omega)]; rfl
    all_goals have HS2 := Lib.hid hs2
    all_goals clear hs2
    all_goals go_wp2
    all_goals go_ret2
    all_goals exact ⟨rfl, HS2.out, (But.refl _ _ _).below hw (Nat.le_refl _) |>.trans ⟨hw2.os, hw2.tape, hw2.output, hw2.size, fun i hi hn => hw2.block i (by have := hw.size; show i < w1.heap.size; omega) hn⟩⟩
  · have hU := pick_bad hE
    have hT : turnS xs S n = S := by unfold turnS; rw [if_neg hE]
    rw [hT, hU]
    unfold pickE at hE ⊢
    by_cases hE0 : ordE xs n = 0
    · rw [if_pos hE0] at hE ⊢
      by_cases hl : ordL xs S n = []
      · rw [if_pos hl]
        rw [hl, hE0] at h0
        clear hln hx hk hE hl hE0 hM hU hT
        go_enter Try.func41, Try.ntmps41
        go_wp2_with (go_at_call 43; (with_reducible refine h0.mono ?_); rintro e w1 ⟨⟨b, c, rfl, hb, hbn⟩, hw⟩)
        go_ret2
        exact ⟨rfl, HM.out.below hw, (But.refl _ _ _).below hw (Nat.le_refl _)⟩
      · rw [if_neg hl] at hE
        exact absurd rfl hE
    · rw [if_neg hE0]
      have e0 : (ordE xs n == 0) = false := by simp [hE0]
      have e1 : (ordE xs n != 0) = true := by simp [hE0]
      rw [hln hE0] at h0
      clear hln hx hk hE hE0 hM hU hT
      generalize ordE xs n = E at *
      go_enter Try.func41, Try.ntmps41
      go_wp2_with (go_at_call 43; (with_reducible refine h0.mono ?_); rintro e w1 ⟨⟨b, c, rfl, hb, hbn⟩, hw⟩)
      go_ret2
      exact ⟨rfl, HM.out.below hw, (But.refl _ _ _).below hw (Nat.le_refl _)⟩
end Go.Proofs.Ytdnpbemkobhlcaa

/-! The law's helpers, walks: agrees; an operation on both sides. -/
namespace Go.Proofs.Ytdnpbemkobhlcaa
open Go.RowKit
attribute [-go_sem] Instr.build

theorem But.keepsP {b : Nat} {w w' : World} (h : But b w.heap.size w w') : KeepsP (fun i => i ≠ b) w w' := ⟨h.os, h.tape, h.output, h.size, fun i hi hk => h.block i hi hk⟩
theorem Ints.keepsP {K : Nat → Prop} {w w' : World} {a : Option Addr} {xs : List Int} (h : Ints w a xs) (k : KeepsP K w w') (hK : 0 < xs.length → ∀ b o, a = some ⟨b, o, none⟩ → K b) : Ints w' a xs := fun h0 => by
  obtain ⟨b, o, e, hl, hc⟩ := h h0
  exact ⟨b, o, e, Nat.lt_of_lt_of_le hl k.size, fun i hi => cell_keepsP (hc i hi) k hl (hK h0 b o e)⟩
theorem Sch.keepsP {K : Nat → Prop} {w w' : World} {sb rb n m : Nat} {S : Nat → Nat} (h : Sch w sb rb n m S) (k : KeepsP K w w') (h1 : K sb) (h2 : K rb) : Sch w' sb rb n m S := ⟨h.c.keepsP k h1, by obtain ⟨C, hC, q⟩ := h.r; exact ⟨C, hC.keepsP k h2, q⟩, h.le, h.ne, h.n0, h.n1, h.m1, h.bd⟩
theorem Mro.keepsP {K : Nat → Prop} {w w' : World} {mb n : Nat} {S : Nat → Nat} (h : Mro w mb n S) (k : KeepsP K w w') (h1 : K mb) : Mro w' mb n S := ⟨by obtain ⟨C, hC, q⟩ := h.r; exact ⟨C, hC.keepsP k h1, q⟩, h.bd, h.n1⟩
theorem agrees_any {sb rb n m : Nat} {S : Nat → Nat} (w : World) (hs : Sch w sb rb n m S) (mb o mc : Nat) (hc : ∀ i, i < n → w.cell? ⟨mb, o + i, none⟩ = some (.int .i64 (S i : Nat))) :
    Calls Try.prog 21 #[.pointer (some ⟨sb, 0, none⟩), .slice (some ⟨mb, o, none⟩) n mc] w fun e w' => e = .returned (.bool true) ∧ w' = w := by
  have h0 := users_any w hs
  have h1 := fun u hu => service_any w hs u hu
  have n1 := hs.n1
  have e0 : ((n : Int) != n) = false := by simp
  replace h1 := Lib.hid h1
  replace hc := Lib.hid hc
  clear hs
  go_enter Try.func21, Try.ntmps21
  go_wp2_with (go_at_call 27; (with_reducible refine h0.mono ?_); rintro e w' ⟨rfl, hw⟩; rw [hw]; clear hw)
  go_loopw [5] (fun t wr => ∃ k : Nat, k ≤ n ∧ t = .int .i64 k ∧ wr = w) (fun t _ => n - (intOf t).toNat)
  case atStart => exact ⟨0, by omega, rfl, rfl⟩
  case round =>
    obtain ⟨k, hk, rfl, hwr⟩ := hrel
    replace hwr := hwr.symm
    subst hwr
    by_cases hlt : k < n
    · have c1 := hc.out k hlt
      have h2 := h1.out k hlt
      generalize S k = x at *
      have ex : ((x : Int) != x) = false := by simp
      go_wp2_with (go_at_call 25; (with_reducible refine h2.mono ?_); rintro e w' ⟨rfl, hw⟩; rw [hw]; clear hw)
      exact ⟨⟨k + 1, by omega, by go_num, trivial⟩, by simp [intOf]; omega⟩
    · obtain rfl : k = n := by omega
      go_wp2
      go_ret
      exact ⟨rfl, rfl⟩
/-- Both sides of the law: a scheduler and the reference's services, in blocks apart. -/
structure Duo (w : World) (sb rb n m mb : Nat) (S : Nat → Nat) : Prop where
  s : Sch w sb rb n m S
  q : Mro w mb n S
  ne1 : mb ≠ sb
  ne2 : mb ≠ rb
theorem Duo.agrees {w : World} {sb rb n m mb mc : Nat} {S : Nat → Nat} (h : Duo w sb rb n m mb S) : Calls Try.prog 21 #[.pointer (some ⟨sb, 0, none⟩), .slice (some ⟨mb, 0, none⟩) n mc] w fun e w' => e = .returned (.bool true) ∧ w' = w :=
  agrees_any w h.s mb 0 mc fun i hi => by rw [Nat.zero_add]; exact h.q.cell i hi
theorem Duo.keepsP {K : Nat → Prop} {w w' : World} {sb rb n m mb : Nat} {S : Nat → Nat} (h : Duo w sb rb n m mb S) (k : KeepsP K w w') (h1 : K sb) (h2 : K rb) (h3 : K mb) : Duo w' sb rb n m mb S := ⟨h.s.keepsP k h1 h2, h.q.keepsP k h3, h.ne1, h.ne2⟩
theorem Duo.below {w w' : World} {sb rb n m mb : Nat} {S : Nat → Nat} (h : Duo w sb rb n m mb S) (k : Below w.heap.size w w') : Duo w' sb rb n m mb S := ⟨h.s.below k, h.q.below k, h.ne1, h.ne2⟩
/-- What an operation makes of the services. -/
def stepS (kd u b : Int) (xs : List Int) (S : Nat → Nat) (n : Nat) : Nat → Nat := if kd = 0 then turnS xs S n else if kd = 1 then serveS S n u b else S
/-- Whole numbers appended to nothing. -/
def zv (l : List Int) : List Value := l.map fun x => Value.int .i64 x
theorem wpList_append_zs {w : World} {ops : Array Oper} {rest : List Oper} {op : Oper} {ac : Act} {Q : Exit → Act → World → Prop} (hgd : op.guard = none) (s x : Operand)
    (ho : op.op = .call { callee := .builtin .append, args := #[s, x], argTypes := #[28, 28] }) (hs : ac.eval s = .slice none 0 0)
    (ad : Option Addr) (l : List Int) (c : Nat) (n : Nat) (hn : n = l.length) (hx : ac.eval x = .slice ad n c) (h0 : ad = none → c = 0) (hF : Ints w ad l) (hlen : l.length ≤ 100000)
    (h : ∀ a' cap w', (∀ b o, a' = some ⟨b, o, none⟩ → w.heap.size ≤ b) → Ints w' a' l → Below w.heap.size w w' → wpList Try.prog ops Q rest (ac.put op.dst (.slice a' n cap)) w') : wpList Try.prog ops Q (op :: rest) ac w := by
  subst hn
  obtain ⟨i, hi, hz⟩ := Option.map_eq_some_iff.1 info3
  simp only [Prod.mk.injEq] at hz
  obtain ⟨hz0, hz1, hz2⟩ := hz
  cases ad with
  | none =>
    have hl : l = [] := by
      cases l with
      | nil => rfl
      | cons p r => obtain ⟨b, o, e, _⟩ := hF (by simp); cases e
    subst hl
    rw [h0 rfl] at hx
    refine wpList_append_own_none hgd s x 28 ho w.heap.size 3 i 1 elem28 hi (.slice none 0 0) 0 [] hs (World.ownsRow_nil _ _ _ _) hx ?_
    exact h none 0 w (fun b o e => by cases e) (Ints.nil _ _) (Below.refl _ _)
  | some p =>
    have hzl : (zv l).length = l.length := by simp [zv]
    refine wpList_append_own w hgd s x 28 ho w.heap.size 3 i (.int .i64 0) 1 8 elem28 hi hz0 hz1 hz2 rfl (by decide) (.slice none 0 0) 0 [] hs (World.ownsRow_nil _ _ _ _) p l.length c (zv l) hx (by rw [hzl, Nat.mul_one]) (fun j u hj => ?_) (fun v hv => ?_)
      (by unfold maxLen; omega) (by omega) (Nat.le_refl _) (fun v' w' h1 h2 _ => ?_)
    · have hj' : j < l.length := by
        have := (List.getElem?_eq_some_iff.1 hj).1
        rwa [hzl] at this
      obtain ⟨b, o, e, _, hc⟩ := hF (by omega)
      simp only [Option.some.injEq] at e
      subst e
      rw [Go.WideShapes.add_plain, hc j hj', ← hj]
      simp [zv, hj']
    · simp only [zv, List.mem_map] at hv
      obtain ⟨y, _, rfl⟩ := hv
      rfl
    · rw [Nat.zero_add, List.nil_append] at h1
      obtain ⟨hl, ⟨rfl, h3⟩ | ⟨g, cap, cur, rfl, hb, hh, hlc, hm, hsz, ht⟩⟩ := h1
      · have := h none 0 w' (fun b o e => by cases e) (fun h => by omega) (below_grown h2)
        rw [h3] at this
        exact this
      · refine h _ cap w' (fun b o e => by simp only [Option.some.injEq, Addr.mk.injEq] at e; omega) (fun h0 => ⟨g, 0, rfl, lt_of_block hh, fun j hj => ?_⟩) (below_grown h2)
        rw [Nat.mul_one] at ht
        have e1 : w'.cell? ⟨g, 0 + j, none⟩ = cur[j]? := by simp [World.cell?, hh]
        rw [e1, ← Array.getElem?_toList, ← List.getElem?_take_of_lt hj, ht]
        simp [zv, hj]
set_option maxRecDepth 100000 in
set_option maxHeartbeats 2000000 in
theorem do_turn {sb rb n m mb : Nat} {S : Nat → Nat} (w : World) (h : Duo w sb rb n m mb S) (mc : Nat) (u b : Int) (a : Option Addr) (k cap : Nat) (xs : List Int) (hx : Ints w a xs) (hk : k = xs.length) (h1 : k ≤ 100000) (hnil : a = none → cap = 0) (hap : 0 < xs.length → ∀ g o, a = some ⟨g, o, none⟩ → g ≠ rb ∧ g ≠ mb) :
    Calls Try.prog 19 #[.pointer (some ⟨sb, 0, none⟩), .slice (some ⟨mb, 0, none⟩) n mc, .agg #[.int .i64 0, .int .i64 u, .int .i64 b, .slice a k cap]] w fun e w' => e = .returned (.bool true) ∧ Duo w' sb rb n m mb (turnS xs S n) ∧ KeepsP (fun i => i ≠ rb ∧ i ≠ mb) w w' := by
  have HS := Lib.hid h
  have HX := Lib.hid hx
  have HK := Lib.hid hk
  have H1 := Lib.hid h1
  have HNIL := Lib.hid hnil
  have HAP := Lib.hid hap
  have bx : Blk (w.alloc (.cells #[.int .i64 0, .int .i64 u, .int .i64 b, .slice a k cap] 31)) w.heap.size #[.int .i64 0, .int .i64 u, .int .i64 b, .slice a k cap] 31 := Blk.new' rfl
  have hB0 := below_new (Below.refl w.heap.size w) (.cells #[.int .i64 0, .int .i64 u, .int .i64 b, .slice a k cap] 31)
  have hrbl := h.s.ltr
  have hmbl := h.q.lt
  have hsbl := h.s.c.lt
  have hn0 := h.s.n0
  have HBX := Lib.hid bx
  clear h hx hk h1 hnil hap bx
  go_enter Try.func19, Try.ntmps19
  go_wp2_with (first
    | (at_builtin; (refine wpList_append_zs rfl _ _ rfl rfl a xs cap k HK.out rfl HNIL.out (HX.out.below hB0) (by have := H1.out; have := HK.out; omega) ?_); intro a' cap' w1 hna hI1 hB1'; have hB1 := bnext hB0 hB1'; have HI1 := Lib.hid hI1; have bx1 := HBX.out.below hB1' HBX.out.lt; have d0 := bx1.cell 0; have d1 := bx1.cell 1; have d2 := bx1.cell 2; have d3 := bx1.cell 3; simp only [List.getElem?_toArray, List.getElem?_cons_zero, List.getElem?_cons_succ] at d0 d1 d2 d3; have HNA := Lib.hid hna; clear hna hI1 hB0; have hwl : w.heap.size < w1.heap.size := bx1.lt; have HBX1 := Lib.hid bx1; clear bx1)
    | (go_at_call 24; (with_reducible refine (turn_any _ (HS.out.s.below hB1) a' k cap' xs HI1.out HK.out).mono ?_); rintro e w2 ⟨rfl, hs2, hb2⟩; have hk2 := hb2.keepsP; have d5 := cell_keepsP d3 hk2 hwl (by show w.heap.size ≠ rb; omega); have HS2 := Lib.hid hs2; clear hs2)
    | (go_at_call 41; (with_reducible refine (refturn_any _ mb mc ((HS.out.q.below hB1).keepsP hk2 (by have := HS.out.ne2; exact this)) a k cap xs ((HX.out.below hB1).keepsP hk2 (fun h g o e => (HAP.out h g o e).1)) HK.out H1.out hn0).mono ?_); rintro e w3 ⟨rfl, hq3, hb3⟩; have hk3 := hb3.keepsP; have hwl2 := Nat.lt_of_lt_of_le hwl hk2.size; have d6 := cell_keepsP d5 hk3 hwl2 (by show w.heap.size ≠ mb; omega); have HQ3 := Lib.hid hq3; clear hq3; generalize pickU xs S n = pu at *; generalize pickE xs S n = pe at *; have f1 : ((pu : Int) == pu) = true := by simp
       have f2 : (pe == pe) = true := by simp)
    | (go_at_call 39; (with_reducible refine (same_any a' a xs xs cap' cap _ ((HI1.out.keepsP hk2 (fun _ g o e => by have := HNA.out g o e; simp at this; show g ≠ rb; omega)).keepsP hk3 (fun _ g o e => by have := HNA.out g o e; simp at this; show g ≠ mb; omega)) (((HX.out.below hB1).keepsP hk2 (fun h g o e => (HAP.out h g o e).1)).keepsP hk3 (fun h g o e => (HAP.out h g o e).2)) (by have := H1.out; have := HK.out; omega) k k HK.out HK.out).mono ?_); rintro e w9 ⟨rfl, hB9⟩; rw [decide_eq_true rfl]))
  go_ret
  have k1 : KeepsP (fun i => i ≠ rb ∧ i ≠ mb) w w1 := KeepsP.below hB1 _
  have k2 : KeepsP (fun i => i ≠ rb ∧ i ≠ mb) w1 w2 := hk2.mono fun i _ h => h.1
  have k3 : KeepsP (fun i => i ≠ rb ∧ i ≠ mb) w2 w3 := hk3.mono fun i _ h => h.2
  have k9 : KeepsP (fun i => i ≠ rb ∧ i ≠ mb) w3 w9 := KeepsP.below hB9 _
  have n1 := HS.out.ne1
  have n2 := HS.out.ne2
  exact ⟨rfl, ⟨(HS2.out.keepsP hk3 (Ne.symm n1) (Ne.symm n2)).below hB9, HQ3.out.below hB9, n1, n2⟩, ((k1.trans k2).trans k3).trans k9⟩
set_option maxRecDepth 100000 in
set_option maxHeartbeats 2000000 in
theorem do_serve {sb rb n m mb : Nat} {S : Nat → Nat} (w : World) (h : Duo w sb rb n m mb S) (mc : Nat) (u b : Int) (a : Option Addr) (k cap : Nat) (xs : List Int) (hx : Ints w a xs) (hk : k = xs.length) (h1 : k ≤ 100000) (hnil : a = none → cap = 0) (hap : 0 < xs.length → ∀ g o, a = some ⟨g, o, none⟩ → g ≠ rb ∧ g ≠ mb) :
    Calls Try.prog 19 #[.pointer (some ⟨sb, 0, none⟩), .slice (some ⟨mb, 0, none⟩) n mc, .agg #[.int .i64 1, .int .i64 u, .int .i64 b, .slice a k cap]] w fun e w' => e = .returned (.bool true) ∧ Duo w' sb rb n m mb (serveS S n u b) ∧ KeepsP (fun i => i ≠ rb ∧ i ≠ mb) w w' := by
  have HS := Lib.hid h
  have HX := Lib.hid hx
  have HK := Lib.hid hk
  have H1 := Lib.hid h1
  have HNIL := Lib.hid hnil
  have HAP := Lib.hid hap
  have bx : Blk (w.alloc (.cells #[.int .i64 1, .int .i64 u, .int .i64 b, .slice a k cap] 31)) w.heap.size #[.int .i64 1, .int .i64 u, .int .i64 b, .slice a k cap] 31 := Blk.new' rfl
  have hB0 := below_new (Below.refl w.heap.size w) (.cells #[.int .i64 1, .int .i64 u, .int .i64 b, .slice a k cap] 31)
  have hrbl := h.s.ltr
  have hmbl := h.q.lt
  have hsbl := h.s.c.lt
  have hn0 := h.s.n0
  have HBX := Lib.hid bx
  clear h hx hk h1 hnil hap bx
  have hsv1 := fun W (h : Sch W sb rb n m S) => serve_all W h u b
  have hsv2 := fun W (h : Mro W mb n S) => refserve_all W mb mc h u b
  go_enter Try.func19, Try.ntmps19
  go_wp2_with (at_builtin; (refine wpList_append_zs rfl _ _ rfl rfl a xs cap k HK.out rfl HNIL.out (HX.out.below hB0) (by have := H1.out; have := HK.out; omega) ?_); intro a' cap' w1 hna hI1 hB1'; have hB1 := bnext hB0 hB1'; have HI1 := Lib.hid hI1; have bx1 := HBX.out.below hB1' HBX.out.lt; have d0 := bx1.cell 0; have d1 := bx1.cell 1; have d2 := bx1.cell 2; have d3 := bx1.cell 3; simp only [List.getElem?_toArray, List.getElem?_cons_zero, List.getElem?_cons_succ] at d0 d1 d2 d3; have HNA := Lib.hid hna; clear hna hI1 hB0; have hwl : w.heap.size < w1.heap.size := bx1.lt; have HBX1 := Lib.hid bx1; clear bx1)
  have s0 : w1.drew.cell? ⟨w.heap.size, 1, none⟩ = some (.int .i64 u) ∧ w1.drew.cell? ⟨w.heap.size, 2, none⟩ = some (.int .i64 b) := ⟨d1, d2⟩
  have hwd : w.heap.size < w1.drew.heap.size := hwl
  have HSD := Lib.hid (HS.out.s.below hB1).drew
  have HQD := Lib.hid (HS.out.q.below hB1).drew
  have e1 : (serveE n u b == serveE n u b) = true := by simp
  generalize serveE n u b = E at *
  generalize hT : serveS S n u b = T at *
  go_region_held3 (fun w' => w'.cell? ⟨w.heap.size, 1, none⟩ = some (.int .i64 u) ∧ w'.cell? ⟨w.heap.size, 2, none⟩ = some (.int .i64 b)) (first | assumption)
    (first
      | (go_at_call 26; (with_reducible refine (hsv1 _ HSD.out).mono ?_); rintro e w2 ⟨rfl, hs2, hb2⟩; have hk2 := hb2.keepsP; have s1 : w2.cell? ⟨w.heap.size, 1, none⟩ = some (.int .i64 u) ∧ w2.cell? ⟨w.heap.size, 2, none⟩ = some (.int .i64 b) := ⟨cell_keepsP s0.1 hk2 hwd (by show w.heap.size ≠ rb; omega), cell_keepsP s0.2 hk2 hwd (by show w.heap.size ≠ rb; omega)⟩; have hwd2 := Nat.lt_of_lt_of_le hwd hk2.size; have HS2 := Lib.hid hs2; clear hs2; have HQ2 := Lib.hid (HQD.out.keepsP hk2 (by have := HS.out.ne2; exact this)))
      | (go_at_call 42; (with_reducible refine (hsv2 _ HQ2.out).mono ?_); rintro e w3 ⟨rfl, hq3, hb3⟩; have hk3 := hb3.keepsP; have s2 : w3.cell? ⟨w.heap.size, 1, none⟩ = some (.int .i64 u) ∧ w3.cell? ⟨w.heap.size, 2, none⟩ = some (.int .i64 b) := ⟨cell_keepsP s1.1 hk3 hwd2 (by show w.heap.size ≠ mb; omega), cell_keepsP s1.2 hk3 hwd2 (by show w.heap.size ≠ mb; omega)⟩; have HQ3 := Lib.hid hq3; clear hq3; have d6 := cell_keepsP (cell_keepsP (W := w1.drew) d3 hk2 hwd (by show w.heap.size ≠ rb; omega)) hk3 hwd2 (by show w.heap.size ≠ mb; omega)))
  have HI9 := Lib.hid ((Ints.keepsP (w := w1.drew) HI1.out hk2 (fun _ g o e => by have := HNA.out g o e; simp at this; show g ≠ rb; omega)).keepsP hk3 (fun _ g o e => by have := HNA.out g o e; simp at this; show g ≠ mb; omega))
  have HX9 := Lib.hid ((Ints.keepsP (w := w1.drew) (HX.out.below hB1).drew hk2 (fun h g o e => (HAP.out h g o e).1)).keepsP hk3 (fun h g o e => (HAP.out h g o e).2))
  clear s0 s1 s2
  go_wp2_with (go_at_call 39; (with_reducible refine (same_any a' a xs xs cap' cap _ HI9.out HX9.out (by have := H1.out; have := HK.out; omega) k k HK.out HK.out).mono ?_); rintro e w9 ⟨rfl, hB9⟩; rw [decide_eq_true rfl])
  go_ret
  have k1 : KeepsP (fun i => i ≠ rb ∧ i ≠ mb) w w1.drew := (KeepsP.below hB1 _).trans ⟨rfl, rfl, rfl, Nat.le_refl _, fun _ _ _ => rfl⟩
  have k2 : KeepsP (fun i => i ≠ rb ∧ i ≠ mb) w1.drew w2 := hk2.mono fun i _ h => h.1
  have k3 : KeepsP (fun i => i ≠ rb ∧ i ≠ mb) w2 w3 := hk3.mono fun i _ h => h.2
  have k9 : KeepsP (fun i => i ≠ rb ∧ i ≠ mb) w3 w9 := KeepsP.below hB9 _
  have n1 := HS.out.ne1
  have n2 := HS.out.ne2
  exact ⟨rfl, ⟨by rw [hT]; exact (HS2.out.keepsP hk3 (Ne.symm n1) (Ne.symm n2)).below hB9, by rw [hT]; exact HQ3.out.below hB9, n1, n2⟩, ((k1.trans k2).trans k3).trans k9⟩
set_option maxRecDepth 100000 in
set_option maxHeartbeats 2000000 in
theorem do_pick {sb rb n m mb : Nat} {S : Nat → Nat} (w : World) (h : Duo w sb rb n m mb S) (mc : Nat) (u b : Int) (a : Option Addr) (k cap : Nat) (xs : List Int) (hx : Ints w a xs) (hk : k = xs.length) (h1 : k ≤ 100000) (hnil : a = none → cap = 0) (hap : 0 < xs.length → ∀ g o, a = some ⟨g, o, none⟩ → g ≠ rb ∧ g ≠ mb) :
    Calls Try.prog 19 #[.pointer (some ⟨sb, 0, none⟩), .slice (some ⟨mb, 0, none⟩) n mc, .agg #[.int .i64 2, .int .i64 u, .int .i64 b, .slice a k cap]] w fun e w' => e = .returned (.bool true) ∧ Duo w' sb rb n m mb (S) ∧ KeepsP (fun i => i ≠ rb ∧ i ≠ mb) w w' := by
  have HS := Lib.hid h
  have HX := Lib.hid hx
  have HK := Lib.hid hk
  have H1 := Lib.hid h1
  have HNIL := Lib.hid hnil
  have HAP := Lib.hid hap
  have bx : Blk (w.alloc (.cells #[.int .i64 2, .int .i64 u, .int .i64 b, .slice a k cap] 31)) w.heap.size #[.int .i64 2, .int .i64 u, .int .i64 b, .slice a k cap] 31 := Blk.new' rfl
  have hB0 := below_new (Below.refl w.heap.size w) (.cells #[.int .i64 2, .int .i64 u, .int .i64 b, .slice a k cap] 31)
  have hrbl := h.s.ltr
  have hmbl := h.q.lt
  have hsbl := h.s.c.lt
  have hn0 := h.s.n0
  have HBX := Lib.hid bx
  clear h hx hk h1 hnil hap bx
  have hln := ordL_none S (xs := xs) (n := n)
  have hpe : pickE xs S n = if ordE xs n = 0 then (if ordL xs S n = [] then 10 else 0) else ordE xs n := rfl
  have hpu : pickU xs S n = (ordL xs S n).getD 0 0 := rfl
  have hpk := fun W (h : Sch W sb rb n m S) a' cap' hI => pick_any W h a' k cap' xs hI HK.out
  have hro := fun W (h : Mro W mb n S) hI => reforder_any W mb mc h a k cap xs hI HK.out H1.out hn0
  unfold OrdA at hro
  rw [hpe, hpu] at hpk
  clear hpe hpu
  generalize ordL xs S n = l at *
  generalize ordE xs n = E at *
  by_cases hE : E = 0
  · subst hE
    by_cases hl : l = []
    · subst hl
      rw [if_pos rfl, if_pos rfl] at hpk
      simp only [List.getD_nil] at hpk
      replace hpk := Lib.hid hpk
      replace hro := Lib.hid hro
      clear hln
      go_enter Try.func19, Try.ntmps19
      go_wp2_with (first
        | (at_builtin; (refine wpList_append_zs rfl _ _ rfl rfl a xs cap k HK.out rfl HNIL.out (HX.out.below hB0) (by have := H1.out; have := HK.out; omega) ?_); intro a' cap' w1 hna hI1 hB1'; have hB1 := bnext hB0 hB1'; have HI1 := Lib.hid hI1; have bx1 := HBX.out.below hB1' HBX.out.lt; have d0 := bx1.cell 0; have d1 := bx1.cell 1; have d2 := bx1.cell 2; have d3 := bx1.cell 3; simp only [List.getElem?_toArray, List.getElem?_cons_zero, List.getElem?_cons_succ] at d0 d1 d2 d3; have HNA := Lib.hid hna; clear hna hI1 hB0; have hwl : w.heap.size < w1.heap.size := bx1.lt; have HBX1 := Lib.hid bx1; clear bx1)
        | (go_at_call 22; (with_reducible refine (hpk.out _ (HS.out.s.below hB1) a' cap' HI1.out).mono ?_); rintro e w2 ⟨rfl, hb2⟩; have hB2 := bnext hB1 hb2; have d5 := (hb2.cell (p := ⟨w.heap.size, 3, none⟩) hwl).trans d3; have hwl2 := Nat.lt_of_lt_of_le hwl hb2.size; have HI2 := Lib.hid (HI1.out.below hb2))
        | (go_at_call 43; (with_reducible refine (hro.out _ (HS.out.q.below hB2) (HX.out.below hB2)).mono ?_); rintro e w3 ⟨⟨bo, co, rfl, hbo, _⟩, hb3⟩; have hB3 := bnext hB2 hb3; have d6 := (hb3.cell (p := ⟨w.heap.size, 3, none⟩) hwl2).trans d5; have HI3 := Lib.hid (HI2.out.below hb3))
        | (go_at_call 39; (with_reducible refine (same_any a' a xs xs cap' cap _ HI3.out (HX.out.below hB3) (by have := H1.out; have := HK.out; omega) k k HK.out HK.out).mono ?_); rintro e w9 ⟨rfl, hB9⟩; rw [decide_eq_true rfl]))
      go_ret
      have hB9 := bnext hB3 hB9
      have n1 := HS.out.ne1
      have n2 := HS.out.ne2
      exact ⟨rfl, HS.out.below hB9, KeepsP.below hB9 _⟩
    · rw [if_pos rfl, if_neg hl] at hpk
      have hlen : ((l.length : Int) == 0) = false := by
        rw [beq_eq_false_iff_ne]
        have := List.length_pos_iff.2 hl
        omega
      have hlp := List.length_pos_iff.2 hl
      have hz := fun w b h => ints_zero (w := w) (b := b) h hl
      clear hln hl
      generalize l.getD 0 0 = x0 at *
      have ex : ((x0 : Int) == x0) = true := by simp
      replace hz := Lib.hid hz
      replace hpk := Lib.hid hpk
      replace hro := Lib.hid hro
      go_enter Try.func19, Try.ntmps19
      go_wp2_with (first
        | (at_builtin; (refine wpList_append_zs rfl _ _ rfl rfl a xs cap k HK.out rfl HNIL.out (HX.out.below hB0) (by have := H1.out; have := HK.out; omega) ?_); intro a' cap' w1 hna hI1 hB1'; have hB1 := bnext hB0 hB1'; have HI1 := Lib.hid hI1; have bx1 := HBX.out.below hB1' HBX.out.lt; have d0 := bx1.cell 0; have d1 := bx1.cell 1; have d2 := bx1.cell 2; have d3 := bx1.cell 3; simp only [List.getElem?_toArray, List.getElem?_cons_zero, List.getElem?_cons_succ] at d0 d1 d2 d3; have HNA := Lib.hid hna; clear hna hI1 hB0; have hwl : w.heap.size < w1.heap.size := bx1.lt; have HBX1 := Lib.hid bx1; clear bx1)
        | (go_at_call 22; (with_reducible refine (hpk.out _ (HS.out.s.below hB1) a' cap' HI1.out).mono ?_); rintro e w2 ⟨rfl, hb2⟩; have hB2 := bnext hB1 hb2; have d5 := (hb2.cell (p := ⟨w.heap.size, 3, none⟩) hwl).trans d3; have hwl2 := Nat.lt_of_lt_of_le hwl hb2.size; have HI2 := Lib.hid (HI1.out.below hb2))
        | (go_at_call 43; (with_reducible refine (hro.out _ (HS.out.q.below hB2) (HX.out.below hB2)).mono ?_); rintro e w3 ⟨⟨bo, co, rfl, hbo, _⟩, hb3⟩; have hB3 := bnext hB2 hb3; have d6 := (hb3.cell (p := ⟨w.heap.size, 3, none⟩) hwl2).trans d5; have HI3 := Lib.hid (HI2.out.below hb3); obtain ⟨g, o, rfl, hc, hg⟩ := hz.out _ _ hbo; replace hbo := Lib.hid hbo)
        | (go_at_call 39; (with_reducible refine (same_any a' a xs xs cap' cap _ HI3.out (HX.out.below hB3) (by have := H1.out; have := HK.out; omega) k k HK.out HK.out).mono ?_); rintro e w9 ⟨rfl, hB9⟩; rw [decide_eq_true rfl]))
      go_ret
      have hB9 := bnext hB3 hB9
      have n1 := HS.out.ne1
      have n2 := HS.out.ne2
      exact ⟨rfl, HS.out.below hB9, KeepsP.below hB9 _⟩
  · rw [if_neg hE, hln hE] at hpk
    rw [hln hE] at hro
    simp only [List.getD_nil] at hpk
    have e0 : (E == 0) = false := by simp [hE]
    have e1 : (E == E) = true := by simp
    replace hE := Lib.hid hE
    replace hpk := Lib.hid hpk
    replace hro := Lib.hid hro
    clear hln
    go_enter Try.func19, Try.ntmps19
    go_wp2_with (first
      | (at_builtin; (refine wpList_append_zs rfl _ _ rfl rfl a xs cap k HK.out rfl HNIL.out (HX.out.below hB0) (by have := H1.out; have := HK.out; omega) ?_); intro a' cap' w1 hna hI1 hB1'; have hB1 := bnext hB0 hB1'; have HI1 := Lib.hid hI1; have bx1 := HBX.out.below hB1' HBX.out.lt; have d0 := bx1.cell 0; have d1 := bx1.cell 1; have d2 := bx1.cell 2; have d3 := bx1.cell 3; simp only [List.getElem?_toArray, List.getElem?_cons_zero, List.getElem?_cons_succ] at d0 d1 d2 d3; have HNA := Lib.hid hna; clear hna hI1 hB0; have hwl : w.heap.size < w1.heap.size := bx1.lt; have HBX1 := Lib.hid bx1; clear bx1)
      | (go_at_call 22; (with_reducible refine (hpk.out _ (HS.out.s.below hB1) a' cap' HI1.out).mono ?_); rintro e w2 ⟨rfl, hb2⟩; have hB2 := bnext hB1 hb2; have d5 := (hb2.cell (p := ⟨w.heap.size, 3, none⟩) hwl).trans d3; have hwl2 := Nat.lt_of_lt_of_le hwl hb2.size; have HI2 := Lib.hid (HI1.out.below hb2))
      | (go_at_call 43; (with_reducible refine (hro.out _ (HS.out.q.below hB2) (HX.out.below hB2)).mono ?_); rintro e w3 ⟨⟨bo, co, rfl, hbo, _⟩, hb3⟩; have hB3 := bnext hB2 hb3; have d6 := (hb3.cell (p := ⟨w.heap.size, 3, none⟩) hwl2).trans d5; have HI3 := Lib.hid (HI2.out.below hb3))
      | (go_at_call 39; (with_reducible refine (same_any a' a xs xs cap' cap _ HI3.out (HX.out.below hB3) (by have := H1.out; have := HK.out; omega) k k HK.out HK.out).mono ?_); rintro e w9 ⟨rfl, hB9⟩; rw [decide_eq_true rfl]))
    go_ret
    have hB9 := bnext hB3 hB9
    have n1 := HS.out.ne1
    have n2 := HS.out.ne2
    exact ⟨rfl, HS.out.below hB9, KeepsP.below hB9 _⟩
set_option maxRecDepth 100000 in
set_option maxHeartbeats 2000000 in
theorem do_order {sb rb n m mb : Nat} {S : Nat → Nat} (w : World) (h : Duo w sb rb n m mb S) (mc : Nat) (u b : Int) (a : Option Addr) (k cap : Nat) (xs : List Int) (hx : Ints w a xs) (hk : k = xs.length) (h1 : k ≤ 100000) (hnil : a = none → cap = 0) (hap : 0 < xs.length → ∀ g o, a = some ⟨g, o, none⟩ → g ≠ rb ∧ g ≠ mb) :
    Calls Try.prog 19 #[.pointer (some ⟨sb, 0, none⟩), .slice (some ⟨mb, 0, none⟩) n mc, .agg #[.int .i64 3, .int .i64 u, .int .i64 b, .slice a k cap]] w fun e w' => e = .returned (.bool true) ∧ Duo w' sb rb n m mb (S) ∧ KeepsP (fun i => i ≠ rb ∧ i ≠ mb) w w' := by
  have HS := Lib.hid h
  have HX := Lib.hid hx
  have HK := Lib.hid hk
  have H1 := Lib.hid h1
  have HNIL := Lib.hid hnil
  have HAP := Lib.hid hap
  have bx : Blk (w.alloc (.cells #[.int .i64 3, .int .i64 u, .int .i64 b, .slice a k cap] 31)) w.heap.size #[.int .i64 3, .int .i64 u, .int .i64 b, .slice a k cap] 31 := Blk.new' rfl
  have hB0 := below_new (Below.refl w.heap.size w) (.cells #[.int .i64 3, .int .i64 u, .int .i64 b, .slice a k cap] 31)
  have hrbl := h.s.ltr
  have hmbl := h.q.lt
  have hsbl := h.s.c.lt
  have hn0 := h.s.n0
  have HBX := Lib.hid bx
  clear h hx hk h1 hnil hap bx
  have hfo := fun W (h : Sch W sb rb n m S) a' cap' hI => forder_any W h a' k cap' xs hI HK.out
  have hro := fun W (h : Mro W mb n S) hI => reforder_any W mb mc h a k cap xs hI HK.out H1.out hn0
  have hll := ordL_length xs S n
  have hn32 := HS.out.q.n1
  unfold OrdA at hro hfo
  generalize ordL xs S n = l at *
  generalize ordE xs n = E at *
  have hlm := Lib.hid (show (l.map fun (x : Nat) => (x : Int)).length ≤ 100000 ∧ l.length = (l.map fun (x : Nat) => (x : Int)).length by rw [List.length_map]; exact ⟨by omega, rfl⟩)
  have e1 : (E == E) = true := by simp
  replace hro := Lib.hid hro
  replace hfo := Lib.hid hfo
  go_enter Try.func19, Try.ntmps19
  go_wp2_with (first
    | (at_builtin; (refine wpList_append_zs rfl _ _ rfl rfl a xs cap k HK.out rfl HNIL.out (HX.out.below hB0) (by have := H1.out; have := HK.out; omega) ?_); intro a' cap' w1 hna hI1 hB1'; have hB1 := bnext hB0 hB1'; have HI1 := Lib.hid hI1; have bx1 := HBX.out.below hB1' HBX.out.lt; have d0 := bx1.cell 0; have d1 := bx1.cell 1; have d2 := bx1.cell 2; have d3 := bx1.cell 3; simp only [List.getElem?_toArray, List.getElem?_cons_zero, List.getElem?_cons_succ] at d0 d1 d2 d3; have HNA := Lib.hid hna; clear hna hI1 hB0; have hwl : w.heap.size < w1.heap.size := bx1.lt; have HBX1 := Lib.hid bx1; clear bx1)
    | (go_at_call 23; (with_reducible refine (hfo.out _ (HS.out.s.below hB1) a' cap' HI1.out).mono ?_); rintro e w2 ⟨⟨b1, c1, rfl, hb1, _⟩, hb2⟩; have hB2 := bnext hB1 hb2; have d5 := (hb2.cell (p := ⟨w.heap.size, 3, none⟩) hwl).trans d3; have hwl2 := Nat.lt_of_lt_of_le hwl hb2.size; have HI2 := Lib.hid (HI1.out.below hb2); have HB1 := Lib.hid hb1; clear hb1)
    | (go_at_call 43; (with_reducible refine (hro.out _ (HS.out.q.below hB2) (HX.out.below hB2)).mono ?_); rintro e w3 ⟨⟨bo, co, rfl, hbo, _⟩, hb3⟩; have hB3 := bnext hB2 hb3; have d6 := (hb3.cell (p := ⟨w.heap.size, 3, none⟩) hwl2).trans d5; have hwl3 := Nat.lt_of_lt_of_le hwl2 hb3.size; have HI3 := Lib.hid (HI2.out.below hb3); have HB2 := Lib.hid (HB1.out.below hb3); have HBO := Lib.hid hbo; clear hbo)
    | (go_at_call 39; first
      | ((with_reducible refine (same_any b1 bo (l.map fun (x : Nat) => (x : Int)) (l.map fun (x : Nat) => (x : Int)) c1 co _ HB2.out HBO.out hlm.out.1 l.length l.length hlm.out.2 hlm.out.2).mono ?_); rintro e w4 ⟨rfl, hb4⟩; rw [decide_eq_true rfl]; have hB4 := bnext hB3 hb4; have d7 := (hb4.cell (p := ⟨w.heap.size, 3, none⟩) hwl3).trans d6; have HI4 := Lib.hid (HI3.out.below hb4))
      | ((with_reducible refine (same_any a' a xs xs cap' cap _ HI4.out (HX.out.below hB4) (by have := H1.out; have := HK.out; omega) k k HK.out HK.out).mono ?_); rintro e w9 ⟨rfl, hB9⟩; rw [decide_eq_true rfl])))
  go_ret
  have hB9 := bnext hB4 hB9
  have n1 := HS.out.ne1
  have n2 := HS.out.ne2
  exact ⟨rfl, HS.out.below hB9, KeepsP.below hB9 _⟩
set_option maxRecDepth 100000 in
set_option maxHeartbeats 2000000 in
theorem do_service {sb rb n m mb : Nat} {S : Nat → Nat} (w : World) (h : Duo w sb rb n m mb S) (mc : Nat) (u b : Int) (a : Option Addr) (k cap : Nat) (xs : List Int) (hx : Ints w a xs) (hk : k = xs.length) (h1 : k ≤ 100000) (hnil : a = none → cap = 0) (hap : 0 < xs.length → ∀ g o, a = some ⟨g, o, none⟩ → g ≠ rb ∧ g ≠ mb) :
    Calls Try.prog 19 #[.pointer (some ⟨sb, 0, none⟩), .slice (some ⟨mb, 0, none⟩) n mc, .agg #[.int .i64 4, .int .i64 u, .int .i64 b, .slice a k cap]] w fun e w' => e = .returned (.bool true) ∧ Duo w' sb rb n m mb (S) ∧ KeepsP (fun i => i ≠ rb ∧ i ≠ mb) w w' := by
  have HS := Lib.hid h
  have HX := Lib.hid hx
  have HK := Lib.hid hk
  have H1 := Lib.hid h1
  have HNIL := Lib.hid hnil
  have HAP := Lib.hid hap
  have bx : Blk (w.alloc (.cells #[.int .i64 4, .int .i64 u, .int .i64 b, .slice a k cap] 31)) w.heap.size #[.int .i64 4, .int .i64 u, .int .i64 b, .slice a k cap] 31 := Blk.new' rfl
  have hB0 := below_new (Below.refl w.heap.size w) (.cells #[.int .i64 4, .int .i64 u, .int .i64 b, .slice a k cap] 31)
  have hrbl := h.s.ltr
  have hmbl := h.q.lt
  have hsbl := h.s.c.lt
  have hn0 := h.s.n0
  have HBX := Lib.hid bx
  clear h hx hk h1 hnil hap bx
  have hsv := fun W (h : Sch W sb rb n m S) => service_all W h u
  unfold servV servE at hsv
  by_cases hu : 0 ≤ u ∧ u < n
  · rw [if_pos hu, if_pos hu] at hsv
    obtain ⟨v, rfl⟩ : ∃ v : Nat, u = v := ⟨u.toNat, (Int.toNat_of_nonneg hu.1).symm⟩
    rw [Int.toNat_natCast] at hsv
    have hv : v < n := by omega
    have m0 := HS.out.q.cell v hv
    have u1 : ¬ ((v : Int) < 0) := by omega
    have u2 : ¬ ((n : Int) ≤ v) := by omega
    generalize S v = x at *
    have ex : ((x : Int) == x) = true := by simp
    replace hsv := Lib.hid hsv
    clear hu
    go_enter Try.func19, Try.ntmps19
    go_wp2_with (first
      | (at_builtin; (refine wpList_append_zs rfl _ _ rfl rfl a xs cap k HK.out rfl HNIL.out (HX.out.below hB0) (by have := H1.out; have := HK.out; omega) ?_); intro a' cap' w1 hna hI1 hB1'; have hB1 := bnext hB0 hB1'; have HI1 := Lib.hid hI1; have bx1 := HBX.out.below hB1' HBX.out.lt; have d0 := bx1.cell 0; have d1 := bx1.cell 1; have d2 := bx1.cell 2; have d3 := bx1.cell 3; simp only [List.getElem?_toArray, List.getElem?_cons_zero, List.getElem?_cons_succ] at d0 d1 d2 d3; have HNA := Lib.hid hna; clear hna hI1 hB0; have hwl : w.heap.size < w1.heap.size := bx1.lt; have HBX1 := Lib.hid bx1; clear bx1)
      | (go_at_call 25; (with_reducible refine (hsv.out _ (HS.out.s.below hB1)).mono ?_); rintro e w2 ⟨rfl, hw2⟩; rw [hw2]; clear hw2; have m1 := (hB1.cell (p := ⟨mb, v, none⟩) hmbl).trans m0)
      | (go_at_call 39; (with_reducible refine (same_any a' a xs xs cap' cap _ HI1.out (HX.out.below hB1) (by have := H1.out; have := HK.out; omega) k k HK.out HK.out).mono ?_); rintro e w9 ⟨rfl, hB9⟩; rw [decide_eq_true rfl]))
    go_ret
    have hB9 := bnext hB1 hB9
    have n1 := HS.out.ne1
    have n2 := HS.out.ne2
    exact ⟨rfl, HS.out.below hB9, KeepsP.below hB9 _⟩
  · rw [if_neg hu, if_neg hu] at hsv
    replace hsv := Lib.hid hsv
    by_cases g1 : u < 0
    · clear hu
      go_enter Try.func19, Try.ntmps19
      go_wp2_with (first
        | (at_builtin; (refine wpList_append_zs rfl _ _ rfl rfl a xs cap k HK.out rfl HNIL.out (HX.out.below hB0) (by have := H1.out; have := HK.out; omega) ?_); intro a' cap' w1 hna hI1 hB1'; have hB1 := bnext hB0 hB1'; have HI1 := Lib.hid hI1; have bx1 := HBX.out.below hB1' HBX.out.lt; have d0 := bx1.cell 0; have d1 := bx1.cell 1; have d2 := bx1.cell 2; have d3 := bx1.cell 3; simp only [List.getElem?_toArray, List.getElem?_cons_zero, List.getElem?_cons_succ] at d0 d1 d2 d3; have HNA := Lib.hid hna; clear hna hI1 hB0; have hwl : w.heap.size < w1.heap.size := bx1.lt; have HBX1 := Lib.hid bx1; clear bx1)
        | (go_at_call 25; (with_reducible refine (hsv.out _ (HS.out.s.below hB1)).mono ?_); rintro e w2 ⟨rfl, hw2⟩; rw [hw2]; clear hw2)
        | (go_at_call 39; (with_reducible refine (same_any a' a xs xs cap' cap _ HI1.out (HX.out.below hB1) (by have := H1.out; have := HK.out; omega) k k HK.out HK.out).mono ?_); rintro e w9 ⟨rfl, hB9⟩; rw [decide_eq_true rfl]))
      go_ret
      have hB9 := bnext hB1 hB9
      have n1 := HS.out.ne1
      have n2 := HS.out.ne2
      exact ⟨rfl, HS.out.below hB9, KeepsP.below hB9 _⟩
    · have g2 : (n : Int) ≤ u := by omega
      clear hu
      go_enter Try.func19, Try.ntmps19
      go_wp2_with (first
        | (at_builtin; (refine wpList_append_zs rfl _ _ rfl rfl a xs cap k HK.out rfl HNIL.out (HX.out.below hB0) (by have := H1.out; have := HK.out; omega) ?_); intro a' cap' w1 hna hI1 hB1'; have hB1 := bnext hB0 hB1'; have HI1 := Lib.hid hI1; have bx1 := HBX.out.below hB1' HBX.out.lt; have d0 := bx1.cell 0; have d1 := bx1.cell 1; have d2 := bx1.cell 2; have d3 := bx1.cell 3; simp only [List.getElem?_toArray, List.getElem?_cons_zero, List.getElem?_cons_succ] at d0 d1 d2 d3; have HNA := Lib.hid hna; clear hna hI1 hB0; have hwl : w.heap.size < w1.heap.size := bx1.lt; have HBX1 := Lib.hid bx1; clear bx1)
        | (go_at_call 25; (with_reducible refine (hsv.out _ (HS.out.s.below hB1)).mono ?_); rintro e w2 ⟨rfl, hw2⟩; rw [hw2]; clear hw2)
        | (go_at_call 39; (with_reducible refine (same_any a' a xs xs cap' cap _ HI1.out (HX.out.below hB1) (by have := H1.out; have := HK.out; omega) k k HK.out HK.out).mono ?_); rintro e w9 ⟨rfl, hB9⟩; rw [decide_eq_true rfl]))
      go_ret
      have hB9 := bnext hB1 hB9
      have n1 := HS.out.ne1
      have n2 := HS.out.ne2
      exact ⟨rfl, HS.out.below hB9, KeepsP.below hB9 _⟩
set_option maxRecDepth 100000 in
set_option maxHeartbeats 2000000 in
theorem do_other {sb rb n m mb : Nat} {S : Nat → Nat} (w : World) (h : Duo w sb rb n m mb S) (mc : Nat) (kd u b : Int) (a : Option Addr) (k cap : Nat) (xs : List Int) (hx : Ints w a xs) (hk : k = xs.length) (h1 : k ≤ 100000) (hnil : a = none → cap = 0) (hap : 0 < xs.length → ∀ g o, a = some ⟨g, o, none⟩ → g ≠ rb ∧ g ≠ mb) (hkd : kd ≠ 0 ∧ kd ≠ 1 ∧ kd ≠ 2 ∧ kd ≠ 3 ∧ kd ≠ 4) :
    Calls Try.prog 19 #[.pointer (some ⟨sb, 0, none⟩), .slice (some ⟨mb, 0, none⟩) n mc, .agg #[.int .i64 kd, .int .i64 u, .int .i64 b, .slice a k cap]] w fun e w' => e = .returned (.bool true) ∧ Duo w' sb rb n m mb (S) ∧ KeepsP (fun i => i ≠ rb ∧ i ≠ mb) w w' := by
  have HS := Lib.hid h
  have HX := Lib.hid hx
  have HK := Lib.hid hk
  have H1 := Lib.hid h1
  have HNIL := Lib.hid hnil
  have HAP := Lib.hid hap
  have bx : Blk (w.alloc (.cells #[.int .i64 kd, .int .i64 u, .int .i64 b, .slice a k cap] 31)) w.heap.size #[.int .i64 kd, .int .i64 u, .int .i64 b, .slice a k cap] 31 := Blk.new' rfl
  have hB0 := below_new (Below.refl w.heap.size w) (.cells #[.int .i64 kd, .int .i64 u, .int .i64 b, .slice a k cap] 31)
  have hrbl := h.s.ltr
  have hmbl := h.q.lt
  have hsbl := h.s.c.lt
  have hn0 := h.s.n0
  have HBX := Lib.hid bx
  clear h hx hk h1 hnil hap bx
  have q0 : (kd == 0) = false := by simp [hkd.1]
  have q1 : (kd == 1) = false := by simp [hkd.2.1]
  have q2 : (kd == 2) = false := by simp [hkd.2.2.1]
  have q3 : (kd == 3) = false := by simp [hkd.2.2.2.1]
  have q4 : (kd == 4) = false := by simp [hkd.2.2.2.2]
  clear hkd
  go_enter Try.func19, Try.ntmps19
  go_wp2_with (first
    | (at_builtin; (refine wpList_append_zs rfl _ _ rfl rfl a xs cap k HK.out rfl HNIL.out (HX.out.below hB0) (by have := H1.out; have := HK.out; omega) ?_); intro a' cap' w1 hna hI1 hB1'; have hB1 := bnext hB0 hB1'; have HI1 := Lib.hid hI1; have bx1 := HBX.out.below hB1' HBX.out.lt; have d0 := bx1.cell 0; have d1 := bx1.cell 1; have d2 := bx1.cell 2; have d3 := bx1.cell 3; simp only [List.getElem?_toArray, List.getElem?_cons_zero, List.getElem?_cons_succ] at d0 d1 d2 d3; have HNA := Lib.hid hna; clear hna hI1 hB0; have hwl : w.heap.size < w1.heap.size := bx1.lt; have HBX1 := Lib.hid bx1; clear bx1)
    | (go_at_call 39; (with_reducible refine (same_any a' a xs xs cap' cap _ HI1.out (HX.out.below hB1) (by have := H1.out; have := HK.out; omega) k k HK.out HK.out).mono ?_); rintro e w9 ⟨rfl, hB9⟩; rw [decide_eq_true rfl]))
  go_ret
  have hB9 := bnext hB1 hB9
  have n1 := HS.out.ne1
  have n2 := HS.out.ne2
  exact ⟨rfl, HS.out.below hB9, KeepsP.below hB9 _⟩
theorem do_any {sb rb n m mb : Nat} {S : Nat → Nat} (w : World) (h : Duo w sb rb n m mb S) (mc : Nat) (kd u b : Int) (a : Option Addr) (k cap : Nat) (xs : List Int) (hx : Ints w a xs) (hk : k = xs.length) (h1 : k ≤ 100000) (hnil : a = none → cap = 0) (hap : 0 < xs.length → ∀ g o, a = some ⟨g, o, none⟩ → g ≠ rb ∧ g ≠ mb) :
    Calls Try.prog 19 #[.pointer (some ⟨sb, 0, none⟩), .slice (some ⟨mb, 0, none⟩) n mc, .agg #[.int .i64 kd, .int .i64 u, .int .i64 b, .slice a k cap]] w fun e w' => e = .returned (.bool true) ∧ Duo w' sb rb n m mb (stepS kd u b xs S n) ∧ KeepsP (fun i => i ≠ rb ∧ i ≠ mb) w w' := by
  unfold stepS
  by_cases k0 : kd = 0
  · rw [if_pos k0]; subst k0; exact do_turn w h mc u b a k cap xs hx hk h1 hnil hap
  · rw [if_neg k0]
    by_cases k1 : kd = 1
    · rw [if_pos k1]; subst k1; exact do_serve w h mc u b a k cap xs hx hk h1 hnil hap
    · rw [if_neg k1]
      by_cases k2 : kd = 2
      · subst k2; exact do_pick w h mc u b a k cap xs hx hk h1 hnil hap
      · by_cases k3 : kd = 3
        · subst k3; exact do_order w h mc u b a k cap xs hx hk h1 hnil hap
        · by_cases k4 : kd = 4
          · subst k4; exact do_service w h mc u b a k cap xs hx hk h1 hnil hap
          · exact do_other w h mc kd u b a k cap xs hx hk h1 hnil hap ⟨k0, k1, k2, k3, k4⟩
end Go.Proofs.Ytdnpbemkobhlcaa

/-! The law's helpers, walks: the chapter's examples. -/
namespace Go.Proofs.Ytdnpbemkobhlcaa
open Go.RowKit
attribute [-go_sem] Instr.build

theorem wpList_append_ints {w : World} {ops : Array Oper} {rest : List Oper} {o : Oper} {ac : Act} {Q : Exit → Act → World → Prop} (hgd : o.guard = none) (s x : Operand)
    (ho : o.op = .call { callee := .builtin .append, args := #[s, x], argTypes := #[28, 28] })
    (base : Nat) (v : Value) (l : List Nat) (hs : ac.eval s = v) (hown : OwnI w base v l)
    (ad : Option Addr) (m : List Nat) (n c : Nat) (hn : n = m.length) (hx : ac.eval x = .slice ad n c) (h0 : ad = none → c = 0 ∧ m = []) (hc : ∀ p, ad = some p → ∀ j, j < m.length → w.cell? (p.add j) = some (.int .i64 (m.getD j 0 : Nat)))
    (hlen : l.length + m.length ≤ 100000) (hbase : base ≤ w.heap.size)
    (h : ∀ v' w', OwnI w' base v' (l ++ m) → w.grownBy w' v.ownBlock → wpList Try.prog ops Q rest (ac.put o.dst v') w') : wpList Try.prog ops Q (o :: rest) ac w :=
  wpList_plain hgd fun _ hK => wp_append_ints o.dst rfl w s x ho base v l hs hown ad m n c hn hx h0 hc hlen hbase fun v' w' h1 h2 => hK _ _ (h v' w' h1 h2)
/-- The services of the chapter's example. -/
def Sk : Nat → Nat → Nat
  | 0 => fun _ => 1
  | k + 1 => turnS [10, 3] (Sk k) 2
theorem sk_pick : ∀ k, k < 4 → pickU [10, 3] (Sk k) 2 = k % 2 ∧ pickE [10, 3] (Sk k) 2 = 0
  | 0, _ => ⟨by kernel_rfl, by kernel_rfl⟩
  | 1, _ => ⟨by kernel_rfl, by kernel_rfl⟩
  | 2, _ => ⟨by kernel_rfl, by kernel_rfl⟩
  | 3, _ => ⟨by kernel_rfl, by kernel_rfl⟩
  | k + 4, h => absurd h (by omega)
theorem sk_end : Sk 4 0 = 21 ∧ Sk 4 1 = 7 := ⟨by kernel_rfl, by kernel_rfl⟩
def alt (k : Nat) : List Nat := (List.range k).map (· % 2)
theorem alt_next (k : Nat) : alt k ++ [k % 2] = alt (k + 1) := by simp [alt, List.range_succ]
theorem alt_length (k : Nat) : (alt k).length = k := by simp [alt]
theorem blk_ints4 {w : World} {b : Nat} (h : Blk w b #[.int .i64 0, .int .i64 1, .int .i64 0, .int .i64 1] 3) : Ints w (some ⟨b, 0, none⟩) [0, 1, 0, 1] := fun _ =>
  ⟨b, 0, rfl, h.lt, fun i hi => by
    rw [Nat.zero_add, h.cell]
    match i, hi with
    | 0, _ => rfl
    | 1, _ => rfl
    | 2, _ => rfl
    | 3, _ => rfl
    | i + 4, hi => simp at hi; omega⟩
theorem blk_ints2 {w : World} {b : Nat} (h : Blk w b #[.int .i64 10, .int .i64 3] 3) : Ints w (some ⟨b, 0, none⟩) [10, 3] := fun _ =>
  ⟨b, 0, rfl, h.lt, fun i hi => by
    rw [Nat.zero_add, h.cell]
    match i, hi with
    | 0, _ => rfl
    | 1, _ => rfl
    | i + 2, hi => simp at hi; omega⟩
set_option maxHeartbeats 2000000 in
set_option maxRecDepth 100000 in
theorem known_all (w : World) : Calls Try.prog 16 #[] w fun e w' => e = .returned (.bool true) ∧ Below w.heap.size w w' := by
  have hnew : ∀ w, Calls Try.prog 17 #[.int .i64 2] w fun e w' => ∃ sb rb, e = .returned (.tuple #[.pointer (some ⟨sb, 0, none⟩), .int .i64 0]) ∧ Sch w' sb rb 2 2 (fun _ => 1) ∧ w.heap.size ≤ sb ∧ w.heap.size ≤ rb ∧ Below w.heap.size w w' := fun w => new_any 2 (by decide) (by decide) w
  have hturn : ∀ (w : World) (sb rb g k : Nat), k < 4 → Sch w sb rb 2 2 (Sk k) → Blk w g #[.int .i64 10, .int .i64 3] 3 → Calls Try.prog 24 #[.pointer (some ⟨sb, 0, none⟩), .slice (some ⟨g, 0, none⟩) 2 2] w fun e w' => e = .returned (.tuple #[.int .i64 (k % 2 : Nat), .int .i64 0]) ∧ Sch w' sb rb 2 2 (Sk (k + 1)) ∧ But rb w.heap.size w w' := fun w sb rb g k hk hs hg => by
    have := turn_any w hs (some ⟨g, 0, none⟩) 2 2 [10, 3] (blk_ints2 hg) rfl
    rw [(sk_pick k hk).1, (sk_pick k hk).2] at this
    exact this
  have hsv0 : ∀ (w : World) (sb rb : Nat), Sch w sb rb 2 2 (Sk 4) → Calls Try.prog 25 #[.pointer (some ⟨sb, 0, none⟩), .int .i64 0] w fun e w' => e = .returned (.tuple #[.int .i64 21, .int .i64 0]) ∧ w' = w := fun w sb rb hs => by
    have := service_any w hs 0 (by decide)
    rw [sk_end.1] at this
    exact this
  have hsv1 : ∀ (w : World) (sb rb : Nat), Sch w sb rb 2 2 (Sk 4) → Calls Try.prog 25 #[.pointer (some ⟨sb, 0, none⟩), .int .i64 1] w fun e w' => e = .returned (.tuple #[.int .i64 7, .int .i64 0]) ∧ w' = w := fun w sb rb hs => by
    have := service_any w hs 1 (by decide)
    rw [sk_end.2] at this
    exact this
  go_enter Try.func16, Try.ntmps16
  go_wp2_with (go_at_call 17; (with_reducible refine (hnew _).mono ?_); rintro e w1 ⟨sb, rb, rfl, hs1, hsb, hrb, hB1⟩)
  have hsl := hs1.c.lt
  have hrl := hs1.ltr
  go_loopw [3, 4] (fun v t wr => ∃ k : Nat, k ≤ 4 ∧ t = .int .i64 k ∧ OwnI wr w1.heap.size v (alt k) ∧ Sch wr sb rb 2 2 (Sk k) ∧ w1.heap.size ≤ wr.heap.size ∧ Below w.heap.size w wr) (fun _ t _ => 4 - (intOf t).toNat)
  case atStart => exact ⟨0, by omega, rfl, OwnI.nil _ _, hs1, Nat.le_refl _, hB1⟩
  case round =>
    clear hs1
    obtain ⟨k, hk, rfl, hO, hS, hsz, hB⟩ := hrel
    by_cases hlt : k < 4
    · have hSd := Lib.hid hS
      have hOd := Lib.hid hO
      have hnx := Lib.hid (alt_next k)
      have hal := Lib.hid (alt_length k)
      have ht := fun W (h : Sch W sb rb 2 2 (Sk k)) g (hg : Blk W g #[.int .i64 10, .int .i64 3] 3) => hturn W sb rb g k hlt h hg
      have hltI : (k : Int) < 4 := by omega
      clear hS hO
      generalize k % 2 = u at *
      go_wp2_with (first
        | (go_at_call 24; (with_reducible refine (ht _ (hSd.out.below (below_new (Below.refl _ _) _)) _ (Blk.new _ _ _)).mono ?_); rintro e w2 ⟨rfl, hs2, hb2⟩; have hB2 : Below w.heap.size w w2 := below_but (below_new hB (.cells #[.int .i64 10, .int .i64 3] 3)) hb2 hrb (by have := hB.size; simp; omega); have hO2 := Lib.hid (own_keepsP (hOd.out.below (below_new (Below.refl _ _) (.cells #[.int .i64 10, .int .i64 3] 3))) hb2.keepsP (fun g hg => by have := (hOd.out.lt g hg).1; show g ≠ rb; omega)); have hz2 : w1.heap.size ≤ w2.heap.size := Nat.le_trans hsz (Nat.le_trans (by simp) hb2.size); have HS2 := Lib.hid hs2; clear hs2)
        | (at_builtin; refine wpList_append_ints rfl _ _ rfl w1.heap.size _ (alt k) rfl (OwnI.below hO2.out (below_new (Below.refl _ _) _)) (some ⟨w2.heap.size, 0, none⟩) [u] 1 1 rfl rfl (fun e => nomatch e) (fun p e j hj => by cases e; obtain rfl : j = 0 := (by simpa using hj); rw [Go.WideShapes.add_plain, Nat.zero_add, (Blk.new _ _ _).cell]; rfl) (by rw [hal.out]; simp; omega) (by simp; omega) ?_; intro v' w3 hO3 hg3; rw [hnx.out] at hO3; have HO3 := Lib.hid hO3; clear hO3))
      have hown := hO2.out
      have kk : KeepsP (fun i => u3.ownBlock ≠ some i) (w2.alloc (.cells #[.int .i64 u] 3)) w3 := ⟨hg3.os, hg3.tape, hg3.output, hg3.size, fun b hb hk => hg3.block b hb (fun e => hk e.symm)⟩
      have hn : ∀ i, i < w1.heap.size → u3.ownBlock ≠ some i := fun i hi e => by have := (hown.lt i e).1; omega
      have hs3 : Sch w3 sb rb 2 2 (Sk (k + 1)) := (HS2.out.below (below_new (Below.refl _ _) _)).keepsP kk (hn _ hsl) (hn _ hrl)
      have hB3 : Below w.heap.size w w3 := (below_new hB2 (.cells #[.int .i64 u] 3)).trans ⟨hg3.os, hg3.tape, hg3.output, hg3.size, fun i hi => hg3.block i (by have := hB2.size; simp; omega) (fun e => hn i (by have := hB1.size; omega) e.symm)⟩
      exact ⟨⟨k + 1, by omega, by go_num, HO3.out, hs3, by have := hg3.size; simp at this; omega, hB3⟩, by simp [intOf]; omega⟩
    · obtain rfl : k = 4 := by omega
      obtain ⟨a, cap, rfl, hI, _, _, _, _⟩ := hO.ints
      have hI4 : Ints wr a [0, 1, 0, 1] := hI
      have HS := Lib.hid hS
      have HI := Lib.hid hI4
      have hal : (alt 4).length = 4 := rfl
      rw [hal]
      clear hO hI hI4 hS hal
      have hsame : ∀ (W : World) (b : Nat), Ints W a [0, 1, 0, 1] → Blk W b #[.int .i64 0, .int .i64 1, .int .i64 0, .int .i64 1] 3 → Calls Try.prog 39 #[.slice a 4 cap, .slice (some ⟨b, 0, none⟩) 4 4] W fun e w' => e = .returned (.bool true) ∧ Below W.heap.size W w' := fun W b h1 h2 => by
        have h := same_any a (some ⟨b, 0, none⟩) [0, 1, 0, 1] [0, 1, 0, 1] cap 4 W h1 (blk_ints4 h2) (by decide) 4 4 rfl rfl
        rwa [decide_eq_true rfl] at h
      go_wp2_with (first
        | (go_at_call 25; first
          | ((with_reducible refine (hsv0 _ _ _ HS.out).mono ?_); rintro e w2 ⟨rfl, hw⟩; rw [hw]; clear hw)
          | ((with_reducible refine (hsv1 _ _ _ HS.out).mono ?_); rintro e w2 ⟨rfl, hw⟩; rw [hw]; clear hw))
        | (go_at_call 39; (with_reducible refine (hsame _ _ (HI.out.below (below_new (Below.refl _ _) _)) (Blk.new _ _ _)).mono ?_); rintro e w9 ⟨rfl, hB9⟩))
      go_ret
      exact ⟨rfl, bnext (below_new hB _) hB9⟩
end Go.Proofs.Ytdnpbemkobhlcaa
