/-
  Bit strings, walks: validity, comparing, weight.
-/
import Derived.Test.YtflmbghbgmkdeaaChecked
import Derived.Test.YtflmbghbgmkdeaaBit1
import Derived.Test.YtflmbghbgmkdeaaOne
import Derived.Test.YtflmbghbgmkdeaaHeld
import Derived.StillTailTactics
import Derived.BigQuiet
import Derived.BigRegion
import Derived.Deep.RegionHeld3
set_option linter.unusedSimpArgs false
set_option linter.unusedVariables false
namespace Go.Proofs.Ytflmbghbgmkdeaa
open Go.RowKit

theorem idx_any (l : List UInt8) (a : Option Addr) (cap : Nat) (w : World) (hb : Byt w a l) (hlen : l.length ≤ 100000) :
    Calls Try.prog 45 #[.slice a l.length cap, .func (.func 42) #[] #[]] w fun e w' => (∃ r : Int, e = .returned (.int .i64 r) ∧ decide (0 ≤ r) = !okb l) ∧ w' = w := by
  go_enter Try.func45, Try.ntmps45
  go_wp2
  go_loopw [8] (fun t wr => ∃ k : Nat, k ≤ l.length ∧ t = .int .i64 k ∧ (∀ i, i < k → (gd l i).toNat < 2) ∧ wr = w) (fun t _ => l.length - (intOf t).toNat)
  case atStart => exact ⟨0, by omega, rfl, fun i hi => absurd hi (by omega), rfl⟩
  case round =>
    obtain ⟨k, hk, rfl, hp, rfl⟩ := hrel
    by_cases hlt : k < l.length
    · obtain ⟨b, o, rfl, hbl, hc⟩ := hb (by omega)
      have c0 := hc k hlt
      have h9 := lt256 (gd l k)
      obtain ⟨x, hx⟩ : ∃ x, x = (gd l k).toNat := ⟨_, rfl⟩
      rw [← hx] at c0 h9
      by_cases hbit : x < 2
      · have hn : ¬ (1 : Int) < (x : Int) := by omega
        have HX := Lib.hid hx
        clear hx hc
        go_wp2
        refine ⟨⟨k + 1, by omega, by go_num, fun i hi => ?_, trivial⟩, by simp [intOf]; omega⟩
        rcases Nat.lt_succ_iff_lt_or_eq.1 hi with h | rfl
        · exact hp i h
        · rw [← HX.out]; exact hbit
      · have hn : (1 : Int) < (x : Int) := by omega
        have HX := Lib.hid hx
        clear hx hc
        go_wp2
        go_ret
        refine ⟨⟨k, rfl, ?_⟩, rfl⟩
        rw [okb_not l k (by rw [← HX.out]; exact hbit)]
        simp
    · obtain rfl : k = l.length := by omega
      go_wp2
      go_ret
      refine ⟨⟨-1, rfl, ?_⟩, rfl⟩
      rw [okb_of l hp]
      simp
theorem contains_any (l : List UInt8) (a : Option Addr) (cap : Nat) (w : World) (hb : Byt w a l) (hlen : l.length ≤ 100000) :
    Calls Try.prog 41 #[.slice a l.length cap, .func (.func 42) #[] #[]] w fun e w' => e = .returned (.bool (!okb l)) ∧ w' = w := by
  go_enter Try.func41, Try.ntmps41
  go_wp2_with (go_at_call 45; (with_reducible refine (idx_any l a cap _ hb hlen).mono ?_); rintro e w' ⟨⟨r, rfl, hr⟩, rfl⟩)
  go_ret
  rw [← hr]
  exact ⟨rfl, rfl⟩
theorem same_any (l m : List UInt8) (v u : Value) (w : World) (hv : Bsl w v l) (hu : Bsl w u m) :
    Calls Try.prog 15 #[v, u] w fun e w' => e = .returned (.bool (decide (l = m))) ∧ w' = w := by
  obtain ⟨a, cap, rfl, h1, h2, h3, h4⟩ := hv
  obtain ⟨b, cap', rfl, k1, k2, k3, k4⟩ := hu
  have e1 := byt_string w 23 9 5 a cap l Try.underlying23 Try.underlying5 Try.underlying9 h3 h4
  have e2 := byt_string w 23 9 5 b cap' m Try.underlying23 Try.underlying5 Try.underlying9 k3 k4
  obtain ⟨r, hr⟩ : ∃ r, r = decide (l = m) := ⟨_, rfl⟩
  have h5 : ((⟨l.toArray⟩ : ByteArray).toList == (⟨m.toArray⟩ : ByteArray).toList) = r := by rw [hr, ByteArray.toList_eq, ByteArray.toList_eq]; rw [Bool.eq_iff_iff]; simp
  rw [← hr]
  obtain ⟨x, hx⟩ : ∃ x : ByteArray, x = ⟨l.toArray⟩ := ⟨_, rfl⟩
  obtain ⟨y, hy⟩ : ∃ x : ByteArray, x = ⟨m.toArray⟩ := ⟨_, rfl⟩
  rw [← hx] at e1 h5
  rw [← hy] at e2 h5
  clear hx hy hr
  go_enter Try.func15, Try.ntmps15
  go_wp2
  go_ret
  exact ⟨rfl, rfl⟩
theorem num_any (n : Int) (w : World) : Calls Try.prog 16 #[.int .i64 n] w fun e w' => e = .returned (.int .i64 n) ∧ w' = w := by
  go_enter Try.func16, Try.ntmps16
  go_wp2
  go_ret
  exact ⟨rfl, rfl⟩

theorem valid1 (l : List UInt8) (v : Value) (g c : Nat) (w : World) (hg : Blk w g #[v] 23) (hv : Bsl w v l) (hlen : l.length ≤ 100000) :
    Calls Try.prog 34 #[.slice (some ⟨g, 0, none⟩) 1 c] w fun e w' => e = .returned (.bool (okb l)) ∧ w' = w := by
  obtain ⟨a, cap, rfl, h1, h2, h3, h4⟩ := hv
  have c0 : w.cell? ⟨g, 0, none⟩ = some (.slice a l.length cap) := hg.cell 0
  have H3 := Lib.hid h3
  have H2 := Lib.hid h2
  clear h2 h3
  go_enter Try.func34, Try.ntmps34
  go_wp2
  refine wp_loop_rounds 2 ?_
  rw [rounds_succ]
  cases hr : okb l with
  | true =>
    have HR := Lib.hid hr
    clear hr
    go_wp2_with (go_at_call 41; (with_reducible refine (contains_any l a cap _ h4 hlen).mono ?_); rintro e w' ⟨rfl, hw⟩; subst w'; rw [HR.out, Bool.not_true])
    rw [rounds_succ]
    go_wp2
    go_ret
    rw [HR.out]
    exact ⟨rfl, rfl⟩
  | false =>
    have HR := Lib.hid hr
    clear hr
    go_wp2_with (go_at_call 41; (with_reducible refine (contains_any l a cap _ h4 hlen).mono ?_); rintro e w' ⟨rfl, hw⟩; subst w'; rw [HR.out, Bool.not_false])
    go_ret
    rw [HR.out]
    exact ⟨rfl, rfl⟩

theorem weight_any (l : List UInt8) (v : Value) (w : World) (hv : Bsl w v l) (hlen : l.length ≤ 100000) :
    Calls Try.prog 21 #[v] w fun e w' => e = .returned (.int .i64 (wgt l)) ∧ w' = w := by
  obtain ⟨a, cap, rfl, h1, h2, h3, h4⟩ := hv
  have H2 := Lib.hid h2
  clear h2
  go_enter Try.func21, Try.ntmps21
  go_wp2
  go_loopw [2, 7] (fun c t wr => ∃ k : Nat, k ≤ l.length ∧ t = .int .i64 k ∧ c = .int .i64 (wgt (l.take k)) ∧ wr = w) (fun _ t _ => l.length - (intOf t).toNat)
  case atStart => exact ⟨0, by omega, rfl, rfl, rfl⟩
  case round =>
    obtain ⟨k, hk, rfl, rfl, rfl⟩ := hrel
    by_cases hlt : k < l.length
    · obtain ⟨b, o, rfl, hbl, hc⟩ := h4 (by omega)
      have c0 := hc k hlt
      have hw := wgt_take l k hlt
      have hwl := wgt_le (l.take k)
      rw [List.length_take] at hwl
      obtain ⟨D, hD⟩ : ∃ D, D = wgt (l.take k) := ⟨_, rfl⟩
      rw [← hD] at hw hwl ⊢
      have hD1 : D ≤ 100000 := by omega
      by_cases h1 : gd l k = 1
      · have e1 : ((gd l k).toNat : Int) = 1 := by rw [h1]; rfl
        rw [e1] at c0
        rw [if_pos h1] at hw
        have HW := Lib.hid hw
        clear hw h1 e1 hD hc
        go_wp2
        exact ⟨⟨k + 1, by omega, by go_num, by rw [HW.out]; rfl, trivial⟩, by simp [intOf]; omega⟩
      · have e1 : (((gd l k).toNat : Int) == 1) = false := by
          rw [beq_eq_false_iff_ne]
          intro h
          exact h1 (UInt8.toNat_inj.1 (by have : (gd l k).toNat = 1 := by omega
                                          rw [this]; rfl))
        rw [if_neg h1] at hw
        have HW := Lib.hid hw
        obtain ⟨x, hx⟩ : ∃ x : Int, x = ((gd l k).toNat : Int) := ⟨_, rfl⟩
        rw [← hx] at c0 e1
        clear hw h1 hD hc hx
        go_wp2
        exact ⟨⟨k + 1, by omega, by go_num, by rw [HW.out]; rfl, trivial⟩, by simp [intOf]; omega⟩
    · obtain rfl : k = l.length := by omega
      rw [List.take_length]
      go_wp2
      go_ret
      exact ⟨rfl, rfl⟩
end Go.Proofs.Ytflmbghbgmkdeaa
