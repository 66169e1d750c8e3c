/-
  The trellis, walks: Encode.
-/
import Derived.Test.YtkcccoialmineaaTreC
import Derived.Test.YtkcccoialmineaaHeld
import Derived.Deep.RegionHeld3
namespace Go.Proofs.Ytkcccoialmineaa
open Go.RowKit

theorem idx_any (l : List UInt8) (a : Option Addr) (cap : Nat) (w : World) (hb : Byt w a l) (hlen : l.length ≤ 100000) :
    Calls Try.prog 44 #[.slice a l.length cap, .func (.func 36) #[] #[]] w fun e w' => (∃ r : Int, e = .returned (.int .i64 r) ∧ decide (0 ≤ r) = !okb l) ∧ w' = w := by
  go_enter Try.func44, Try.ntmps44
  go_wp2
  go_loopw [8] (fun t wr => ∃ k : Nat, k ≤ l.length ∧ t = .int .i64 k ∧ (∀ i, i < k → (gd l i).toNat < 2) ∧ wr = w) (fun t _ => l.length - (intOf t).toNat)
  case atStart => exact ⟨0, by omega, rfl, fun i hi => absurd hi (by omega), rfl⟩
  case round =>
    obtain ⟨k, hk, rfl, hp, rfl⟩ := hrel
    by_cases hlt : k < l.length
    · obtain ⟨b, o, rfl, hbl, hc⟩ := hb (by omega)
      have c0 := hc k hlt
      have h9 := lt256 (gd l k)
      obtain ⟨x, hx⟩ : ∃ x, x = (gd l k).toNat := ⟨_, rfl⟩
      rw [← hx] at c0 h9
      by_cases hbit : x < 2
      · have hn : ¬ (1 : Int) < (x : Int) := by omega
        have HX := Lib.hid hx
        clear hx hc
        go_wp2
        refine ⟨⟨k + 1, by omega, by go_num, fun i hi => ?_, trivial⟩, by simp [intOf]; omega⟩
        rcases Nat.lt_succ_iff_lt_or_eq.1 hi with h | rfl
        · exact hp i h
        · rw [← HX.out]; exact hbit
      · have hn : (1 : Int) < (x : Int) := by omega
        have HX := Lib.hid hx
        clear hx hc
        go_wp2
        go_ret
        refine ⟨⟨k, rfl, ?_⟩, rfl⟩
        rw [okb_not l k hlt (by rw [← HX.out]; exact hbit)]
        simp
    · obtain rfl : k = l.length := by omega
      go_wp2
      go_ret
      refine ⟨⟨-1, rfl, ?_⟩, rfl⟩
      rw [okb_of l hp]
      simp

theorem contains_any (l : List UInt8) (a : Option Addr) (cap : Nat) (w : World) (hb : Byt w a l) (hlen : l.length ≤ 100000) :
    Calls Try.prog 35 #[.slice a l.length cap, .func (.func 36) #[] #[]] w fun e w' => e = .returned (.bool (!okb l)) ∧ w' = w := by
  go_enter Try.func35, Try.ntmps35
  go_wp2_with (go_at_call 44; (with_reducible refine (idx_any l a cap _ hb hlen).mono ?_); rintro e w' ⟨⟨r, rfl, hr⟩, rfl⟩)
  go_ret
  rw [← hr]
  exact ⟨rfl, rfl⟩

theorem encode_err (l : List UInt8) (h : okb l = false) (a : Option Addr) (cap : Nat) (w : World) (hb : Byt w a l) (hlen : l.length ≤ 100000) :
    Calls Try.prog 17 #[.slice a l.length cap] w fun e w' => e = .returned (.tuple #[.slice none 0 0, .int .i64 0, .int .i64 3]) ∧ w' = w := by
  go_enter Try.func17, Try.ntmps17
  go_wp2_with (go_at_call 35; (with_reducible refine (contains_any l a cap _ hb hlen).mono ?_); rintro e w' ⟨rfl, rfl⟩; rw [h])
  go_ret3
  exact ⟨rfl, rfl⟩

theorem enc_with {w : World} {b s : Nat} {v : Value} {x y z : Int} (hX : #[.int .i64 x, .int .i64 y, .int .i64 z] = rg s) (h : Blk w b (enc s v) 70) :
    Blk w b (enc s v) 70 ∧ w.cell? ⟨b, 0, none⟩ = some (.int .i64 x) ∧ w.cell? ⟨b, 1, none⟩ = some (.int .i64 y) ∧ w.cell? ⟨b, 2, none⟩ = some (.int .i64 z) ∧ w.cell? ⟨b, 3, none⟩ = some v := by
  simp only [rg, Array.mk.injEq, List.cons.injEq, Value.int.injEq, and_true, true_and] at hX
  obtain ⟨rfl, rfl, rfl⟩ := hX
  exact ⟨h, h.cell 0, h.cell 1, h.cell 2, h.cell 3⟩
theorem enc_xyz {w : World} {b s : Nat} {v : Value} (h : Blk w b (enc s v) 70) : ∃ x y z : Int, #[.int .i64 x, .int .i64 y, .int .i64 z] = rg s ∧
    Blk w b (enc s v) 70 ∧ w.cell? ⟨b, 0, none⟩ = some (.int .i64 x) ∧ w.cell? ⟨b, 1, none⟩ = some (.int .i64 y) ∧ w.cell? ⟨b, 2, none⟩ = some (.int .i64 z) ∧ w.cell? ⟨b, 3, none⟩ = some v :=
  ⟨_, _, _, rfl, h, h.cell 0, h.cell 1, h.cell 2, h.cell 3⟩
theorem state_xyz {s : Nat} {x y z : Int} (hX : #[.int .i64 x, .int .i64 y, .int .i64 z] = rg s) (hs : s < 8) (w : World) :
    Calls Try.prog 32 #[.agg #[.int .i64 x, .int .i64 y, .int .i64 z]] w fun e w' => e = .returned (.int .i64 s) ∧ Below w.heap.size w w' := by
  rw [hX]; exact state_any s hs w
theorem zero70 : (Try.prog.info? 70).map (fun i => (i.zero, i.size)) = some (some (.agg (enc 0 (.slice none 0 0))), 4) := by kernel_rfl

set_option maxHeartbeats 1000000 in
theorem encode_ok (l : List UInt8) (h : okb l = true) (a : Option Addr) (cap : Nat) (w : World) (hb : Byt w a l) (hlen : l.length ≤ 10000) :
    Calls Try.prog 17 #[.slice a l.length cap] w fun e w' => ∃ v, e = .returned (.tuple #[v, .int .i64 (stt 0 l), .int .i64 0]) ∧ Bsl w' v (par 0 l) ∧ Below w.heap.size w w' := by
  have z1 : ∀ w, (zeroValue 70).run Try.prog w = .ok (.agg (enc 0 (.slice none 0 0))) w := (zero_of_info zero70).1
  have b0 : Blk (w.alloc (.cells (enc 0 (.slice none 0 0)) 70)) w.heap.size (enc 0 (.slice none 0 0)) 70 := Blk.new' rfl
  have hB : Below w.heap.size w (w.alloc (.cells (enc 0 (.slice none 0 0)) 70)) := (Below.refl _ _).alloc (Nat.le_refl _) _
  go_enter Try.func17, Try.ntmps17
  go_wp2_with (go_at_call 35; (with_reducible refine (contains_any l a cap _ hb (by omega)).mono ?_); rintro e w' ⟨rfl, hw⟩; subst w'; rw [h])
  go_loopw [12] (fun t wr => ∃ (k : Nat) (v : Value), k ≤ l.length ∧ t = .int .i64 k ∧ Blk wr w.heap.size (enc (stt 0 (l.take k)) v) 70 ∧ wr.ownsRow (w.heap.size + 1) 5 1 v (par 0 (l.take k)).length ((par 0 (l.take k)).map B) ∧ Below w.heap.size w wr ∧ w.heap.size + 1 ≤ wr.heap.size) (fun t _ => l.length - (intOf t).toNat)
  case atStart => exact ⟨0, _, by omega, rfl, b0, World.ownsRow_nil _ _ _ _, hB, by simp⟩
  case round =>
    clear b0 hB
    obtain ⟨k, v, hk, rfl, hE, hown, hB, hsz⟩ := hrel
    have hst := stt_lt 0 (by decide) (l.take k)
    by_cases hlt : k < l.length
    · obtain ⟨b, o, rfl, hbl, hc⟩ := hb (by omega)
      have c0 := (hB.cell (p := ⟨b, o + k, none⟩) hbl).trans (hc k hlt)
      have hbit := okb_get l h k
      have hS := stt_take 0 l k hlt
      have hP := par_take 0 l k hlt
      have hpl := par_length 0 (l.take k)
      obtain ⟨x, hx⟩ : ∃ x, x = (gd l k).toNat := ⟨_, rfl⟩
      rw [← hx] at c0 hbit hS hP
      obtain ⟨s, hs⟩ : ∃ s, s = stt 0 (l.take k) := ⟨_, rfl⟩
      rw [← hs] at hE hst hS hP
      obtain ⟨m, hm⟩ : ∃ m, m = par 0 (l.take k) := ⟨_, rfl⟩
      rw [← hm] at hown hP hpl
      have hml : m.length + 1 ≤ 100000 := by rw [hpl, List.length_take]; omega
      have HS := Lib.hid hS
      have HP := Lib.hid hP
      clear hx hc hs hm hS hP hpl
      go_wp2_with (go_at_call 34; (with_reducible refine (takes_any s x hst hbit w.heap.size (w.heap.size + 1) v m _ ?_ hsz hE hown hml).mono ?_); (exact Nat.lt_succ_self _); rintro e w2 ⟨rfl, v2, hE2, hown2, hbut⟩)
      rw [← HS.out] at hE2
      rw [← HP.out] at hown2
      have := hbut.size
      exact ⟨⟨k + 1, v2, by omega, by go_num, hE2, hown2, below_but hB hbut (Nat.le_refl _) (by omega), by omega⟩, by simp [intOf]; omega⟩
    · obtain rfl : k = l.length := by omega
      rw [List.take_length] at hE hown hst
      obtain ⟨s, hs⟩ : ∃ s, s = stt 0 l := ⟨_, rfl⟩
      rw [← hs] at hE hst
      have HS := Lib.hid hs
      clear hs
      obtain ⟨x, y, z, hX, hE'⟩ := enc_xyz hE.drew
      have HXY := Lib.hid hX
      clear hX
      have s0 : (Blk wr.drew w.heap.size (enc s v) 70 ∧ wr.drew.cell? ⟨w.heap.size, 0, none⟩ = some (.int .i64 x) ∧ wr.drew.cell? ⟨w.heap.size, 1, none⟩ = some (.int .i64 y) ∧ wr.drew.cell? ⟨w.heap.size, 2, none⟩ = some (.int .i64 z) ∧ wr.drew.cell? ⟨w.heap.size, 3, none⟩ = some v) ∧ Below w.heap.size w wr.drew ∧ wr.drew.ownsRow (w.heap.size + 1) 5 1 v (par 0 l).length ((par 0 l).map B) := ⟨hE', hB.drew, hown.drew⟩
      clear hE'
      go_wp2_with fail
      go_region_held3 (fun w' => (Blk w' w.heap.size (enc s v) 70 ∧ w'.cell? ⟨w.heap.size, 0, none⟩ = some (.int .i64 x) ∧ w'.cell? ⟨w.heap.size, 1, none⟩ = some (.int .i64 y) ∧ w'.cell? ⟨w.heap.size, 2, none⟩ = some (.int .i64 z) ∧ w'.cell? ⟨w.heap.size, 3, none⟩ = some v) ∧ Below w.heap.size w w' ∧ w'.ownsRow (w.heap.size + 1) 5 1 v (par 0 l).length ((par 0 l).map B)) (assumption)
        (first
          | (go_at_call 32; (with_reducible refine (state_xyz HXY.out hst _).mono ?_); rintro e w6 ⟨rfl, hb1⟩; have s6 : (Blk w6 w.heap.size (enc s v) 70 ∧ w6.cell? ⟨w.heap.size, 0, none⟩ = some (.int .i64 x) ∧ w6.cell? ⟨w.heap.size, 1, none⟩ = some (.int .i64 y) ∧ w6.cell? ⟨w.heap.size, 2, none⟩ = some (.int .i64 z) ∧ w6.cell? ⟨w.heap.size, 3, none⟩ = some v) ∧ Below w.heap.size w w6 ∧ w6.ownsRow (w.heap.size + 1) 5 1 v (par 0 l).length ((par 0 l).map B) := ⟨enc_with HXY.out (s0.1.1.below hb1 s0.1.1.lt), bnext s0.2.1 hb1, own_below s0.2.2 hb1⟩))
      go_wp2
      go_ret3
      rw [← HS.out]
      exact ⟨v, rfl, bsl_own s6.2.2, s6.2.1⟩
end Go.Proofs.Ytkcccoialmineaa
