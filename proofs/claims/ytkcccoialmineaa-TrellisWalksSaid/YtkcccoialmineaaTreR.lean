/-
  The trellis, walks: the reference's Walk and Encode.
-/
import Derived.Test.YtkcccoialmineaaTreW
import Derived.Laws.OwnMore
import Derived.Deep.RegionHeld3
namespace Go.Proofs.Ytkcccoialmineaa
open Go.RowKit
attribute [-go_sem] Instr.build

def stL (l : List UInt8) (k : Nat) : List Value := (List.range k).map (fun i => .int .i64 (stt 0 (l.take (i + 1)) : Nat))
theorem stL_length (l : List UInt8) (k : Nat) : (stL l k).length = k := by simp [stL]
theorem stL_succ (l : List UInt8) (k : Nat) : stL l (k + 1) = stL l k ++ [.int .i64 (stt 0 (l.take (k + 1)) : Nat)] := by
  unfold stL; rw [List.range_succ, List.map_append]; rfl
theorem own_types {w : World} {b b' : Nat} {e e' : TypeId} {v v' : Value} {n n' s s' : Nat} {xs xs' : List Value} (h : w.ownsRow b e s v n xs) (h' : w.ownsRow b' e' s' v' n' xs') (hne : e ≠ e') : v.ownBlock = none ∨ v.ownBlock ≠ v'.ownBlock := by
  obtain ⟨_, ⟨rfl, _⟩ | ⟨g, cap, cur, rfl, _, hh, _⟩⟩ := h
  · exact .inl rfl
  · right
    obtain ⟨_, ⟨rfl, _⟩ | ⟨g', cap', cur', rfl, _, hh', _⟩⟩ := h'
    · intro k; cases k
    · intro k
      simp only [Value.ownBlock, Option.some.injEq] at k
      subst k
      rw [hh] at hh'
      simp only [Option.some.injEq, Obj.cells.injEq] at hh'
      exact hne hh'.2.1
theorem info3 : (Try.prog.info? 3).map (fun i => (i.zero, i.size, i.bytes)) = some (some (.int .i64 0), 1, 8) := by kernel_rfl

set_option maxHeartbeats 2000000 in
theorem rwalk_any (l : List UInt8) (a : Option Addr) (cap : Nat) (w : World) (hb : Byt w a l) (hlen : l.length ≤ 10000) :
    Calls Try.prog 27 #[.slice a l.length cap] w fun e w' => ∃ v u, e = .returned (.tuple #[v, u, .bool (okb l)]) ∧ Below w.heap.size w w' ∧
      (okb l = true → w'.ownsRow w.heap.size 3 1 v l.length (stL l l.length) ∧ w'.ownsRow w.heap.size 5 1 u (par 0 l).length ((par 0 l).map B)) := by
  obtain ⟨i0, hi, hz0, hz1, hz2⟩ := info_parts info5
  obtain ⟨i3, hi3, hz30, hz31, hz32⟩ := info_parts info3
  obtain ⟨R, hR⟩ : ∃ R, R = okb l := ⟨_, rfl⟩
  rw [← hR]
  have HR := Lib.hid hR
  clear hR
  go_enter Try.func27, Try.ntmps27
  go_wp2
  go_loopw [5, 6, 7, 8] (fun v u s t wr => ∃ k : Nat, k ≤ l.length ∧ t = .int .i64 k ∧ s = .int .i64 (stt 0 (l.take k) : Nat) ∧ (∀ i, i < k → (gd l i).toNat < 2) ∧ wr.ownsRow w.heap.size 3 1 v k (stL l k) ∧ wr.ownsRow w.heap.size 5 1 u (par 0 (l.take k)).length ((par 0 (l.take k)).map B) ∧ Below w.heap.size w wr) (fun _ _ _ t _ => l.length - (intOf t).toNat)
  case atStart => exact ⟨0, by omega, rfl, rfl, fun i hi => absurd hi (by omega), World.ownsRow_nil _ _ _ _, World.ownsRow_nil _ _ _ _, Below.refl _ _⟩
  case round =>
    obtain ⟨k, hk, rfl, rfl, hp, h1, h2, hB⟩ := hrel
    by_cases hlt : k < l.length
    · obtain ⟨b, o, rfl, hbl, hc⟩ := hb (by omega)
      have c0 := (hB.cell (p := ⟨b, o + k, none⟩) hbl).trans (hc k hlt)
      have hst := stt_lt 0 (by decide) (l.take k)
      have hN := stt_take 0 l k hlt
      have hP := par_take 0 l k hlt
      have hS := stL_succ l k
      have hpl := par_length 0 (l.take k)
      have h9 := lt256 (gd l k)
      obtain ⟨x, hx⟩ : ∃ x, x = (gd l k).toNat := ⟨_, rfl⟩
      rw [← hx] at c0 h9 hN hP
      by_cases hbit : x < 2
      · have hn : ¬ (1 : Int) < (x : Int) := by omega
        rw [hN] at hS
        obtain ⟨s, hs⟩ : ∃ s, s = stt 0 (l.take k) := ⟨_, rfl⟩
        rw [← hs] at hst hN hP hS ⊢
        obtain ⟨m, hm⟩ : ∃ m, m = par 0 (l.take k) := ⟨_, rfl⟩
        rw [← hm] at h2 hP hpl
        have hml : m.length ≤ 10000 := by rw [hpl, List.length_take]; omega
        have hp2 := pr_lt s x
        obtain ⟨p, hpe⟩ : ∃ p, p = pr s x := ⟨_, rfl⟩
        rw [← hpe] at hp2 hP
        have k1 : IntKind.u8.wrap (p : Int) = (p : Int) := wrap_u8 p (by omega)
        have hsz := hB.size
        have HX := Lib.hid hx
        have HN := Lib.hid hN
        have HP := Lib.hid hP
        have HS := Lib.hid hS
        have Hpe := Lib.hid hpe
        clear hx hN hP hS hs hm hpl hpe hc
        go_wp2_with (first
          | (go_at_call 16; (with_reducible refine (rstep_ok s x hst hbit _).mono ?_); rintro e w' ⟨rfl, hw⟩; subst w'; rw [← Hpe.out])
          | (at_builtin; refine wpList_append_own _ rfl (.tmp 35) (.tmp 37) 56 rfl w.heap.size 3 i3 (.int .i64 0) 1 8 Try.underlying56 hi3 hz30 hz31 hz32 rfl (by decide) _ k (stL l k) rfl (h1.alloc _) ⟨wr.heap.size, 0, none⟩ 1 1 [.int .i64 (nx s x : Nat)] rfl rfl ?_ ?_ ?_ ?_ ?_ ?_; (exact one_new _ _ _); (exact one_one _ _); (unfold maxLen; omega); (omega); (exact le_alloc hsz _); intro v5 w5 h5 hg5 _; have ht := own_types h2 h1 (by decide); replace h2 := (h2.alloc (.cells #[.int .i64 (nx s x : Nat)] 3)).kept hg5 ht; replace hB := (hB.alloc hsz _).grown hg5 (le_alloc hsz _) (own_ge h1); rw [← HS.out] at h5; replace hsz := hB.size; clear h1 hg5 ht)
          | (at_builtin; refine wpList_append_own _ rfl (.tmp 39) (.tmp 42) 36 rfl w.heap.size 5 i0 (.int .u8 0) 1 1 Try.underlying36 hi hz0 hz1 hz2 rfl (by decide) _ m.length (m.map B) rfl (h2.alloc _) ⟨w5.heap.size, 0, none⟩ 1 1 [.int .u8 (p : Int)] rfl rfl ?_ ?_ ?_ ?_ ?_ ?_; (exact one_new _ _ _); (exact one_one _ _); (unfold maxLen; omega); (omega); (exact le_alloc hsz _); intro v6 w6 h6 hg6 _; have ht := own_types h5 h2 (by decide); replace h5 := (h5.alloc (.cells #[.int .u8 (p : Int)] 5)).kept hg6 ht; replace hB := (hB.alloc hsz _).grown hg6 (le_alloc hsz _) (own_ge h2); rw [one_byte m p (by omega), ← HP.out] at h6; clear h2 hg6 ht)
          | fail)
        refine ⟨⟨k + 1, by omega, by go_num, by rw [HN.out], fun i hi => ?_, h5, ?_, hB⟩, by simp [intOf]; omega⟩
        · rcases Nat.lt_succ_iff_lt_or_eq.1 hi with h | rfl
          · exact hp i h
          · rw [← HX.out]; exact hbit
        · rw [HP.out] at h6 ⊢; rw [List.length_append]; exact h6
      · have hn : (1 : Int) < (x : Int) := by omega
        have HX := Lib.hid hx
        clear hx
        go_wp2
        go_ret3
        have hf : R = false := by rw [HR.out]; exact okb_not l k hlt (by rw [← HX.out]; exact hbit)
        refine ⟨_, _, by rw [hf]; rfl, hB, fun h => ?_⟩
        rw [hf] at h
        cases h
    · obtain rfl : k = l.length := by omega
      have hf : R = true := by rw [HR.out]; exact okb_of l hp
      rw [List.take_length] at h2
      go_wp2
      go_ret3
      exact ⟨_, _, by rw [hf]; rfl, hB, fun _ => ⟨h1, h2⟩⟩

theorem rencode_err (l : List UInt8) (h : okb l = false) (v : Value) (w : World) (hv : Bsl w v l) (hlen : l.length ≤ 10000) :
    Calls Try.prog 18 #[v] w fun e w' => e = .returned (.tuple #[.slice none 0 0, .int .i64 0, .int .i64 3]) ∧ Below w.heap.size w w' := by
  obtain ⟨a, cap, rfl, h1, h2, h3, h4⟩ := hv
  go_enter Try.func18, Try.ntmps18
  go_wp2_with (go_at_call 27; (with_reducible refine (rwalk_any l a cap _ h4 hlen).mono ?_); rintro e w1 ⟨v1, u1, rfl, hB, _⟩; rw [h])
  go_ret3
  exact ⟨rfl, hB⟩

theorem own_pos {w : World} {b : Nat} {e : TypeId} {v : Value} {n : Nat} {xs : List Value} (h : w.ownsRow b e 1 v n xs) (hn : 0 < n) :
    ∃ g cap, v = .slice (some ⟨g, 0, none⟩) n cap ∧ ∀ i u, xs[i]? = some u → w.cell? ⟨g, i, none⟩ = some u := by
  obtain ⟨hx, ⟨_, h0⟩ | ⟨g, cap, cur, rfl, _, hh, hl, hm, hcs, ht⟩⟩ := h
  · omega
  · refine ⟨g, cap, rfl, fun i u hu => ?_⟩
    have hi : i < n * 1 := by
      have := (List.getElem?_eq_some_iff.1 hu).1
      omega
    have e1 : w.cell? ⟨g, i, none⟩ = cur[i]? := by simp [World.cell?, hh]
    rw [e1, ← Array.getElem?_toList, ← List.getElem?_take_of_lt hi, ht]
    exact hu
theorem stL_get (l : List UInt8) (k i : Nat) (h : i < k) : (stL l k)[i]? = some (.int .i64 (stt 0 (l.take (i + 1)) : Nat)) := by
  unfold stL
  rw [List.getElem?_map, List.getElem?_range h]
  rfl

theorem rwalk_nil (a : Option Addr) (cap : Nat) (w : World) :
    Calls Try.prog 27 #[.slice a 0 cap] w fun e w' => ∃ v u, e = .returned (.tuple #[v, u, .bool true]) ∧ Below w.heap.size w w' ∧ w'.ownsRow w.heap.size 3 1 v 0 [] := by
  refine (rwalk_any [] a cap w (Byt.nil _ _) (by simp)).mono ?_
  rintro e w' ⟨v, u, rfl, hB, h⟩
  exact ⟨v, u, rfl, hB, (h rfl).1⟩
set_option maxHeartbeats 1000000 in
theorem rencode_ok (l : List UInt8) (h : okb l = true) (v : Value) (w : World) (hv : Bsl w v l) (hlen : l.length ≤ 10000) :
    Calls Try.prog 18 #[v] w fun e w' => ∃ v, e = .returned (.tuple #[v, .int .i64 (stt 0 l), .int .i64 0]) ∧ Bsl w' v (par 0 l) ∧ Below w.heap.size w w' := by
  obtain ⟨a, cap, rfl, h1, h2, h3, h4⟩ := hv
  have H2 := Lib.hid h2
  clear h2
  by_cases hz : l.length = 0
  · have hl : l = [] := List.length_eq_zero_iff.1 hz
    subst hl
    go_enter Try.func18, Try.ntmps18
    go_wp2_with (go_at_call 27; (with_reducible refine (rwalk_nil a cap _).mono ?_); rintro e w1 ⟨v1, u1, rfl, hB, o1⟩; obtain ⟨_, ⟨rfl, _⟩ | ⟨g, c1, cur, rfl, _⟩⟩ := o1)
    all_goals go_ret3
    all_goals exact ⟨_, rfl, ⟨none, 0, rfl, Nat.le_refl _, Nat.zero_le _, fun _ => rfl, Byt.nil _ _⟩, hB⟩
  · have hz1 : ((l.length : Int) == 0) = false := beq_eq_false_iff_ne.2 (by omega)
    have hz2 : 0 ≤ (l.length : Int) - 1 := by omega
    have hz3 : (l.length : Int) - 1 < l.length := by omega
    have hz4 : ((l.length : Int) - 1).toNat = l.length - 1 := by omega
    go_enter Try.func18, Try.ntmps18
    go_wp2_with (go_at_call 27; (with_reducible refine (rwalk_any l a cap _ h4 hlen).mono ?_); rintro e w1 ⟨v1, u1, rfl, hB, hown⟩; rw [h]; obtain ⟨o1, o2⟩ := hown h; clear hown; obtain ⟨g, c1, rfl, hcell⟩ := own_pos o1 (by omega); have c0 := hcell (l.length - 1) _ (stL_get l l.length (l.length - 1) (by omega)); obtain ⟨a2, c2, rfl, q1, q2, q3, q4⟩ := bsl_own o2; have Q2 := Lib.hid q2; clear hcell o1 o2 q2)
    rw [show l.length - 1 + 1 = l.length by omega, List.take_length] at c0
    have hw := IntWalk.i64_in ((l.length : Int) - 1) (by omega)
    have hz5 : (1 : Int) ≤ (l.length : Int) := by omega
    go_region_held3 (fun w' => w'.cell? ⟨g, l.length - 1, none⟩ = some (.int .i64 (stt 0 l : Nat))) (exact c0) (fail)
    go_wp2
    go_ret3
    exact ⟨_, rfl, ⟨a2, c2, rfl, q1, Q2.out, q3, q4.cells (Below.refl _ _).drew⟩, hB.drew⟩
end Go.Proofs.Ytkcccoialmineaa
