/-
  Slices of integers among the arguments; comparing slices quietly; the statement HarqtxEnds, the walk.
-/
import Derived.Test.YthbpmofabcilhaaHarL
namespace Go.Proofs.Ythbpmofabcilhaa
open Go.RowKit
attribute [-go_sem] Instr.build

set_option maxHeartbeats 400000 in
theorem bsame_q (l m : List UInt8) (v u : Value) (w : World) (hv : Bsl w v l) (hu : Bsl w u m) (hl : l.length ≤ 1000000) :
    Calls Try.prog 13 #[v, u] w fun e w' => e = .returned (.bool (decide (l = m))) ∧ ∃ j, w' = w.drewN j := by
  obtain ⟨a, cap, rfl, h1, h2, h3, h4⟩ := hv
  obtain ⟨b, cap', rfl, k1, k2, k3, k4⟩ := hu
  by_cases hlen : l.length = m.length
  · have hne : ((l.length : Int) != (m.length : Int)) = false := by rw [hlen]; simp
    have hlm : m.length ≤ l.length := by omega
    have HL := Lib.hid hlen
    clear hlen h2 h3 k2 k3
    go_enter Try.func13, Try.ntmps13
    go_wp2
    go_loopw [5] (fun t wr => ∃ (k : Nat) (j : Nat), k ≤ l.length ∧ t = .int .i64 k ∧ (∀ i, i < k → gd l i = gd m i) ∧ wr = w.drewN j) (fun t _ => l.length - (intOf t).toNat)
    case atStart => exact ⟨0, 0, by omega, rfl, fun i hi => absurd hi (by omega), rfl⟩
    case round =>
      obtain ⟨k, j, hk, rfl, hp, rfl⟩ := hrel
      have HP := Lib.hid hp
      clear hp
      by_cases hlt : k < l.length
      · obtain ⟨b8, o8, rfl, hbl8, hc8⟩ := h4 (by omega)
        obtain ⟨b10, o10, rfl, hbl10, hc10⟩ := k4 (by have := HL.out; omega)
        have c0 := hc8 k hlt
        have c1 := hc10 k (by have := HL.out; omega)
        have hn := bytes_ne (gd l k) (gd m k)
        have hkm : k < m.length := by have := HL.out; omega
        clear hc8 hc10
        by_cases he : gd l k = gd m k
        · rw [decide_eq_true he, Bool.not_true] at hn
          have HE := Lib.hid he
          obtain ⟨X, hX⟩ : ∃ X : Int, X = ((gd l k).toNat : Int) := ⟨_, rfl⟩
          obtain ⟨Y, hY⟩ : ∃ X : Int, X = ((gd m k).toNat : Int) := ⟨_, rfl⟩
          rw [← hX] at c0 hn
          rw [← hY] at c1 hn
          clear hX hY he
          go_wp2_with fail
          go_quiet (fail)
          go_wp2
          refine ⟨⟨k + 1, _, by omega, by go_num, fun i hi => ?_, rfl⟩, by simp [intOf]; omega⟩
          rcases Nat.lt_succ_iff_lt_or_eq.1 hi with h | rfl
          · exact HP.out i h
          · exact HE.out
        · rw [decide_eq_false he, Bool.not_false] at hn
          have HE := Lib.hid he
          obtain ⟨X, hX⟩ : ∃ X : Int, X = ((gd l k).toNat : Int) := ⟨_, rfl⟩
          obtain ⟨Y, hY⟩ : ∃ X : Int, X = ((gd m k).toNat : Int) := ⟨_, rfl⟩
          rw [← hX] at c0 hn
          rw [← hY] at c1 hn
          clear hX hY he
          go_wp2_with fail
          go_quiet (fail)
          go_wp2
          go_ret
          rw [decide_eq_false (fun e => HE.out (by rw [e]))]
          exact ⟨rfl, j + nq, by rw [World.drewN_drewN]⟩
      · obtain rfl : k = l.length := by omega
        go_wp2
        go_ret
        rw [decide_eq_true (ext_gd HL.out HP.out)]
        exact ⟨rfl, _, rfl⟩
  · have hne : ((l.length : Int) != (m.length : Int)) = true := by simp; omega
    have HL := Lib.hid hlen
    clear hlen h2 h3 h4 k2 k3 k4
    go_enter Try.func13, Try.ntmps13
    go_wp2
    go_ret
    rw [decide_eq_false (fun e => HL.out (by rw [e]))]
    exact ⟨rfl, 0, rfl⟩

theorem bsame_eq (l : List UInt8) (v u : Value) (w : World) (hv : Bsl w v l) (hu : Bsl w u l) (hl : l.length ≤ 1000000) :
    Calls Try.prog 13 #[v, u] w fun e w' => e = .returned (.bool true) ∧ ∃ j, w' = w.drewN j := by
  have := bsame_q l l v u w hv hu hl
  rwa [decide_eq_true rfl] at this
theorem bsl_drewN {w : World} {v : Value} {l : List UInt8} (h : Bsl w v l) (k : Nat) : Bsl (w.drewN k) v l := h
theorem HP.drewN {w : World} {b : Nat} {v : Value} {m : Hq} (h : HP w b v m) (k : Nat) : HP (w.drewN k) b v m := ⟨h.1, h.2⟩
theorem below_drewN {B : Nat} {a w : World} (h : Below B a w) (n : Nat) : Below B a (w.drewN n) := ⟨h.os, h.tape, h.output, h.size, h.block⟩
/-- A slice of integers that reads as zs. -/
def Isl (w : World) (v : Value) (zs : List Int) : Prop :=
  ∃ (a : Option Addr) (cap : Nat), v = .slice a zs.length cap ∧ zs.length ≤ cap ∧ cap ≤ maxLen ∧ (a = none → cap = 0) ∧
    (0 < zs.length → ∃ b o, a = some ⟨b, o, none⟩ ∧ b < w.heap.size ∧ ∀ i, i < zs.length → w.cell? ⟨b, o + i, none⟩ = some (.int .i64 (zs[i]?.getD 0)))
/-- The feedback of round k. -/
def ackF (zs : List Int) (k : Nat) : Int := if k < zs.length ∧ 0 ≤ zs[k]?.getD 0 ∧ zs[k]?.getD 0 ≤ 2 then zs[k]?.getD 0 else 2
theorem ackF_bd (zs : List Int) (k : Nat) : 0 ≤ ackF zs k ∧ ackF zs k ≤ 2 := by unfold ackF; split <;> omega
def ORD : Array Value := #[.int .i64 0, .int .i64 2, .int .i64 3, .int .i64 1]
theorem ord_get (k : Nat) : ORD[k % 4]? = some (.int .i64 (verF k)) := by
  have h : k % 4 = 0 ∨ k % 4 = 1 ∨ k % 4 = 2 ∨ k % 4 = 3 := by omega
  unfold verF
  rcases h with h | h | h | h <;> rw [h] <;> rfl

set_option maxHeartbeats 4000000 in
set_option maxRecDepth 100000 in
theorem ends_out (n : Int) (hc : n < 1 ∨ (¬ n < 1 ∧ 16 < n)) (v1 : Value) (l : List UInt8) (v2 : Value) (w : World) (h1 : Bsl w v1 l) :
    Calls Try.prog 3 #[.int .i64 n, v1, v2] w fun e w' => e = .returned (.bool true) ∧ Below w.heap.size w w' := by
  obtain ⟨a, cap, rfl, k1, k2, k3, k4⟩ := h1
  clear k1 k2 k3 k4
  rcases hc with hc | ⟨hc0, hc⟩
  all_goals
    go_enter Try.func3, Try.ntmps3
    go_wp2_with (go_at_call 9; (with_reducible refine (known_any _).mono ?_); rintro e w1 ⟨rfl, hB⟩)
    go_ret
    exact ⟨rfl, hB⟩
theorem ends_long (n : Int) (hc0 : ¬ n < 1) (hc1 : ¬ 16 < n) (v1 : Value) (l : List UInt8) (v2 : Value) (w : World) (h1 : Bsl w v1 l) (hl : 100 < l.length) :
    Calls Try.prog 3 #[.int .i64 n, v1, v2] w fun e w' => e = .returned (.bool true) ∧ Below w.heap.size w w' := by
  obtain ⟨a, cap, rfl, k1, k2, k3, k4⟩ := h1
  have hI : (100 : Int) < (l.length : Int) := by omega
  clear k1 k2 k3 k4 hl
  go_enter Try.func3, Try.ntmps3
  go_wp2_with (go_at_call 9; (with_reducible refine (known_any _).mono ?_); rintro e w1 ⟨rfl, hB⟩)
  go_ret
  exact ⟨rfl, hB⟩
set_option maxHeartbeats 4000000 in
set_option maxRecDepth 100000 in
theorem ends_bad (n : Nat) (hn1 : 1 ≤ n) (hn2 : n ≤ 16) (v1 : Value) (l : List UInt8) (v2 : Value) (w : World) (h1 : Bsl w v1 l) (hl : l.length ≤ 100) (he : loadE (H0 n) l ≠ 0) :
    Calls Try.prog 3 #[.int .i64 n, v1, v2] w fun e w' => e = .returned (.bool true) ∧ Below w.heap.size w w' := by
  obtain ⟨a, cap, rfl, k1, k2, k3, k4⟩ := h1
  obtain ⟨x, hx⟩ : ∃ x, x = loadE (H0 n) l := ⟨_, rfl⟩
  rw [← hx] at he
  have hxI : ((x : Int) != 0) = true := by simp; omega
  have HX := Lib.hid hx
  have HK3 := Lib.hid k3
  have HK4 := Lib.hid k4
  clear k1 k2 k3 k4 hx he
  go_enter Try.func3, Try.ntmps3
  go_wp2_with fail
  (with_reducible refine (new_ok n hn1 hn2 _).mono ?_)
  rintro e w1 ⟨rfl, hw1⟩
  have hP1 : HP w1 w.heap.size (.slice none 0 0) (H0 n) := by rw [hw1]; exact ⟨Blk.new' rfl, World.ownsRow_nil _ _ _ _⟩
  have hB1 : Below w.heap.size w w1 := by rw [hw1]; exact alloc_below _ _
  clear hw1
  go_wp2_with fail
  (with_reducible refine (load_lit w.heap.size _ _ l l.length _ _ _ _ (x : Int) rfl hP1 ?_ (HK4.out.cells hB1) HK3.out ?_ ?_ rfl).mono ?_)
  · show n ≠ 0; omega
  · omega
  · rw [HX.out]
  rintro e w2 ⟨v2', rfl, hP2, ⟨hb2, _⟩⟩
  have hB2 := below_but hB1 hb2 (Nat.le_refl _) hB1.size
  clear hb2 hP2 hP1 hB1
  go_wp2_with (go_at_call 9; (with_reducible refine (known_any _).mono ?_); rintro e w3 ⟨rfl, hb3⟩)
  go_ret
  exact ⟨rfl, bnext hB2 hb3⟩
set_option maxHeartbeats 4000000 in
set_option maxRecDepth 100000 in
theorem ends_good (n : Nat) (hn1 : 1 ≤ n) (hn2 : n ≤ 16) (v1 : Value) (l : List UInt8) (v2 : Value) (zs : List Int) (w : World) (h1 : Bsl w v1 l) (h2 : Isl w v2 zs) (hl : l.length ≤ 100) (he : loadE (H0 n) l = 0) :
    Calls Try.prog 3 #[.int .i64 n, v1, v2] w fun e w' => e = .returned (.bool true) ∧ Below w.heap.size w w' := by
  have H1 := Lib.hid h1
  obtain ⟨a, cap, rfl, k1, k2, k3, k4⟩ := h1
  obtain ⟨a2, cap2, rfl, m1, m2, m3, m4⟩ := h2
  have hls : loadS (H0 n) l = ⟨n, 1, l, 0, 0, 0⟩ := by unfold loadS; rw [he]; rfl
  have HX := Lib.hid he
  have HLS := Lib.hid hls
  have HK3 := Lib.hid k3
  have HK4 := Lib.hid k4
  have HM4 := Lib.hid m4
  have hz2 : zs.length ≤ 9223372036854775807 := by unfold maxLen at m2; omega
  clear k1 k2 k3 k4 he m1 m2 m3 m4 hls
  have hz := z32
  go_enter Try.func3, Try.ntmps3
  go_wp2_with fail
  (with_reducible refine (new_ok n hn1 hn2 _).mono ?_)
  rintro e w1 ⟨rfl, hw1⟩
  have hP1 : HP w1 w.heap.size (.slice none 0 0) (H0 n) := by rw [hw1]; exact ⟨Blk.new' rfl, World.ownsRow_nil _ _ _ _⟩
  have hB1 : Below w.heap.size w w1 := by rw [hw1]; exact alloc_below _ _
  clear hw1
  go_wp2_with fail
  (with_reducible refine (load_lit w.heap.size _ _ l l.length _ _ _ ⟨n, 1, l, 0, 0, 0⟩ 0 rfl hP1 ?_ (HK4.out.cells hB1) HK3.out ?_ ?_ HLS.out.symm).mono ?_)
  · show n ≠ 0; omega
  · omega
  · rw [HX.out]; rfl
  rintro e w2 ⟨v3, rfl, hP2, ⟨hb2, _⟩⟩
  have hB2 := Lib.hid (below_but hB1 hb2 (Nat.le_refl _) hB1.size)
  have hs2 : w.heap.size < w2.heap.size := hP2.1.lt
  have HP2 := Lib.hid hP2
  clear hb2 hP2 hP1 hB1
  go_wp2_with fail
  have hP3 := HP2.out.below (alloc_below w2 (.cells #[.int .i64 0, .int .i64 2, .int .i64 3, .int .i64 1] 3))
  have hO3 : Blk (w2.alloc (.cells #[.int .i64 0, .int .i64 2, .int .i64 3, .int .i64 1] 3)) w2.heap.size ORD 3 := Blk.new' rfl
  have hB3 := below_new hB2.out (.cells #[.int .i64 0, .int .i64 2, .int .i64 3, .int .i64 1] 3)
  clear HP2 hB2
  generalize w2.heap.size = ob at *
  go_loopw [10] (fun t wr => ∃ (k now sent : Nat), k < n ∧ t = .int .i64 k ∧ now ≤ 10 * k ∧ sent ≤ 10 * k ∧ HP wr w.heap.size v3 ⟨n, 1, l, k, now, sent⟩ ∧ Blk wr ob ORD 3 ∧ Below w.heap.size w wr) (fun t _ => n - (intOf t).toNat)
  case atStart => exact ⟨0, 0, 0, by omega, rfl, by omega, by omega, hP3, hO3, hB3⟩
  case round =>
    clear hP3 hO3 hB3
    obtain ⟨k, now, sent, hk, rfl, hnow, hsent, hP, hO, hB⟩ := hrel
    have hk16 : k < 16 := by omega
    have hkI : (k : Int) < (n : Int) := by omega
    have hobn : ob ≠ w.heap.size := by
      rintro rfl
      have := hP.1
      unfold Blk at this hO
      rw [this] at hO
      cases hO
    have HP0 := Lib.hid hP
    have HO0 := Lib.hid hO
    have HB0 := Lib.hid hB
    clear hP hO hB
    go_wp2_with fail
    (with_reducible refine (send_lit w.heap.size v3 _ _ _ ⟨n, 2, l, k, 10 * k, 10 * k⟩ (verF k) k (decide (k = 0)) HP0.out ?_ ?_ ?_ ?_ ?_ ?_ ?_ ?_).mono ?_)
    · show n ≠ 0; omega
    · exact ⟨by omega, by omega⟩
    · rfl
    · show l.length ≤ _; omega
    · rfl
    · rfl
    · rfl
    · show (⟨n, 2, l, k, 10 * k, 10 * k⟩ : Hq) = ⟨n, 2, l, k, max now (10 * (k : Int)).toNat, max now (10 * (k : Int)).toNat⟩
      rw [show max now (10 * (k : Int)).toNat = 10 * k by omega]
    rintro e w3 ⟨A3, k3, c3, rfl, hu3, hP3, hb3⟩
    have hs0 := HP0.out.1.lt
    have hB3 := below_but HB0.out hb3 (Nat.le_refl _) (by omega)
    have hO3 := HO0.out.but hb3 HO0.out.lt hobn
    obtain ⟨W4, hW4⟩ : ∃ W4, W4 = w3.alloc (.cells #[.slice A3 k3 c3, .int .i64 (verF k), .int .i64 k, .bool (decide (k = 0))] 32) := ⟨_, rfl⟩
    have hB4w : Below w3.heap.size w3 W4 := by rw [hW4]; exact alloc_below _ _
    have T4 : Blk W4 w3.heap.size #[.slice A3 k3 c3, .int .i64 (verF k), .int .i64 k, .bool (decide (k = 0))] 32 := by rw [hW4]; exact Blk.new' rfl
    have HP4 := Lib.hid (hP3.below hB4w)
    have HO4 := Lib.hid (hO3.below hB4w hO3.lt)
    have HB4 := Lib.hid (bnext hB3 hB4w)
    have HU4 := Lib.hid (bsl_own (own_below hu3 hB4w))
    have HV4 := Lib.hid (H1.out.below HB4.out)
    have t0 : W4.cell? ⟨w3.heap.size, 0, none⟩ = some (.slice A3 k3 c3) := T4.cell 0
    have t1 : W4.cell? ⟨w3.heap.size, 1, none⟩ = some (.int .i64 (verF k)) := T4.cell 1
    have t2 : W4.cell? ⟨w3.heap.size, 2, none⟩ = some (.int .i64 k) := T4.cell 2
    have t3 : W4.cell? ⟨w3.heap.size, 3, none⟩ = some (.bool (decide (k = 0))) := T4.cell 3
    have to : W4.cell? ⟨ob, k % 4, none⟩ = some (.int .i64 (verF k)) := (HO4.out.cell _).trans (ord_get k)
    have hz0 := dec_zero k
    have hs4 : w.heap.size ≤ W4.heap.size := by have := HB4.out.size; omega
    have HW4 := Lib.hid hW4
    clear hW4 hB4w T4 hP3 hO3 hB3 hu3 hb3 HP0 HO0 HB0
    have hstq := Lib.hid (show ∀ j, Calls Try.prog 14 #[.pointer (some ⟨w.heap.size, 0, none⟩)] (W4.drewN j) fun e w' => e = .returned (.int .i64 2) ∧ w' = W4.drewN j from fun j => state_any w.heap.size v3 ⟨n, 2, l, k, 10 * k, 10 * k⟩ _ (HP4.out.drewN j).1 (by show n ≠ 0; omega))
    go_wp2_with fail
    rw [← HW4.out]
    go_quiet ((first
      | (go_at_call 13; exact Calls.quiet_of (bsame_eq l _ _ _ (bsl_drewN HU4.out _) (bsl_drewN HV4.out _) (by omega)))
      | (go_at_call 14; exact Calls.quiet_of_same (hstq.out _))))
    clear t0 t1 t2 t3 to hz0 hstq HU4 HW4
    by_cases hzl : k < zs.length
    · obtain ⟨b2, o2, rfl, hbl2, hc2⟩ := HM4.out (by omega)
      have c2 : W4.cell? ⟨b2, o2 + k, none⟩ = some (.int .i64 (zs[k]?.getD 0)) := (HB4.out.cell (p := ⟨b2, o2 + k, none⟩) hbl2).trans (hc2 k hzl)
      obtain ⟨z, hz⟩ : ∃ z, z = zs[k]?.getD 0 := ⟨_, rfl⟩
      rw [← hz] at c2
      have hzI : (k : Int) < (zs.length : Int) := by omega
      clear hc2 hz
      have hcs : z < 0 ∨ 2 < z ∨ z = 0 ∨ z = 1 ∨ z = 2 := by omega
      rcases hcs with hcs | hcs | rfl | rfl | rfl
      · by_cases hlast : k + 1 = n
        · have hlI : ((k : Int) == (n : Int) - 1) = true := by simp; omega
          go_wp2_with fail
          (with_reducible refine (fbx_lit w.heap.size v3 _ _ _ _ ⟨n, 0, [], 0, 10 * k + 4, 10 * k⟩ (HP4.out.drewN _) ?_ ?_ ?_ ?_ ?_ ?_ ?_).mono ?_)
          · show n ≠ 0; omega
          · exact ⟨by omega, by omega⟩
          · decide
          · exact ⟨by show 10 * k ≤ _; omega, by show 10 * k ≤ _; omega⟩
          · exact ⟨rfl, by show 10 * k + 4 ≤ max (10 * k) (10 * (k : Int) + 4).toNat; omega⟩
          · exact ⟨by show k + 1 = n; omega, by show n ≤ 16; omega⟩
          · show (⟨n, 0, [], 0, 10 * k + 4, 10 * k⟩ : Hq) = ⟨n, 0, [], 0, max (10 * k) (10 * (k : Int) + 4).toNat, 10 * k⟩
            rw [show max (10 * k) (10 * (k : Int) + 4).toNat = 10 * k + 4 by omega]
          rintro e w6 ⟨rfl, hP6, hb6⟩
          have HP6 := Lib.hid hP6
          have HB6 := Lib.hid (below_but (below_drewN HB4.out _) hb6 (Nat.le_refl _) (by show w.heap.size ≤ W4.heap.size; omega))
          clear hP6 hb6 HP4
          have hs6 : w.heap.size < w6.heap.size := HP6.out.1.lt
          go_wp2_with fail
          (with_reducible refine (send_state w.heap.size _ _ _ _ HP6.out ?_ ?_ ?_).mono ?_)
          · show n ≠ 0; omega
          · exact ⟨by omega, by omega⟩
          · show (0 : Nat) ≠ 1; decide
          rintro e w7 ⟨rfl, hP7, hb7⟩
          rw [show trZ = #[.slice none 0 0, .int .i64 0, .int .i64 0, .bool false] from rfl]
          have hB7 := Lib.hid (below_but HB6.out hb7.1 (Nat.le_refl _) (by omega))
          have HP7 := Lib.hid hP7
          clear hP7 hb7 HP6 HB6
          go_wp2_with fail
          have hQ7 := HP7.out.below (alloc_below w7 (.cells #[.slice none 0 0, .int .i64 0, .int .i64 0, .bool false] 32))
          (with_reducible refine (state_any w.heap.size _ _ _ hQ7.1 ?_).mono ?_)
          · show n ≠ 0; omega
          rintro e w' ⟨rfl, hw⟩
          subst w'
          have hB8 := Lib.hid (below_new hB7.out (.cells #[.slice none 0 0, .int .i64 0, .int .i64 0, .bool false] 32))
          clear hQ7 HP7 hB7
          go_wp2_with (go_at_call 9; (with_reducible refine (known_any _).mono ?_); rintro e w9 ⟨rfl, hb9⟩)
          go_ret
          exact ⟨rfl, bnext hB8.out hb9⟩
        · have hlI : ((k : Int) == (n : Int) - 1) = false := by simp; omega
          go_wp2_with fail
          (with_reducible refine (fbn_lit w.heap.size v3 _ _ _ _ ⟨n, 1, l, k + 1, 10 * k + 4, 10 * k⟩ (HP4.out.drewN _) ?_ ?_ ?_ ?_ ?_ ?_ ?_).mono ?_)
          · show n ≠ 0; omega
          · exact ⟨by omega, by omega⟩
          · decide
          · exact ⟨by show 10 * k ≤ _; omega, by show 10 * k ≤ _; omega⟩
          · exact ⟨rfl, by show 10 * k + 4 ≤ max (10 * k) (10 * (k : Int) + 4).toNat; omega⟩
          · exact ⟨by show k + 1 ≠ n; omega, by show k ≤ 16; omega⟩
          · show (⟨n, 1, l, k + 1, 10 * k + 4, 10 * k⟩ : Hq) = ⟨n, 1, l, k + 1, max (10 * k) (10 * (k : Int) + 4).toNat, 10 * k⟩
            rw [show max (10 * k) (10 * (k : Int) + 4).toNat = 10 * k + 4 by omega]
          rintro e w6 ⟨rfl, hP6, hb6⟩
          have HP6 := Lib.hid hP6
          have HB6 := Lib.hid (below_but (below_drewN HB4.out _) hb6 (Nat.le_refl _) (by show w.heap.size ≤ W4.heap.size; omega))
          have HO6 := Lib.hid ((show Blk (W4.drewN _) ob ORD 3 from HO4.out).but hb6 (by show ob < W4.heap.size; exact HO4.out.lt) (by omega))
          clear hP6 hb6 HP4
          go_wp2
          exact ⟨⟨k + 1, _, _, by omega, by go_num, by omega, by omega, HP6.out, HO6.out, HB6.out⟩, by simp [intOf]; omega⟩
      · have hcs0 : ¬ z < 0 := by omega
        by_cases hlast : k + 1 = n
        · have hlI : ((k : Int) == (n : Int) - 1) = true := by simp; omega
          go_wp2_with fail
          (with_reducible refine (fbx_lit w.heap.size v3 _ _ _ _ ⟨n, 0, [], 0, 10 * k + 4, 10 * k⟩ (HP4.out.drewN _) ?_ ?_ ?_ ?_ ?_ ?_ ?_).mono ?_)
          · show n ≠ 0; omega
          · exact ⟨by omega, by omega⟩
          · decide
          · exact ⟨by show 10 * k ≤ _; omega, by show 10 * k ≤ _; omega⟩
          · exact ⟨rfl, by show 10 * k + 4 ≤ max (10 * k) (10 * (k : Int) + 4).toNat; omega⟩
          · exact ⟨by show k + 1 = n; omega, by show n ≤ 16; omega⟩
          · show (⟨n, 0, [], 0, 10 * k + 4, 10 * k⟩ : Hq) = ⟨n, 0, [], 0, max (10 * k) (10 * (k : Int) + 4).toNat, 10 * k⟩
            rw [show max (10 * k) (10 * (k : Int) + 4).toNat = 10 * k + 4 by omega]
          rintro e w6 ⟨rfl, hP6, hb6⟩
          have HP6 := Lib.hid hP6
          have HB6 := Lib.hid (below_but (below_drewN HB4.out _) hb6 (Nat.le_refl _) (by show w.heap.size ≤ W4.heap.size; omega))
          clear hP6 hb6 HP4
          have hs6 : w.heap.size < w6.heap.size := HP6.out.1.lt
          go_wp2_with fail
          (with_reducible refine (send_state w.heap.size _ _ _ _ HP6.out ?_ ?_ ?_).mono ?_)
          · show n ≠ 0; omega
          · exact ⟨by omega, by omega⟩
          · show (0 : Nat) ≠ 1; decide
          rintro e w7 ⟨rfl, hP7, hb7⟩
          rw [show trZ = #[.slice none 0 0, .int .i64 0, .int .i64 0, .bool false] from rfl]
          have hB7 := Lib.hid (below_but HB6.out hb7.1 (Nat.le_refl _) (by omega))
          have HP7 := Lib.hid hP7
          clear hP7 hb7 HP6 HB6
          go_wp2_with fail
          have hQ7 := HP7.out.below (alloc_below w7 (.cells #[.slice none 0 0, .int .i64 0, .int .i64 0, .bool false] 32))
          (with_reducible refine (state_any w.heap.size _ _ _ hQ7.1 ?_).mono ?_)
          · show n ≠ 0; omega
          rintro e w' ⟨rfl, hw⟩
          subst w'
          have hB8 := Lib.hid (below_new hB7.out (.cells #[.slice none 0 0, .int .i64 0, .int .i64 0, .bool false] 32))
          clear hQ7 HP7 hB7
          go_wp2_with (go_at_call 9; (with_reducible refine (known_any _).mono ?_); rintro e w9 ⟨rfl, hb9⟩)
          go_ret
          exact ⟨rfl, bnext hB8.out hb9⟩
        · have hlI : ((k : Int) == (n : Int) - 1) = false := by simp; omega
          go_wp2_with fail
          (with_reducible refine (fbn_lit w.heap.size v3 _ _ _ _ ⟨n, 1, l, k + 1, 10 * k + 4, 10 * k⟩ (HP4.out.drewN _) ?_ ?_ ?_ ?_ ?_ ?_ ?_).mono ?_)
          · show n ≠ 0; omega
          · exact ⟨by omega, by omega⟩
          · decide
          · exact ⟨by show 10 * k ≤ _; omega, by show 10 * k ≤ _; omega⟩
          · exact ⟨rfl, by show 10 * k + 4 ≤ max (10 * k) (10 * (k : Int) + 4).toNat; omega⟩
          · exact ⟨by show k + 1 ≠ n; omega, by show k ≤ 16; omega⟩
          · show (⟨n, 1, l, k + 1, 10 * k + 4, 10 * k⟩ : Hq) = ⟨n, 1, l, k + 1, max (10 * k) (10 * (k : Int) + 4).toNat, 10 * k⟩
            rw [show max (10 * k) (10 * (k : Int) + 4).toNat = 10 * k + 4 by omega]
          rintro e w6 ⟨rfl, hP6, hb6⟩
          have HP6 := Lib.hid hP6
          have HB6 := Lib.hid (below_but (below_drewN HB4.out _) hb6 (Nat.le_refl _) (by show w.heap.size ≤ W4.heap.size; omega))
          have HO6 := Lib.hid ((show Blk (W4.drewN _) ob ORD 3 from HO4.out).but hb6 (by show ob < W4.heap.size; exact HO4.out.lt) (by omega))
          clear hP6 hb6 HP4
          go_wp2
          exact ⟨⟨k + 1, _, _, by omega, by go_num, by omega, by omega, HP6.out, HO6.out, HB6.out⟩, by simp [intOf]; omega⟩
      · by_cases hlast : k + 1 = n
        · have hlI : ((k : Int) == (n : Int) - 1) = true := by simp; omega
          go_wp2_with fail
          (with_reducible refine (fbx_lit w.heap.size v3 _ _ _ _ ⟨n, 0, [], 0, 10 * k + 4, 10 * k⟩ (HP4.out.drewN _) ?_ ?_ ?_ ?_ ?_ ?_ ?_).mono ?_)
          · show n ≠ 0; omega
          · exact ⟨by omega, by omega⟩
          · decide
          · exact ⟨by show 10 * k ≤ _; omega, by show 10 * k ≤ _; omega⟩
          · exact ⟨rfl, by show 10 * k + 4 ≤ max (10 * k) (10 * (k : Int) + 4).toNat; omega⟩
          · exact ⟨by show k + 1 = n; omega, by show n ≤ 16; omega⟩
          · show (⟨n, 0, [], 0, 10 * k + 4, 10 * k⟩ : Hq) = ⟨n, 0, [], 0, max (10 * k) (10 * (k : Int) + 4).toNat, 10 * k⟩
            rw [show max (10 * k) (10 * (k : Int) + 4).toNat = 10 * k + 4 by omega]
          rintro e w6 ⟨rfl, hP6, hb6⟩
          have HP6 := Lib.hid hP6
          have HB6 := Lib.hid (below_but (below_drewN HB4.out _) hb6 (Nat.le_refl _) (by show w.heap.size ≤ W4.heap.size; omega))
          clear hP6 hb6 HP4
          have hs6 : w.heap.size < w6.heap.size := HP6.out.1.lt
          go_wp2_with fail
          (with_reducible refine (send_state w.heap.size _ _ _ _ HP6.out ?_ ?_ ?_).mono ?_)
          · show n ≠ 0; omega
          · exact ⟨by omega, by omega⟩
          · show (0 : Nat) ≠ 1; decide
          rintro e w7 ⟨rfl, hP7, hb7⟩
          rw [show trZ = #[.slice none 0 0, .int .i64 0, .int .i64 0, .bool false] from rfl]
          have hB7 := Lib.hid (below_but HB6.out hb7.1 (Nat.le_refl _) (by omega))
          have HP7 := Lib.hid hP7
          clear hP7 hb7 HP6 HB6
          go_wp2_with fail
          have hQ7 := HP7.out.below (alloc_below w7 (.cells #[.slice none 0 0, .int .i64 0, .int .i64 0, .bool false] 32))
          (with_reducible refine (state_any w.heap.size _ _ _ hQ7.1 ?_).mono ?_)
          · show n ≠ 0; omega
          rintro e w' ⟨rfl, hw⟩
          subst w'
          have hB8 := Lib.hid (below_new hB7.out (.cells #[.slice none 0 0, .int .i64 0, .int .i64 0, .bool false] 32))
          clear hQ7 HP7 hB7
          go_wp2_with (go_at_call 9; (with_reducible refine (known_any _).mono ?_); rintro e w9 ⟨rfl, hb9⟩)
          go_ret
          exact ⟨rfl, bnext hB8.out hb9⟩
        · have hlI : ((k : Int) == (n : Int) - 1) = false := by simp; omega
          go_wp2_with fail
          (with_reducible refine (fbn_lit w.heap.size v3 _ _ _ _ ⟨n, 1, l, k + 1, 10 * k + 4, 10 * k⟩ (HP4.out.drewN _) ?_ ?_ ?_ ?_ ?_ ?_ ?_).mono ?_)
          · show n ≠ 0; omega
          · exact ⟨by omega, by omega⟩
          · decide
          · exact ⟨by show 10 * k ≤ _; omega, by show 10 * k ≤ _; omega⟩
          · exact ⟨rfl, by show 10 * k + 4 ≤ max (10 * k) (10 * (k : Int) + 4).toNat; omega⟩
          · exact ⟨by show k + 1 ≠ n; omega, by show k ≤ 16; omega⟩
          · show (⟨n, 1, l, k + 1, 10 * k + 4, 10 * k⟩ : Hq) = ⟨n, 1, l, k + 1, max (10 * k) (10 * (k : Int) + 4).toNat, 10 * k⟩
            rw [show max (10 * k) (10 * (k : Int) + 4).toNat = 10 * k + 4 by omega]
          rintro e w6 ⟨rfl, hP6, hb6⟩
          have HP6 := Lib.hid hP6
          have HB6 := Lib.hid (below_but (below_drewN HB4.out _) hb6 (Nat.le_refl _) (by show w.heap.size ≤ W4.heap.size; omega))
          have HO6 := Lib.hid ((show Blk (W4.drewN _) ob ORD 3 from HO4.out).but hb6 (by show ob < W4.heap.size; exact HO4.out.lt) (by omega))
          clear hP6 hb6 HP4
          go_wp2
          exact ⟨⟨k + 1, _, _, by omega, by go_num, by omega, by omega, HP6.out, HO6.out, HB6.out⟩, by simp [intOf]; omega⟩
      · go_wp2_with fail
        (with_reducible refine (fbp_lit w.heap.size v3 _ _ _ ⟨n, 0, [], 0, 10 * k + 4, 10 * k⟩ (HP4.out.drewN _) ?_ ?_ ?_ ?_ ?_).mono ?_)
        · show n ≠ 0; omega
        · exact ⟨by omega, by omega⟩
        · exact ⟨by show 10 * k ≤ _; omega, by show 10 * k ≤ _; omega⟩
        · exact ⟨rfl, by show 10 * k + 4 ≤ max (10 * k) (10 * (k : Int) + 4).toNat; omega⟩
        · show (⟨n, 0, [], 0, 10 * k + 4, 10 * k⟩ : Hq) = ⟨n, 0, [], 0, max (10 * k) (10 * (k : Int) + 4).toNat, 10 * k⟩
          rw [show max (10 * k) (10 * (k : Int) + 4).toNat = 10 * k + 4 by omega]
        rintro e w6 ⟨rfl, hP6, hb6⟩
        have HP6 := Lib.hid hP6
        have HB6 := Lib.hid (below_but (below_drewN HB4.out _) hb6 (Nat.le_refl _) (by show w.heap.size ≤ W4.heap.size; omega))
        clear hP6 hb6 HP4
        have hs6 : w.heap.size < w6.heap.size := HP6.out.1.lt
        go_wp2_with fail
        (with_reducible refine (send_state w.heap.size _ _ _ _ HP6.out ?_ ?_ ?_).mono ?_)
        · show n ≠ 0; omega
        · exact ⟨by omega, by omega⟩
        · show (0 : Nat) ≠ 1; decide
        rintro e w7 ⟨rfl, hP7, hb7⟩
        rw [show trZ = #[.slice none 0 0, .int .i64 0, .int .i64 0, .bool false] from rfl]
        have hB7 := Lib.hid (below_but HB6.out hb7.1 (Nat.le_refl _) (by omega))
        have HP7 := Lib.hid hP7
        clear hP7 hb7 HP6 HB6
        go_wp2_with fail
        have hQ7 := HP7.out.below (alloc_below w7 (.cells #[.slice none 0 0, .int .i64 0, .int .i64 0, .bool false] 32))
        (with_reducible refine (state_any w.heap.size _ _ _ hQ7.1 ?_).mono ?_)
        · show n ≠ 0; omega
        rintro e w' ⟨rfl, hw⟩
        subst w'
        have hB8 := Lib.hid (below_new hB7.out (.cells #[.slice none 0 0, .int .i64 0, .int .i64 0, .bool false] 32))
        clear hQ7 HP7 hB7
        go_wp2_with (go_at_call 9; (with_reducible refine (known_any _).mono ?_); rintro e w9 ⟨rfl, hb9⟩)
        go_ret
        exact ⟨rfl, bnext hB8.out hb9⟩
      · by_cases hlast : k + 1 = n
        · have hlI : ((k : Int) == (n : Int) - 1) = true := by simp; omega
          go_wp2_with fail
          (with_reducible refine (fbx_lit w.heap.size v3 _ _ _ _ ⟨n, 0, [], 0, 10 * k + 4, 10 * k⟩ (HP4.out.drewN _) ?_ ?_ ?_ ?_ ?_ ?_ ?_).mono ?_)
          · show n ≠ 0; omega
          · exact ⟨by omega, by omega⟩
          · decide
          · exact ⟨by show 10 * k ≤ _; omega, by show 10 * k ≤ _; omega⟩
          · exact ⟨rfl, by show 10 * k + 4 ≤ max (10 * k) (10 * (k : Int) + 4).toNat; omega⟩
          · exact ⟨by show k + 1 = n; omega, by show n ≤ 16; omega⟩
          · show (⟨n, 0, [], 0, 10 * k + 4, 10 * k⟩ : Hq) = ⟨n, 0, [], 0, max (10 * k) (10 * (k : Int) + 4).toNat, 10 * k⟩
            rw [show max (10 * k) (10 * (k : Int) + 4).toNat = 10 * k + 4 by omega]
          rintro e w6 ⟨rfl, hP6, hb6⟩
          have HP6 := Lib.hid hP6
          have HB6 := Lib.hid (below_but (below_drewN HB4.out _) hb6 (Nat.le_refl _) (by show w.heap.size ≤ W4.heap.size; omega))
          clear hP6 hb6 HP4
          have hs6 : w.heap.size < w6.heap.size := HP6.out.1.lt
          go_wp2_with fail
          (with_reducible refine (send_state w.heap.size _ _ _ _ HP6.out ?_ ?_ ?_).mono ?_)
          · show n ≠ 0; omega
          · exact ⟨by omega, by omega⟩
          · show (0 : Nat) ≠ 1; decide
          rintro e w7 ⟨rfl, hP7, hb7⟩
          rw [show trZ = #[.slice none 0 0, .int .i64 0, .int .i64 0, .bool false] from rfl]
          have hB7 := Lib.hid (below_but HB6.out hb7.1 (Nat.le_refl _) (by omega))
          have HP7 := Lib.hid hP7
          clear hP7 hb7 HP6 HB6
          go_wp2_with fail
          have hQ7 := HP7.out.below (alloc_below w7 (.cells #[.slice none 0 0, .int .i64 0, .int .i64 0, .bool false] 32))
          (with_reducible refine (state_any w.heap.size _ _ _ hQ7.1 ?_).mono ?_)
          · show n ≠ 0; omega
          rintro e w' ⟨rfl, hw⟩
          subst w'
          have hB8 := Lib.hid (below_new hB7.out (.cells #[.slice none 0 0, .int .i64 0, .int .i64 0, .bool false] 32))
          clear hQ7 HP7 hB7
          go_wp2_with (go_at_call 9; (with_reducible refine (known_any _).mono ?_); rintro e w9 ⟨rfl, hb9⟩)
          go_ret
          exact ⟨rfl, bnext hB8.out hb9⟩
        · have hlI : ((k : Int) == (n : Int) - 1) = false := by simp; omega
          go_wp2_with fail
          (with_reducible refine (fbn_lit w.heap.size v3 _ _ _ _ ⟨n, 1, l, k + 1, 10 * k + 4, 10 * k⟩ (HP4.out.drewN _) ?_ ?_ ?_ ?_ ?_ ?_ ?_).mono ?_)
          · show n ≠ 0; omega
          · exact ⟨by omega, by omega⟩
          · decide
          · exact ⟨by show 10 * k ≤ _; omega, by show 10 * k ≤ _; omega⟩
          · exact ⟨rfl, by show 10 * k + 4 ≤ max (10 * k) (10 * (k : Int) + 4).toNat; omega⟩
          · exact ⟨by show k + 1 ≠ n; omega, by show k ≤ 16; omega⟩
          · show (⟨n, 1, l, k + 1, 10 * k + 4, 10 * k⟩ : Hq) = ⟨n, 1, l, k + 1, max (10 * k) (10 * (k : Int) + 4).toNat, 10 * k⟩
            rw [show max (10 * k) (10 * (k : Int) + 4).toNat = 10 * k + 4 by omega]
          rintro e w6 ⟨rfl, hP6, hb6⟩
          have HP6 := Lib.hid hP6
          have HB6 := Lib.hid (below_but (below_drewN HB4.out _) hb6 (Nat.le_refl _) (by show w.heap.size ≤ W4.heap.size; omega))
          have HO6 := Lib.hid ((show Blk (W4.drewN _) ob ORD 3 from HO4.out).but hb6 (by show ob < W4.heap.size; exact HO4.out.lt) (by omega))
          clear hP6 hb6 HP4
          go_wp2
          exact ⟨⟨k + 1, _, _, by omega, by go_num, by omega, by omega, HP6.out, HO6.out, HB6.out⟩, by simp [intOf]; omega⟩
    · have hzI : (zs.length : Int) ≤ (k : Int) := by omega
      by_cases hlast : k + 1 = n
      · have hlI : ((k : Int) == (n : Int) - 1) = true := by simp; omega
        go_wp2_with fail
        (with_reducible refine (fbx_lit w.heap.size v3 _ _ _ _ ⟨n, 0, [], 0, 10 * k + 4, 10 * k⟩ (HP4.out.drewN _) ?_ ?_ ?_ ?_ ?_ ?_ ?_).mono ?_)
        · show n ≠ 0; omega
        · exact ⟨by omega, by omega⟩
        · decide
        · exact ⟨by show 10 * k ≤ _; omega, by show 10 * k ≤ _; omega⟩
        · exact ⟨rfl, by show 10 * k + 4 ≤ max (10 * k) (10 * (k : Int) + 4).toNat; omega⟩
        · exact ⟨by show k + 1 = n; omega, by show n ≤ 16; omega⟩
        · show (⟨n, 0, [], 0, 10 * k + 4, 10 * k⟩ : Hq) = ⟨n, 0, [], 0, max (10 * k) (10 * (k : Int) + 4).toNat, 10 * k⟩
          rw [show max (10 * k) (10 * (k : Int) + 4).toNat = 10 * k + 4 by omega]
        rintro e w6 ⟨rfl, hP6, hb6⟩
        have HP6 := Lib.hid hP6
        have HB6 := Lib.hid (below_but (below_drewN HB4.out _) hb6 (Nat.le_refl _) (by show w.heap.size ≤ W4.heap.size; omega))
        clear hP6 hb6 HP4
        have hs6 : w.heap.size < w6.heap.size := HP6.out.1.lt
        go_wp2_with fail
        (with_reducible refine (send_state w.heap.size _ _ _ _ HP6.out ?_ ?_ ?_).mono ?_)
        · show n ≠ 0; omega
        · exact ⟨by omega, by omega⟩
        · show (0 : Nat) ≠ 1; decide
        rintro e w7 ⟨rfl, hP7, hb7⟩
        rw [show trZ = #[.slice none 0 0, .int .i64 0, .int .i64 0, .bool false] from rfl]
        have hB7 := Lib.hid (below_but HB6.out hb7.1 (Nat.le_refl _) (by omega))
        have HP7 := Lib.hid hP7
        clear hP7 hb7 HP6 HB6
        go_wp2_with fail
        have hQ7 := HP7.out.below (alloc_below w7 (.cells #[.slice none 0 0, .int .i64 0, .int .i64 0, .bool false] 32))
        (with_reducible refine (state_any w.heap.size _ _ _ hQ7.1 ?_).mono ?_)
        · show n ≠ 0; omega
        rintro e w' ⟨rfl, hw⟩
        subst w'
        have hB8 := Lib.hid (below_new hB7.out (.cells #[.slice none 0 0, .int .i64 0, .int .i64 0, .bool false] 32))
        clear hQ7 HP7 hB7
        go_wp2_with (go_at_call 9; (with_reducible refine (known_any _).mono ?_); rintro e w9 ⟨rfl, hb9⟩)
        go_ret
        exact ⟨rfl, bnext hB8.out hb9⟩
      · have hlI : ((k : Int) == (n : Int) - 1) = false := by simp; omega
        go_wp2_with fail
        (with_reducible refine (fbn_lit w.heap.size v3 _ _ _ _ ⟨n, 1, l, k + 1, 10 * k + 4, 10 * k⟩ (HP4.out.drewN _) ?_ ?_ ?_ ?_ ?_ ?_ ?_).mono ?_)
        · show n ≠ 0; omega
        · exact ⟨by omega, by omega⟩
        · decide
        · exact ⟨by show 10 * k ≤ _; omega, by show 10 * k ≤ _; omega⟩
        · exact ⟨rfl, by show 10 * k + 4 ≤ max (10 * k) (10 * (k : Int) + 4).toNat; omega⟩
        · exact ⟨by show k + 1 ≠ n; omega, by show k ≤ 16; omega⟩
        · show (⟨n, 1, l, k + 1, 10 * k + 4, 10 * k⟩ : Hq) = ⟨n, 1, l, k + 1, max (10 * k) (10 * (k : Int) + 4).toNat, 10 * k⟩
          rw [show max (10 * k) (10 * (k : Int) + 4).toNat = 10 * k + 4 by omega]
        rintro e w6 ⟨rfl, hP6, hb6⟩
        have HP6 := Lib.hid hP6
        have HB6 := Lib.hid (below_but (below_drewN HB4.out _) hb6 (Nat.le_refl _) (by show w.heap.size ≤ W4.heap.size; omega))
        have HO6 := Lib.hid ((show Blk (W4.drewN _) ob ORD 3 from HO4.out).but hb6 (by show ob < W4.heap.size; exact HO4.out.lt) (by omega))
        clear hP6 hb6 HP4
        go_wp2
        exact ⟨⟨k + 1, _, _, by omega, by go_num, by omega, by omega, HP6.out, HO6.out, HB6.out⟩, by simp [intOf]; omega⟩
theorem walk_HarqtxEnds (n : Int) (_ : (Lit.int .i64 n).wf = true) (v1 : Value) (l : List UInt8) (v2 : Value) (zs : List Int) (w : World) (h1 : Bsl w v1 l) (h2 : Isl w v2 zs) :
    Calls Try.prog 3 #[.int .i64 n, v1, v2] w fun e w' => e = .returned (.bool true) ∧ Below w.heap.size w w' := by
  by_cases c0 : n < 1
  · exact ends_out n (.inl c0) v1 l v2 w h1
  · by_cases c1 : 16 < n
    · exact ends_out n (.inr ⟨c0, c1⟩) v1 l v2 w h1
    · by_cases c2 : 100 < l.length
      · exact ends_long n c0 c1 v1 l v2 w h1 c2
      · obtain ⟨n, rfl⟩ : ∃ m : Nat, n = m := ⟨n.toNat, by omega⟩
        by_cases he : loadE (H0 n) l = 0
        · exact ends_good n (by omega) (by omega) v1 l v2 zs w h1 h2 (by omega) he
        · exact ends_bad n (by omega) (by omega) v1 l v2 w h1 (by omega) he
end Go.Proofs.Ythbpmofabcilhaa
