/-
  The statement HarqtxErrors, the walk.
-/
import Derived.Test.YthbpmofabcilhaaHarO
namespace Go.Proofs.Ythbpmofabcilhaa
open Go.RowKit
attribute [-go_sem] Instr.build

theorem okb_get (l : List UInt8) (h : okb l = true) (k : Nat) (hk : k < l.length) : (gd l k).toNat ≤ 1 := by
  rw [okb, List.all_eq_true] at h
  have := h l[k] (List.getElem_mem hk)
  simp only [decide_eq_true_eq, UInt8.le_iff_toNat_le] at this
  have e : gd l k = l[k] := by simp [gd, hk]
  rw [e]; exact this
theorem okb_bad (l : List UInt8) (k : Nat) (hk : k < l.length) (h : 1 < (gd l k).toNat) : okb l = false := by
  cases hc : okb l with
  | false => rfl
  | true => have := okb_get l hc k hk; omega
theorem okb_all (l : List UInt8) (h : ∀ k, k < l.length → (gd l k).toNat ≤ 1) : okb l = true := by
  rw [okb, List.all_eq_true]
  intro x hx
  obtain ⟨k, hk, rfl⟩ := List.getElem_of_mem hx
  have := h k hk
  have e : gd l k = l[k] := by simp [gd, hk]
  rw [e] at this
  simp only [decide_eq_true_eq, UInt8.le_iff_toNat_le]
  exact this
theorem valid_any (l : List UInt8) (a : Option Addr) (cap : Nat) (w : World) (hb : Byt w a l) (hl : l.length ≤ 1000000) :
    Calls Try.prog 20 #[.slice a l.length cap] w fun e w' => e = .returned (.bool (okb l)) ∧ w' = w := by
  go_enter Try.func20, Try.ntmps20
  go_wp2
  go_loop [3] (fun t => ∃ k : Nat, k ≤ l.length ∧ t = .int .i64 k ∧ ∀ i, i < k → (gd l i).toNat ≤ 1) (fun t => l.length - (intOf t).toNat)
  case atStart => exact ⟨0, by omega, rfl, fun i hi => absurd hi (by omega)⟩
  case round =>
    obtain ⟨k, hk, rfl, hp⟩ := hrel
    have HP := Lib.hid hp
    clear hp
    by_cases hlt : k < l.length
    · obtain ⟨b, o, rfl, hbl, hc⟩ := hb (by omega)
      have c0 := hc k hlt
      obtain ⟨x, hx⟩ : ∃ x, x = (gd l k).toNat := ⟨_, rfl⟩
      rw [← hx] at c0
      by_cases hbit : x ≤ 1
      · have hn : ¬ (1 : Int) < (x : Int) := by omega
        have HX := Lib.hid hx
        clear hx hc
        go_wp2
        go_round
        case rel =>
          refine ⟨k + 1, by omega, by go_num, fun i hi => ?_⟩
          rcases Nat.lt_succ_iff_lt_or_eq.1 hi with h | rfl
          · exact HP.out i h
          · rw [← HX.out]; exact hbit
        case measure => simp [intOf]; omega
      · have hn : (1 : Int) < (x : Int) := by omega
        have HX := Lib.hid hx
        clear hx hc
        go_wp2
        go_ret
        rw [okb_bad l k hlt (by rw [← HX.out]; omega)]
        exact ⟨rfl, rfl⟩
    · obtain rfl : k = l.length := by omega
      go_wp2
      go_ret
      rw [okb_all l HP.out]
      exact ⟨rfl, rfl⟩

set_option maxHeartbeats 4000000 in
set_option maxRecDepth 100000 in
theorem errors_early (a : Int) (l m : List UInt8) (al am : Option Addr) (cl cm : Nat) (w : World) (hb1 : Byt w al l) (hb2 : Byt w am m)
    (h : a < 0 ∨ (¬ a < 0 ∧ (6 < a ∨ (¬ 6 < a ∧ (l.length < 1 ∨ (1 ≤ l.length ∧ (50 < l.length ∨ (l.length ≤ 50 ∧ (okb l = false ∨ (okb l = true ∧ (m.length < 1 ∨ (1 ≤ m.length ∧ (50 < m.length ∨ (m.length ≤ 50 ∧ okb m = false)))))))))))))) :
    Calls Try.prog 6 #[.int .i64 a, .slice al l.length cl, .slice am m.length cm] w fun e w' => e = .returned (.bool true) ∧ Below w.heap.size w w' := by
  obtain ⟨x, hx⟩ : ∃ x, x = okb l := ⟨_, rfl⟩
  obtain ⟨y, hy⟩ : ∃ x, x = okb m := ⟨_, rfl⟩
  rw [← hx, ← hy] at h
  have HX := Lib.hid hx
  have HY := Lib.hid hy
  clear hx hy
  rcases h with h | ⟨h0, h | ⟨h1, h | ⟨h2, h | ⟨h3, h | ⟨h4, h | ⟨h5, h | ⟨h6, h⟩⟩⟩⟩⟩⟩⟩
  · go_enter Try.func6, Try.ntmps6
    go_wp2_with (first
      | (go_at_call 9; (with_reducible refine (known_any _).mono ?_); rintro e w9 ⟨rfl, hb9⟩))
    go_ret
    exact ⟨rfl, hb9⟩
  · go_enter Try.func6, Try.ntmps6
    go_wp2_with (first
      | (go_at_call 9; (with_reducible refine (known_any _).mono ?_); rintro e w9 ⟨rfl, hb9⟩))
    go_ret
    exact ⟨rfl, hb9⟩
  · have i0 : (l.length : Int) < 1 := by omega
    go_enter Try.func6, Try.ntmps6
    go_wp2_with (first
      | (go_at_call 9; (with_reducible refine (known_any _).mono ?_); rintro e w9 ⟨rfl, hb9⟩))
    go_ret
    exact ⟨rfl, hb9⟩
  · have i0 : (1 : Int) ≤ l.length := by omega
    have i1 : (50 : Int) < l.length := by omega
    go_enter Try.func6, Try.ntmps6
    go_wp2_with (first
      | (go_at_call 9; (with_reducible refine (known_any _).mono ?_); rintro e w9 ⟨rfl, hb9⟩))
    go_ret
    exact ⟨rfl, hb9⟩
  · have i0 : (1 : Int) ≤ l.length := by omega
    have i1 : (l.length : Int) ≤ 50 := by omega
    go_enter Try.func6, Try.ntmps6
    go_wp2_with (first
      | (go_at_call 20; (with_reducible refine (valid_any l al cl _ hb1 (by omega)).mono ?_); rintro e w' ⟨rfl, hw⟩; subst w'; rw [← HX.out, h])
      | (go_at_call 9; (with_reducible refine (known_any _).mono ?_); rintro e w9 ⟨rfl, hb9⟩))
    go_ret
    exact ⟨rfl, hb9⟩
  · have i0 : (1 : Int) ≤ l.length := by omega
    have i1 : (l.length : Int) ≤ 50 := by omega
    have i2 : (m.length : Int) < 1 := by omega
    go_enter Try.func6, Try.ntmps6
    go_wp2_with (first
      | (go_at_call 20; (with_reducible refine (valid_any l al cl _ hb1 (by omega)).mono ?_); rintro e w' ⟨rfl, hw⟩; subst w'; rw [← HX.out, h4])
      | (go_at_call 9; (with_reducible refine (known_any _).mono ?_); rintro e w9 ⟨rfl, hb9⟩))
    go_ret
    exact ⟨rfl, hb9⟩
  · have i0 : (1 : Int) ≤ l.length := by omega
    have i1 : (l.length : Int) ≤ 50 := by omega
    have i2 : (1 : Int) ≤ m.length := by omega
    have i3 : (50 : Int) < m.length := by omega
    go_enter Try.func6, Try.ntmps6
    go_wp2_with (first
      | (go_at_call 20; (with_reducible refine (valid_any l al cl _ hb1 (by omega)).mono ?_); rintro e w' ⟨rfl, hw⟩; subst w'; rw [← HX.out, h4])
      | (go_at_call 9; (with_reducible refine (known_any _).mono ?_); rintro e w9 ⟨rfl, hb9⟩))
    go_ret
    exact ⟨rfl, hb9⟩
  · have i0 : (1 : Int) ≤ l.length := by omega
    have i1 : (l.length : Int) ≤ 50 := by omega
    have i2 : (1 : Int) ≤ m.length := by omega
    have i3 : (m.length : Int) ≤ 50 := by omega
    go_enter Try.func6, Try.ntmps6
    go_wp2_with (first
      | (go_at_call 20; (with_reducible refine (valid_any l al cl _ hb1 (by omega)).mono ?_); rintro e w' ⟨rfl, hw⟩; subst w'; rw [← HX.out, h4])
      | (go_at_call 20; (with_reducible refine (valid_any m am cm _ hb2 (by omega)).mono ?_); rintro e w' ⟨rfl, hw⟩; subst w'; rw [← HY.out, h])
      | (go_at_call 9; (with_reducible refine (known_any _).mono ?_); rintro e w9 ⟨rfl, hb9⟩))
    go_ret
    exact ⟨rfl, hb9⟩

def MS (l : List UInt8) (k num now sent : Nat) : Hq := ⟨16, if k % 2 = 0 then 1 else 2, l, num, now, sent⟩
set_option maxHeartbeats 4000000 in
set_option maxRecDepth 100000 in
theorem errors_good (a : Nat) (ha : a ≤ 6) (l m : List UInt8) (al am : Option Addr) (cl cm : Nat) (w : World) (hv1 : Bsl w (.slice al l.length cl) l) (hv2 : Bsl w (.slice am m.length cm) m)
    (h1 : 1 ≤ l.length) (h2 : l.length ≤ 50) (h3 : okb l = true) (h4 : 1 ≤ m.length) (h5 : m.length ≤ 50) (h6 : okb m = true) :
    Calls Try.prog 6 #[.int .i64 a, .slice al l.length cl, .slice am m.length cm] w fun e w' => e = .returned (.bool true) ∧ Below w.heap.size w w' := by
  obtain ⟨_, _, he, x1, x2, x3, hb1⟩ := hv1
  cases he
  obtain ⟨_, _, he, y1, y2, y3, hb2⟩ := hv2
  cases he
  have X3 := Lib.hid x3
  have Y3 := Lib.hid y3
  have HL := Lib.hid h3
  have HM := Lib.hid h6
  have HB1 := Lib.hid hb1
  have HB2 := Lib.hid hb2
  have HV1 := Lib.hid (show Bsl w (.slice al l.length cl) l from ⟨al, cl, rfl, x1, x2, x3, hb1⟩)
  have hE0 := Lib.hid (show loadE (H0 16) l = 0 by unfold loadE; rw [if_neg (by omega), if_neg (by rw [h3]; decide), if_neg (by decide)])
  have i1 : (1 : Int) ≤ l.length := by omega
  have i2 : (l.length : Int) ≤ 50 := by omega
  have i3 : (1 : Int) ≤ m.length := by omega
  have i4 : (m.length : Int) ≤ 50 := by omega
  clear x1 x2 x3 y1 y2 y3 hb1 hb2 h3 h6
  go_enter Try.func6, Try.ntmps6
  go_wp2_with (first
    | (go_at_call 20; (with_reducible refine (valid_any l al cl _ HB1.out (by omega)).mono ?_); rintro e w' ⟨rfl, hw⟩; subst w'; rw [HL.out])
    | (go_at_call 20; (with_reducible refine (valid_any m am cm _ HB2.out (by omega)).mono ?_); rintro e w' ⟨rfl, hw⟩; subst w'; rw [HM.out])
    | fail)
  (with_reducible refine (new_lit 16 _ ?_ ?_ ?_ _).mono ?_)
  · rfl
  · decide
  · decide
  rintro e w1 ⟨rfl, hP1, hB1, hs1⟩
  go_wp2_with fail
  (with_reducible refine (load_lit w.heap.size _ _ l l.length _ _ _ (MS l 0 0 0 0) 0 rfl hP1 ?_ (HB1.out.cells hB1) X3.out ?_ ?_ ?_).mono ?_)
  · decide
  · omega
  · rw [hE0.out]; rfl
  · unfold loadS; rw [hE0.out]; rfl
  rintro e w2 ⟨v3, rfl, hP2, ⟨hb2, _⟩⟩
  have hB2 := below_but hB1 hb2 (Nat.le_refl _) hB1.size
  clear hb2 hP1 hB1 hs1 hE0
  go_wp2_with fail
  go_loopw [9] (fun t wr => ∃ (k num now sent : Nat), k ≤ a ∧ t = .int .i64 k ∧ num ≤ k ∧ now ≤ 100 * k ∧ sent ≤ now ∧ (k % 2 = 1 → sent + 4 ≤ 100 * k) ∧ HP wr w.heap.size v3 (MS l k num now sent) ∧ Below w.heap.size w wr) (fun t _ => a - (intOf t).toNat)
  case atStart => exact ⟨0, 0, 0, 0, by omega, rfl, by omega, by omega, by omega, by omega, hP2, hB2⟩
  case round =>
    clear hP2 hB2
    obtain ⟨k, num, now, sent, hk, rfl, hnum, hnow, hsent, hodd, hP, hB⟩ := hrel
    have HP0 := Lib.hid hP
    have HB0 := Lib.hid hB
    have hs0 := hP.1.lt
    clear hP hB
    by_cases hlt : k < a
    · have hkI : (k : Int) < (a : Int) := by omega
      have hk2 : k % 2 = 0 ∨ k % 2 = 1 := by omega
      rcases hk2 with hk2 | hk2
      · have hkb : ((k : Int) % 2 == 0) = true := by simp; omega
        have hst : MS l k num now sent = ⟨16, 1, l, num, now, sent⟩ := by unfold MS; rw [if_pos hk2]
        rw [hst] at HP0
        have HK2 := Lib.hid hk2
        clear hk2 hodd hst
        go_wp2_with fail
        (with_reducible refine (send_lit w.heap.size v3 _ _ _ (MS l (k + 1) num now now) (verF num) num (decide (num = 0)) HP0.out ?_ ?_ ?_ ?_ ?_ ?_ ?_ ?_).mono ?_)
        · exact (by decide : (16 : Nat) ≠ 0)
        · decide
        · rfl
        · show l.length ≤ _; omega
        · rfl
        · rfl
        · rfl
        · unfold MS
          rw [if_neg (by have := HK2.out; omega)]
          show (⟨16, 2, l, num, now, now⟩ : Hq) = ⟨16, 2, l, num, max now (0 : Int).toNat, max now (0 : Int).toNat⟩
          rw [show max now (0 : Int).toNat = now by omega]
        rintro e w3 ⟨A3, k3, c3, rfl, hu3, hP3, hb3⟩
        have hB3 := below_but HB0.out hb3 (Nat.le_refl _) (by omega)
        have HP3 := Lib.hid hP3
        have HB3 := Lib.hid hB3
        clear hP3 hb3 hu3 hB3 HP0 HB0
        go_wp2
        exact ⟨⟨k + 1, num, now, now, by omega, by go_num, by omega, by omega, by omega, fun _ => by omega, HP3.out, HB3.out⟩, by simp [intOf]; omega⟩
      · have hkb : ((k : Int) % 2 == 0) = false := by simp; omega
        have hst : MS l k num now sent = ⟨16, 2, l, num, now, sent⟩ := by unfold MS; rw [if_neg (by omega)]
        rw [hst] at HP0
        have hsn := hodd hk2
        have HK2 := Lib.hid hk2
        clear hk2 hodd hst
        go_wp2_with fail
        (with_reducible refine (fbn_lit w.heap.size v3 _ _ _ _ (MS l (k + 1) (num + 1) (100 * k) sent) HP0.out ?_ ?_ ?_ ?_ ?_ ?_ ?_).mono ?_)
        · exact (by decide : (16 : Nat) ≠ 0)
        · exact ⟨by omega, by omega⟩
        · decide
        · exact ⟨by show sent ≤ _; omega, by show now ≤ _; omega⟩
        · exact ⟨rfl, by show sent + 4 ≤ max now (100 * (k : Int)).toNat; omega⟩
        · exact ⟨by show num + 1 ≠ 16; omega, by show num ≤ 16; omega⟩
        · unfold MS
          rw [if_pos (by have := HK2.out; omega)]
          show (⟨16, 1, l, num + 1, 100 * k, sent⟩ : Hq) = ⟨16, 1, l, num + 1, max now (100 * (k : Int)).toNat, sent⟩
          rw [show max now (100 * (k : Int)).toNat = 100 * k by omega]
        rintro e w3 ⟨rfl, hP3, hb3⟩
        have hB3 := below_but HB0.out hb3 (Nat.le_refl _) (by omega)
        have HP3 := Lib.hid hP3
        have HB3 := Lib.hid hB3
        clear hP3 hb3 hB3 HP0 HB0
        go_wp2
        exact ⟨⟨k + 1, num + 1, 100 * k, sent, by omega, by go_num, by omega, by omega, by omega, fun h => by have := HK2.out; omega, HP3.out, HB3.out⟩, by simp [intOf]; omega⟩
    · obtain rfl : k = a := by omega
      have hst : ∃ s, (s = 1 ∨ s = 2) ∧ MS l k num now sent = ⟨16, s, l, num, now, sent⟩ := by
        unfold MS
        by_cases h : k % 2 = 0
        · rw [if_pos h]; exact ⟨1, .inl rfl, rfl⟩
        · rw [if_neg h]; exact ⟨2, .inr rfl, rfl⟩
      obtain ⟨s, hs, hst⟩ := hst
      rw [hst] at HP0
      have hE := Lib.hid (show loadE ⟨16, s, l, num, now, sent⟩ m = 8 by unfold loadE; rw [if_neg (by omega), if_neg (by rw [HM.out]; decide), if_pos (by show s ≠ 0; omega)])
      clear hst hodd
      rcases hs with rfl | rfl
      · have hd := Lib.hid (show ∀ w', Blk w' w.heap.size (cellsH v3 ⟨16, 1, l, num, now, sent⟩) 64 → Calls Try.prog 16 #[.pointer (some ⟨w.heap.size, 0, none⟩)] w' fun e w'' => e = .returned (.int .i64 (-1)) ∧ w'' = w' from fun w' h => due_any w.heap.size v3 ⟨16, 1, l, num, now, sent⟩ w' h (by show (16 : Nat) ≠ 0; decide) (by show sent ≤ _; omega))
        have hsent4 := IntWalk.i64_in ((sent : Int) + 4) (by omega)
        go_wp2_with (first
          | (go_at_call 14; (with_reducible refine (state_any w.heap.size v3 ⟨16, 1, l, num, now, sent⟩ _ HP0.out.1 (by exact (by decide : (16 : Nat) ≠ 0))).mono ?_); rintro e w' ⟨rfl, hw⟩; subst w')
          | (go_at_call 21; (with_reducible refine (number_any w.heap.size v3 ⟨16, 1, l, num, now, sent⟩ _ HP0.out.1 (by exact (by decide : (16 : Nat) ≠ 0))).mono ?_); rintro e w' ⟨rfl, hw⟩; subst w')
          | (go_at_call 16; (with_reducible refine (hd.out _ HP0.out.1).mono ?_); rintro e w' ⟨rfl, hw⟩; subst w')
          | fail)
        (with_reducible refine (load_lit w.heap.size _ _ m m.length _ _ _ ⟨16, 1, l, num, now, sent⟩ 8 rfl HP0.out ?_ (HB2.out.cells HB0.out) Y3.out ?_ ?_ ?_).mono ?_)
        · exact (by decide : (16 : Nat) ≠ 0)
        · omega
        · rw [hE.out]; rfl
        · unfold loadS; rw [hE.out]; rfl
        rintro e w5 ⟨v5, rfl, hP5, ⟨hb5, _⟩⟩
        have HB5 := Lib.hid (below_but HB0.out hb5 (Nat.le_refl _) (by omega))
        have hs5 := hP5.1.lt
        have HP5 := Lib.hid hP5
        clear hb5 hP5 HP0 HB0 hE hd
        go_wp2_with fail
        (with_reducible refine (fbs_lit w.heap.size _ _ _ _ _ ⟨16, 1, l, num, now, sent⟩ HP5.out ?_ ?_ ?_ ?_ ?_ ?_).mono ?_)
        · exact (by decide : (16 : Nat) ≠ 0)
        · decide
        · decide
        · exact ⟨by show sent ≤ _; omega, by show now ≤ _; omega⟩
        · exact .inl (by show (1 : Nat) ≠ 2; decide)
        · show (⟨16, 1, l, num, now, sent⟩ : Hq) = ⟨16, 1, l, num, max now (0 : Int).toNat, sent⟩
          rw [show max now (0 : Int).toNat = now by omega]
        rintro e w6 ⟨rfl, hP6, hb6⟩
        have HB6 := Lib.hid (below_but HB5.out hb6 (Nat.le_refl _) (by omega))
        have hs6 := hP6.1.lt
        have HP6 := Lib.hid hP6
        clear hb6 hP6 HP5 HB5
        go_wp2_with fail
        (with_reducible refine (load_lit w.heap.size _ _ [] 0 _ _ _ ⟨16, 1, l, num, now, sent⟩ 2 rfl HP6.out ?_ (Byt.nil _ _) (fun _ => rfl) ?_ ?_ ?_).mono ?_)
        · exact (by decide : (16 : Nat) ≠ 0)
        · decide
        · rfl
        · rfl
        rintro e w7 ⟨v7, rfl, hP7, ⟨hb7, _⟩⟩
        have HB7 := Lib.hid (below_but HB6.out hb7 (Nat.le_refl _) (by omega))
        have hs7 := hP7.1.lt
        have HP7 := Lib.hid hP7
        clear hb7 hP7 HP6 HB6
        go_wp2_with fail
        (with_reducible refine (fb_arg w.heap.size _ _ _ _ _ HP7.out ?_ ?_).mono ?_)
        · exact (by decide : (16 : Nat) ≠ 0)
        · exact .inr (.inr (by decide))
        rintro e w' ⟨rfl, hw⟩
        subst w'
        go_wp2_with fail
        (with_reducible refine (send_arg w.heap.size _ _ _ _ HP7.out ?_ ?_).mono ?_)
        · exact (by decide : (16 : Nat) ≠ 0)
        · decide
        rintro e w8 ⟨rfl, hP8, hb8⟩
        rw [show trZ = #[.slice none 0 0, .int .i64 0, .int .i64 0, .bool false] from rfl]
        have HB8 := Lib.hid (below_but HB7.out hb8.1 (Nat.le_refl _) (by omega))
        have hs8 := hP8.1.lt
        have hz := z32
        obtain ⟨W9, hW9⟩ : ∃ W9, W9 = w8.alloc (.cells #[.slice none 0 0, .int .i64 0, .int .i64 0, .bool false] 32) := ⟨_, rfl⟩
        have h89 : Below w8.heap.size w8 W9 := by rw [hW9]; exact alloc_below _ _
        have HP9 := Lib.hid (hP8.below h89)
        have HB9 := Lib.hid (bnext HB8.out h89)
        have HW9 := Lib.hid hW9
        have hd := Lib.hid (show ∀ w', Blk w' w.heap.size (cellsH v7 ⟨16, 1, l, num, now, sent⟩) 64 → Calls Try.prog 16 #[.pointer (some ⟨w.heap.size, 0, none⟩)] w' fun e w'' => e = .returned (.int .i64 (-1)) ∧ w'' = w' from fun w' h => due_any w.heap.size v7 ⟨16, 1, l, num, now, sent⟩ w' h (by show (16 : Nat) ≠ 0; decide) (by show sent ≤ _; omega))
        clear hb8 hP8 HP7 HB7 HB8 h89 hW9
        go_wp2_with (first
          | (go_at_call 14; rw [← HW9.out]; (with_reducible refine (state_any w.heap.size v7 ⟨16, 1, l, num, now, sent⟩ _ HP9.out.1 (by exact (by decide : (16 : Nat) ≠ 0))).mono ?_); rintro e w' ⟨rfl, hw⟩; subst w')
          | (go_at_call 21; (with_reducible refine (number_any w.heap.size v7 ⟨16, 1, l, num, now, sent⟩ _ HP9.out.1 (by exact (by decide : (16 : Nat) ≠ 0))).mono ?_); rintro e w' ⟨rfl, hw⟩; subst w')
          | (go_at_call 16; (with_reducible refine (hd.out _ HP9.out.1).mono ?_); rintro e w' ⟨rfl, hw⟩; subst w')
          | fail)
        (with_reducible refine (drop_ok w.heap.size _ _ _ HP9.out ?_ ?_).mono ?_)
        · exact (by decide : (16 : Nat) ≠ 0)
        · exact (by decide : (1 : Nat) ≠ 0)
        rintro e w10 ⟨rfl, hP10, hb10, hx10⟩
        have HB10 := Lib.hid (below_but HB9.out hb10.1 (Nat.le_refl _) (by have := HB9.out.size; omega))
        have HX10 := Lib.hid hx10
        have HP10 := Lib.hid hP10
        clear hb10 hx10 hP10 HP9 HB9 hd
        go_wp2_with fail
        (with_reducible refine (bsame_eq l _ _ _ HX10.out (HV1.out.below HB10.out) ?_).mono ?_)
        · omega
        rintro e w11 ⟨rfl, j, rfl⟩
        go_wp2_with fail
        (with_reducible refine (state_any w.heap.size _ _ _ (HP10.out.drewN j).1 ?_).mono ?_)
        · exact (by decide : (16 : Nat) ≠ 0)
        rintro e w' ⟨rfl, hw⟩
        subst w'
        go_wp2_with fail
        (with_reducible refine (known_any _).mono ?_)
        rintro e w12 ⟨rfl, hb12⟩
        go_wp2
        go_ret
        exact ⟨rfl, bnext (below_drewN HB10.out j) hb12⟩
      · have hd := Lib.hid (show ∀ w', Blk w' w.heap.size (cellsH v3 ⟨16, 2, l, num, now, sent⟩) 64 → Calls Try.prog 16 #[.pointer (some ⟨w.heap.size, 0, none⟩)] w' fun e w'' => e = .returned (.int .i64 ((sent : Int) + 4)) ∧ w'' = w' from fun w' h => due_any w.heap.size v3 ⟨16, 2, l, num, now, sent⟩ w' h (by show (16 : Nat) ≠ 0; decide) (by show sent ≤ _; omega))
        have hsent4 := IntWalk.i64_in ((sent : Int) + 4) (by omega)
        go_wp2_with (first
          | (go_at_call 14; (with_reducible refine (state_any w.heap.size v3 ⟨16, 2, l, num, now, sent⟩ _ HP0.out.1 (by exact (by decide : (16 : Nat) ≠ 0))).mono ?_); rintro e w' ⟨rfl, hw⟩; subst w')
          | (go_at_call 21; (with_reducible refine (number_any w.heap.size v3 ⟨16, 2, l, num, now, sent⟩ _ HP0.out.1 (by exact (by decide : (16 : Nat) ≠ 0))).mono ?_); rintro e w' ⟨rfl, hw⟩; subst w')
          | (go_at_call 16; (with_reducible refine (hd.out _ HP0.out.1).mono ?_); rintro e w' ⟨rfl, hw⟩; subst w')
          | fail)
        (with_reducible refine (load_lit w.heap.size _ _ m m.length _ _ _ ⟨16, 2, l, num, now, sent⟩ 8 rfl HP0.out ?_ (HB2.out.cells HB0.out) Y3.out ?_ ?_ ?_).mono ?_)
        · exact (by decide : (16 : Nat) ≠ 0)
        · omega
        · rw [hE.out]; rfl
        · unfold loadS; rw [hE.out]; rfl
        rintro e w5 ⟨v5, rfl, hP5, ⟨hb5, _⟩⟩
        have HB5 := Lib.hid (below_but HB0.out hb5 (Nat.le_refl _) (by omega))
        have hs5 := hP5.1.lt
        have HP5 := Lib.hid hP5
        clear hb5 hP5 HP0 HB0 hE hd
        go_wp2_with fail
        (with_reducible refine (send_state w.heap.size _ _ _ _ HP5.out ?_ ?_ ?_).mono ?_)
        · exact (by decide : (16 : Nat) ≠ 0)
        · decide
        · exact (by decide : (2 : Nat) ≠ 1)
        rintro e w6 ⟨rfl, hP6, hb6⟩
        rw [show trZ = #[.slice none 0 0, .int .i64 0, .int .i64 0, .bool false] from rfl]
        rw [show m1F ⟨16, 2, l, num, now, sent⟩ 0 = ⟨16, 2, l, num, now, sent⟩ by show (⟨16, 2, l, num, max now (0 : Int).toNat, sent⟩ : Hq) = _; rw [show max now (0 : Int).toNat = now by omega]] at hP6
        have hb6 := hb6.1
        have HB6 := Lib.hid (below_but HB5.out hb6 (Nat.le_refl _) (by omega))
        have hs6 := hP6.1.lt
        have HP6 := Lib.hid hP6
        clear hb6 hP6 HP5 HB5
        go_wp2_with fail
        (with_reducible refine (load_lit w.heap.size _ _ [] 0 _ _ _ ⟨16, 2, l, num, now, sent⟩ 2 rfl HP6.out ?_ (Byt.nil _ _) (fun _ => rfl) ?_ ?_ ?_).mono ?_)
        · exact (by decide : (16 : Nat) ≠ 0)
        · decide
        · rfl
        · rfl
        rintro e w7 ⟨v7, rfl, hP7, ⟨hb7, _⟩⟩
        have HB7 := Lib.hid (below_but HB6.out hb7 (Nat.le_refl _) (by omega))
        have hs7 := hP7.1.lt
        have HP7 := Lib.hid hP7
        clear hb7 hP7 HP6 HB6
        go_wp2_with fail
        (with_reducible refine (fb_arg w.heap.size _ _ _ _ _ HP7.out ?_ ?_).mono ?_)
        · exact (by decide : (16 : Nat) ≠ 0)
        · exact .inr (.inr (by decide))
        rintro e w' ⟨rfl, hw⟩
        subst w'
        go_wp2_with fail
        (with_reducible refine (send_arg w.heap.size _ _ _ _ HP7.out ?_ ?_).mono ?_)
        · exact (by decide : (16 : Nat) ≠ 0)
        · decide
        rintro e w8 ⟨rfl, hP8, hb8⟩
        rw [show trZ = #[.slice none 0 0, .int .i64 0, .int .i64 0, .bool false] from rfl]
        have HB8 := Lib.hid (below_but HB7.out hb8.1 (Nat.le_refl _) (by omega))
        have hs8 := hP8.1.lt
        have hz := z32
        obtain ⟨W9, hW9⟩ : ∃ W9, W9 = w8.alloc (.cells #[.slice none 0 0, .int .i64 0, .int .i64 0, .bool false] 32) := ⟨_, rfl⟩
        have h89 : Below w8.heap.size w8 W9 := by rw [hW9]; exact alloc_below _ _
        have HP9 := Lib.hid (hP8.below h89)
        have HB9 := Lib.hid (bnext HB8.out h89)
        have HW9 := Lib.hid hW9
        have hd := Lib.hid (show ∀ w', Blk w' w.heap.size (cellsH v7 ⟨16, 2, l, num, now, sent⟩) 64 → Calls Try.prog 16 #[.pointer (some ⟨w.heap.size, 0, none⟩)] w' fun e w'' => e = .returned (.int .i64 ((sent : Int) + 4)) ∧ w'' = w' from fun w' h => due_any w.heap.size v7 ⟨16, 2, l, num, now, sent⟩ w' h (by show (16 : Nat) ≠ 0; decide) (by show sent ≤ _; omega))
        clear hb8 hP8 HP7 HB7 HB8 h89 hW9
        go_wp2_with (first
          | (go_at_call 14; rw [← HW9.out]; (with_reducible refine (state_any w.heap.size v7 ⟨16, 2, l, num, now, sent⟩ _ HP9.out.1 (by exact (by decide : (16 : Nat) ≠ 0))).mono ?_); rintro e w' ⟨rfl, hw⟩; subst w')
          | (go_at_call 21; (with_reducible refine (number_any w.heap.size v7 ⟨16, 2, l, num, now, sent⟩ _ HP9.out.1 (by exact (by decide : (16 : Nat) ≠ 0))).mono ?_); rintro e w' ⟨rfl, hw⟩; subst w')
          | (go_at_call 16; (with_reducible refine (hd.out _ HP9.out.1).mono ?_); rintro e w' ⟨rfl, hw⟩; subst w')
          | fail)
        (with_reducible refine (drop_ok w.heap.size _ _ _ HP9.out ?_ ?_).mono ?_)
        · exact (by decide : (16 : Nat) ≠ 0)
        · exact (by decide : (2 : Nat) ≠ 0)
        rintro e w10 ⟨rfl, hP10, hb10, hx10⟩
        have HB10 := Lib.hid (below_but HB9.out hb10.1 (Nat.le_refl _) (by have := HB9.out.size; omega))
        have HX10 := Lib.hid hx10
        have HP10 := Lib.hid hP10
        clear hb10 hx10 hP10 HP9 HB9 hd
        go_wp2_with fail
        (with_reducible refine (bsame_eq l _ _ _ HX10.out (HV1.out.below HB10.out) ?_).mono ?_)
        · omega
        rintro e w11 ⟨rfl, j, rfl⟩
        go_wp2_with fail
        (with_reducible refine (state_any w.heap.size _ _ _ (HP10.out.drewN j).1 ?_).mono ?_)
        · exact (by decide : (16 : Nat) ≠ 0)
        rintro e w' ⟨rfl, hw⟩
        subst w'
        go_wp2_with fail
        (with_reducible refine (known_any _).mono ?_)
        rintro e w12 ⟨rfl, hb12⟩
        go_wp2
        go_ret
        exact ⟨rfl, bnext (below_drewN HB10.out j) hb12⟩
theorem walk_HarqtxErrors (a : Int) (_ : (Lit.int .i64 a).wf = true) (v1 : Value) (l : List UInt8) (v2 : Value) (m : List UInt8) (w : World) (h1 : Bsl w v1 l) (h2 : Bsl w v2 m) :
    Calls Try.prog 6 #[.int .i64 a, v1, v2] w fun e w' => e = .returned (.bool true) ∧ Below w.heap.size w w' := by
  have h1' := h1
  have h2' := h2
  obtain ⟨al, cl, rfl, _, _, _, hb1⟩ := h1
  obtain ⟨am, cm, rfl, _, _, _, hb2⟩ := h2
  have E := errors_early a l m al am cl cm w hb1 hb2
  by_cases c0 : a < 0
  · exact E (.inl c0)
  by_cases c1 : 6 < a
  · exact E (.inr ⟨c0, .inl c1⟩)
  by_cases c2 : l.length < 1
  · exact E (.inr ⟨c0, .inr ⟨c1, .inl c2⟩⟩)
  have d2 : 1 ≤ l.length := by omega
  by_cases c3 : 50 < l.length
  · exact E (.inr ⟨c0, .inr ⟨c1, .inr ⟨d2, .inl c3⟩⟩⟩)
  have d3 : l.length ≤ 50 := by omega
  cases c4 : okb l with
  | false => exact E (.inr ⟨c0, .inr ⟨c1, .inr ⟨d2, .inr ⟨d3, .inl c4⟩⟩⟩⟩)
  | true =>
    by_cases c5 : m.length < 1
    · exact E (.inr ⟨c0, .inr ⟨c1, .inr ⟨d2, .inr ⟨d3, .inr ⟨c4, .inl c5⟩⟩⟩⟩⟩)
    have d5 : 1 ≤ m.length := by omega
    by_cases c6 : 50 < m.length
    · exact E (.inr ⟨c0, .inr ⟨c1, .inr ⟨d2, .inr ⟨d3, .inr ⟨c4, .inr ⟨d5, .inl c6⟩⟩⟩⟩⟩⟩)
    have d6 : m.length ≤ 50 := by omega
    cases c7 : okb m with
    | false => exact E (.inr ⟨c0, .inr ⟨c1, .inr ⟨d2, .inr ⟨d3, .inr ⟨c4, .inr ⟨d5, .inr ⟨d6, c7⟩⟩⟩⟩⟩⟩⟩)
    | true =>
      obtain ⟨a, rfl⟩ : ∃ n : Nat, a = n := ⟨a.toNat, by omega⟩
      exact errors_good a (by omega) l m al am cl cm w h1' h2' d2 d3 c4 d5 d6 c7
end Go.Proofs.Ythbpmofabcilhaa
