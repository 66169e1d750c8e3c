/-
  AES, the key schedule: the walk of the reference's.
-/
import Derived.Test.YtdgmahgidmjniaaAesN
import Derived.Test.YtdgmahgidmjniaaTail
namespace Go.Proofs.Ytdgmahgidmjniaa
open Go.RowKit

theorem x8_assoc (a b c : UInt8) : x8 (x8 a b) c = x8 a (x8 b c) := UInt8.xor_assoc a b c
/-- The word that is added ahead of word j + 4. -/
def tF (key : List UInt8) (j k : Nat) : UInt8 :=
  if j % 4 = 0 then (if k = 0 then x8 (sbox (gd (ksL key (4 * j)) (4 * j + 13))) (rc (j / 4 + 1)) else sbox (gd (ksL key (4 * j)) (4 * j + (12 + (k + 1) % 4))))
  else gd (ksL key (4 * j)) (4 * j + (12 + k))
theorem next_tF (key : List UInt8) (hk : key.length = 16) (j k : Nat) (h4 : k < 4) :
    ksNext (ksL key (4 * j + k)) = x8 (gd (stK key (4 * j + k)) (4 * j + k)) (tF key j k) := by
  have hl := ksL_length key hk (4 * j + k)
  have e1 : 16 + (4 * j + k) - 16 = 4 * j + k := by omega
  rw [stK_get key hk _ _ (by omega), ksNext, hl, e1, tF]
  by_cases hj : j % 4 = 0
  · rw [if_pos hj]
    by_cases h0 : k = 0
    · subst h0
      rw [if_pos (by omega), if_pos rfl, x8_assoc, show 16 + (4 * j + 0) - 3 = 4 * j + 13 from by omega, show (16 + (4 * j + 0)) / 16 = j / 4 + 1 from by omega]
      rfl
    · rw [if_neg (by omega), if_neg h0, if_pos (by omega), show (16 + (4 * j + k)) / 16 * 16 - 4 + ((16 + (4 * j + k)) % 16 + 1) % 4 = 4 * j + (12 + (k + 1) % 4) from by omega,
        ksL_stable key hk (4 * j) k (4 * j + (12 + (k + 1) % 4)) (by omega)]
  · rw [if_neg hj, if_neg (by omega), if_neg (by omega), show 16 + (4 * j + k) - 4 = 4 * j + (12 + k) from by omega, ksL_stable key hk (4 * j) k (4 * j + (12 + k)) (by omega)]
theorem dbl_gmul (x : UInt8) : gmul x 2 = dbl x := by revert x; apply u8_all; decide +kernel
theorem mul2_ref (x : UInt8) (w : World) : Calls Try.prog 32 #[.int .u8 x.toNat, .int .u8 2] w fun e w' => e = .returned (.int .u8 (dbl x).toNat) ∧ w = w' := by
  have := refmul_any x 2 w
  rwa [dbl_gmul] at this
theorem zero88 : (Try.prog.info? 88).map (fun i => (i.zero, i.size)) = some (some (.agg (bytesV Z176)), 176) := by kernel_rfl
theorem zero89 : (Try.prog.info? 89).map (fun i => (i.zero, i.size)) = some (some (.agg #[.int .u8 0, .int .u8 0, .int .u8 0, .int .u8 0]), 4) := by kernel_rfl
theorem row89 : RowTy Try.prog 89 4 := ⟨⟨_, Try.underlying89, rfl⟩, by kernel_rfl⟩
theorem run_build89 (a b c d : UInt8) (w : World) : (Instr.build 89 #[(0, .int .u8 a.toNat), (1, .int .u8 b.toNat), (2, .int .u8 c.toNat), (3, .int .u8 d.toNat)]).run Try.prog w = .ok (.agg #[.int .u8 a.toNat, .int .u8 b.toNat, .int .u8 c.toNat, .int .u8 d.toNat]) w := by
  kernel_rfl
theorem sb_quiet (b : UInt8) (w : World) : Calls Try.prog 35 #[.int .u8 b.toNat] w (Drawn (.int .u8 (sbox b).toNat) w) := by
  have := rsbox_quiet b w
  rwa [rsbox_eq] at this
theorem take_set_succ (l z : List UInt8) (i : Nat) (hi : i < l.length) (hz : l.length ≤ z.length) : (l.take i ++ z.drop i).set i (gd l i) = l.take (i + 1) ++ z.drop (i + 1) := by
  apply ext_gd
  · simp; omega
  · intro j hj
    have hlen : (l.take i).length = i := by simp; omega
    have hlen' : (l.take (i + 1)).length = i + 1 := by simp; omega
    rw [gd_set _ _ _ _ (by simp; omega)]
    split
    · rename_i e; subst e
      rw [gd_append_left _ _ _ (by omega), gd_take _ _ _ (by omega)]
    · rcases Nat.lt_or_ge j i with h | h
      · rw [gd_append_left _ _ _ (by omega), gd_append_left _ _ _ (by omega), gd_take _ _ _ (by omega), gd_take _ _ _ (by omega)]
      · rw [gd_append_right _ _ _ (by omega), gd_append_right _ _ _ (by omega), gd_drop, gd_drop]
        congr 1; omega

set_option maxRecDepth 100000 in
set_option maxHeartbeats 8000000 in
theorem refkeys_any (key : List UInt8) (hk : key.length = 16) (w : World) :
    Calls Try.prog 38 #[.agg (bytesV key)] w fun e w' => e = .returned (.agg (bytesV (ksL key 160))) ∧ Below w.heap.size w w' := by
  have z1 : ∀ w, (zeroValue 44).run Try.prog w = .ok (.agg (bytesV Z176)) w := (zero_of_info zero44).1
  have z2 : ∀ w, (zeroValue 88).run Try.prog w = .ok (.agg (bytesV Z176)) w := (zero_of_info zero88).1
  have z3 : ∀ w, (zeroValue 89).run Try.prog w = .ok (.agg #[.int .u8 0, .int .u8 0, .int .u8 0, .int .u8 0]) w := (zero_of_info zero89).1
  have hK := Lib.hid hk
  clear hk
  obtain ⟨W, hW⟩ : ∃ W, W = ((w.alloc (.cells (bytesV key) 22)).alloc (.cells (bytesV Z176) 44)).alloc (.cells (bytesV Z176) 88) := ⟨_, rfl⟩
  have h0 : Blk W w.heap.size (bytesV key) 22 := by rw [hW]; exact ((Blk.new' rfl).alloc _).alloc _
  have h1 : Blk W (w.heap.size + 1) (bytesV Z176) 44 := by rw [hW]; exact (Blk.new' (by simp)).alloc _
  have h2 : Blk W (w.heap.size + 1 + 1) (bytesV (key.take 0 ++ Z176.drop 0)) 88 := by rw [hW]; exact Blk.new' (by simp)
  have hB : Below w.heap.size w W := by rw [hW]; exact (((Below.refl _ _).alloc (Nat.le_refl _) _).alloc (by simp) _).alloc (by simp; omega) _
  have HW := Lib.hid hW
  clear hW
  go_enter Try.func38, Try.ntmps38
  go_wp2_with fail
  rw [← HW.out]
  go_loopw [4] (fun t4 wr => ∃ i : Nat, i ≤ 16 ∧ t4 = .int .i64 i ∧ Blk wr w.heap.size (bytesV key) 22 ∧ Blk wr (w.heap.size + 1) (bytesV Z176) 44 ∧ Blk wr (w.heap.size + 1 + 1) (bytesV (key.take i ++ Z176.drop i)) 88 ∧ Below w.heap.size w wr) (fun t _ => 16 - (intOf t).toNat)
  case atStart => exact ⟨0, by omega, rfl, h0, h1, h2, hB⟩
  case round =>
    clear h0 h1 h2 hB HW z1 z2
    obtain ⟨i, hi, rfl, b0, b1, b2, hB⟩ := hrel
    by_cases hlt : i < 16
    · have c0 := b0.gd i (by rw [hK.out]; exact hlt)
      have hl2 : (key.take i ++ Z176.drop i).length = 176 := by rw [List.length_append, List.length_take, List.length_drop, hK.out, Z176, List.length_replicate]; omega
      obtain ⟨u, hu⟩ : ∃ u, wr.cell? ⟨w.heap.size + 1 + 1, i, none⟩ = some u := ⟨_, b2.gd i (by omega)⟩
      have hf := b2.frozen i
      have hset := b2.set i (B (gd key i))
      rw [bytesV_set, take_set_succ _ _ _ (by rw [hK.out]; exact hlt) (by rw [hK.out, Z176, List.length_replicate]; omega)] at hset
      have Hl2 := Lib.hid hl2
      clear hl2
      go_wp2
      exact ⟨⟨i + 1, by omega, by go_num, b0.set_other (by simp; omega) _, b1.set_other (by simp) _, hset, hB.setCell (by simp; omega) _⟩, by simp [intOf]; omega⟩
    · obtain rfl : i = 16 := by omega
      have e0 : key.take 16 ++ Z176.drop 16 = stK key (4 * 0) := by
        rw [List.take_of_length_le (by rw [hK.out]; exact Nat.le_refl _), Z176_drop]; rfl
      rw [e0] at b2
      go_wp2
      have hB1 := hB
      clear b0 hB
      go_loopw [5, 6] (fun t5 t6 wr => ∃ j i : Nat, Hid (i = j + 4) ∧ j ≤ 40 ∧ t5 = .int .u8 (rc ((j + 3) / 4 + 1)).toNat ∧ t6 = .int .i64 i ∧ Blk wr (w.heap.size + 1) (bytesV Z176) 44 ∧ Blk wr (w.heap.size + 1 + 1) (bytesV (stK key (4 * j))) 88 ∧ Below w.heap.size w wr) (fun _ t _ => 44 - (intOf t).toNat)
      case atStart => exact ⟨0, 4, rfl, by omega, rfl, rfl, b1, b2, hB1⟩
      case round =>
        clear b1 b2 hB1
        obtain ⟨j, i, Hi, hj, rfl, rfl, b1, b2, hB⟩ := hrel
        have hi4 : 4 ≤ i := by rw [Hi.out]; omega
        have hi44 : i ≤ 44 := by rw [Hi.out]; omega
        by_cases hlt : i < 44
        · have hj40 : j < 40 := by have := Hi.out; omega
          have hl := stK_length key hK.out (4 * j) (by omega)
          have cA : ∀ (z d : Nat), 12 ≤ d → d < 16 → d + z = 16 → wr.cell? ⟨w.heap.size + 1 + 1, 4 * i - z, none⟩ = some (.int .u8 (gd (ksL key (4 * j)) (4 * j + d)).toNat) := fun z d h1 h4 hz => by
            rw [show 4 * i - z = 4 * j + d from by have := Hi.out; omega, b2.gd _ (by omega), stK_get key hK.out _ _ (by omega)]
          have c1 := cA 1 15 (by omega) (by omega) (by omega)
          have c2 := cA 2 14 (by omega) (by omega) (by omega)
          have c3 := cA 3 13 (by omega) (by omega) (by omega)
          have c4 := cA 4 12 (by omega) (by omega) (by omega)
          clear cA
          have k0 : IntKind.i64.wrap (4 * (i : Int)) = 4 * (i : Int) := IntWalk.i64_in _ (by omega)
          have k1 : IntKind.i64.wrap (4 * (i : Int) - 1) = 4 * (i : Int) - 1 := IntWalk.i64_in _ (by omega)
          have k2 : IntKind.i64.wrap (4 * (i : Int) - 2) = 4 * (i : Int) - 2 := IntWalk.i64_in _ (by omega)
          have k3 : IntKind.i64.wrap (4 * (i : Int) - 3) = 4 * (i : Int) - 3 := IntWalk.i64_in _ (by omega)
          have k4 : IntKind.i64.wrap (4 * (i : Int) - 4) = 4 * (i : Int) - 4 := IntWalk.i64_in _ (by omega)
          have l1 : 4 * (i : Int) - 1 < 176 := by omega
          have l2 : 4 * (i : Int) - 2 < 176 := by omega
          have l3 : 4 * (i : Int) - 3 < 176 := by omega
          have l4 : 4 * (i : Int) - 4 < 176 := by omega
          have g1 : 1 ≤ 4 * (i : Int) := by omega
          have t1 : (4 * (i : Int) - 1).toNat = 4 * i - 1 := by omega
          have g2 : 2 ≤ 4 * (i : Int) := by omega
          have t2 : (4 * (i : Int) - 2).toNat = 4 * i - 2 := by omega
          have g3 : 3 ≤ 4 * (i : Int) := by omega
          have t3 : (4 * (i : Int) - 3).toNat = 4 * i - 3 := by omega
          have g4 : 4 ≤ 4 * (i : Int) := by omega
          have t4 : (4 * (i : Int) - 4).toNat = 4 * i - 4 := by omega
          have hbd := fun a b c d w => run_build89 a b c d w
          have cal : ∀ (o : Obj) {x : Nat}, (wr.alloc o).drew.cell? ⟨w.heap.size + 1 + 1, x, none⟩ = wr.cell? ⟨w.heap.size + 1 + 1, x, none⟩ := fun o {x} => World.cell?_alloc_past _ _ _ b2.lt
          go_wp2_with fail
          go_region_held3 (fun w' => w'.cell? ⟨w.heap.size + 1 + 1, 4 * i - 1, none⟩ = some (.int .u8 (gd (ksL key (4 * j)) (4 * j + 15)).toNat) ∧
            w'.cell? ⟨w.heap.size + 1 + 1, 4 * i - 2, none⟩ = some (.int .u8 (gd (ksL key (4 * j)) (4 * j + 14)).toNat) ∧
            w'.cell? ⟨w.heap.size + 1 + 1, 4 * i - 3, none⟩ = some (.int .u8 (gd (ksL key (4 * j)) (4 * j + 13)).toNat) ∧
            w'.cell? ⟨w.heap.size + 1 + 1, 4 * i - 4, none⟩ = some (.int .u8 (gd (ksL key (4 * j)) (4 * j + 12)).toNat)) (first | exact ⟨c1, c2, c3, c4⟩ | exact ⟨(cal _).trans c1, (cal _).trans c2, (cal _).trans c3, (cal _).trans c4⟩) (fail)
          obtain ⟨x0, hx0⟩ : ∃ x, x = gd (ksL key (4 * j)) (4 * j + 12) := ⟨_, rfl⟩
          obtain ⟨x1, hx1⟩ : ∃ x, x = gd (ksL key (4 * j)) (4 * j + 13) := ⟨_, rfl⟩
          obtain ⟨x2, hx2⟩ : ∃ x, x = gd (ksL key (4 * j)) (4 * j + 14) := ⟨_, rfl⟩
          obtain ⟨x3, hx3⟩ : ∃ x, x = gd (ksL key (4 * j)) (4 * j + 15) := ⟨_, rfl⟩
          rw [← hx0, ← hx1, ← hx2, ← hx3]
          have X0 := Lib.hid hx0
          have X1 := Lib.hid hx1
          have X2 := Lib.hid hx2
          have X3 := Lib.hid hx3
          clear hx0 hx1 hx2 hx3 c1 c2 c3 c4 k0 k1 k2 k3 k4 l1 l2 l3 l4 g1 g2 g3 g4 t1 t2 t3 t4 cal
          obtain ⟨W2, hW2⟩ : ∃ W2, W2 = (wr.alloc (.cells #[.int .u8 x0.toNat, .int .u8 x1.toNat, .int .u8 x2.toNat, .int .u8 x3.toNat] 89)).drew := ⟨_, rfl⟩
          rw [← hW2]
          have bT : Blk W2 wr.heap.size (bytesV [x0, x1, x2, x3]) 89 := by rw [hW2]; exact (Blk.new' rfl).drew
          have bo := (b1.alloc (.cells #[.int .u8 x0.toNat, .int .u8 x1.toNat, .int .u8 x2.toNat, .int .u8 x3.toNat] 89)).drew
          have bw := (b2.alloc (.cells #[.int .u8 x0.toNat, .int .u8 x1.toNat, .int .u8 x2.toNat, .int .u8 x3.toNat] 89)).drew
          have bB := (hB.alloc hB.size (.cells #[.int .u8 x0.toNat, .int .u8 x1.toNat, .int .u8 x2.toNat, .int .u8 x3.toNat] 89)).drew
          have bsz := b2.lt
          rw [← hW2] at bo bw bB
          clear b1 b2 hB hW2
          obtain ⟨T, hT⟩ : ∃ T, T = wr.heap.size := ⟨_, rfl⟩
          rw [← hT] at bT bsz ⊢
          clear hT
          have hx8 := bits_x8
          by_cases hm : j % 4 = 0
          case' pos =>
            have ht : ((i : Int) % 4 == 0) = true := by have := Hi.out; simp; omega
            have ct0 : W2.cell? ⟨T, 0, none⟩ = some (.int .u8 x0.toNat) := bT.gd 0 (by simp)
            have ct1 : W2.cell? ⟨T, 1, none⟩ = some (.int .u8 x1.toNat) := bT.gd 1 (by simp)
            have ct2 : W2.cell? ⟨T, 2, none⟩ = some (.int .u8 x2.toNat) := bT.gd 2 (by simp)
            have ct3 : W2.cell? ⟨T, 3, none⟩ = some (.int .u8 x3.toNat) := bT.gd 3 (by simp)
            have f0 := bT.frozen 0
            have f1 := bT.frozen 1
            have f2 := bT.frozen 2
            have f3 := bT.frozen 3
            go_wp2_with fail
            refine wp_region_quiet_tail 15 (by kernel_rfl) (by kernel_rfl) ?_
            simp only [List.take_succ_cons, List.take_zero, List.drop_succ_cons, List.drop_zero]
            repeat (first | go_big_quiet_step ((go_at_call 35; exact quiet_drawn (sb_quiet _ _))) | quiet_step ((go_at_call 35; exact quiet_drawn (sb_quiet _ _))))
            refine wpQuiet_nil ?_
            intro q
            go_wp2_with (go_at_call 32; refine (mul2_ref _ _).mono ?_; rintro e w' ⟨rfl, rfl⟩)
            obtain ⟨y0, hy0⟩ : ∃ y, y = x8 (sbox x1) (rc ((j + 3) / 4 + 1)) := ⟨_, rfl⟩
            obtain ⟨y1, hy1⟩ : ∃ y, y = sbox x2 := ⟨_, rfl⟩
            obtain ⟨y2, hy2⟩ : ∃ y, y = sbox x3 := ⟨_, rfl⟩
            obtain ⟨y3, hy3⟩ : ∃ y, y = sbox x0 := ⟨_, rfl⟩
            rw [← hy0, ← hy1, ← hy2, ← hy3]
            have Y0 := Lib.hid (show y0 = tF key j 0 by rw [hy0, X1.out, tF, if_pos hm, if_pos rfl, show (j + 3) / 4 = j / 4 from by omega])
            have Y1 := Lib.hid (show y1 = tF key j 1 by rw [hy1, X2.out, tF, if_pos hm, if_neg (by omega)])
            have Y2 := Lib.hid (show y2 = tF key j 2 by rw [hy2, X3.out, tF, if_pos hm, if_neg (by omega)])
            have Y3 := Lib.hid (show y3 = tF key j 3 by rw [hy3, X0.out, tF, if_pos hm, if_neg (by omega)])
            have bT' := (((((bT : Blk (W2.drewN q) T _ 89).set 0 (B y0)).set 1 (B y1)).set 2 (B y2)).set 3 (B y3))
            rw [bytesV_set, bytesV_set, bytesV_set, bytesV_set] at bT'
            have bo' := (((((bo : Blk (W2.drewN q) _ _ 44).set_other (p := ⟨T, 0, none⟩) (by simp; omega) (B y0)).set_other (p := ⟨T, 1, none⟩) (by simp; omega) (B y1)).set_other (p := ⟨T, 2, none⟩) (by simp; omega) (B y2)).set_other (p := ⟨T, 3, none⟩) (by simp; omega) (B y3))
            have bw' := (((((bw : Blk (W2.drewN q) _ _ 88).set_other (p := ⟨T, 0, none⟩) (by simp; omega) (B y0)).set_other (p := ⟨T, 1, none⟩) (by simp; omega) (B y1)).set_other (p := ⟨T, 2, none⟩) (by simp; omega) (B y2)).set_other (p := ⟨T, 3, none⟩) (by simp; omega) (B y3))
            have bB' := (((((below_drewN bB q).setCell (p := ⟨T, 0, none⟩) (by simp; omega) (B y0)).setCell (p := ⟨T, 1, none⟩) (by simp; omega) (B y1)).setCell (p := ⟨T, 2, none⟩) (by simp; omega) (B y2)).setCell (p := ⟨T, 3, none⟩) (by simp; omega) (B y3))
            have hpow := Lib.hid (show dbl (rc ((j + 3) / 4 + 1)) = rc ((j + 1 + 3) / 4 + 1) by rw [← rc_succ _ (by omega)]; congr 1; omega)
            clear ct0 ct1 ct2 ct3 f0 f1 f2 f3 hy0 hy1 hy2 hy3 bT bo bw bB ht
          case' neg =>
            have ht : ((i : Int) % 4 == 0) = false := by have := Hi.out; simp; omega
            obtain ⟨y0, hy0⟩ : ∃ y, y = x0 := ⟨_, rfl⟩
            obtain ⟨y1, hy1⟩ : ∃ y, y = x1 := ⟨_, rfl⟩
            obtain ⟨y2, hy2⟩ : ∃ y, y = x2 := ⟨_, rfl⟩
            obtain ⟨y3, hy3⟩ : ∃ y, y = x3 := ⟨_, rfl⟩
            have Y0 := Lib.hid (show y0 = tF key j 0 by rw [hy0, X0.out, tF, if_neg hm])
            have Y1 := Lib.hid (show y1 = tF key j 1 by rw [hy1, X1.out, tF, if_neg hm])
            have Y2 := Lib.hid (show y2 = tF key j 2 by rw [hy2, X2.out, tF, if_neg hm])
            have Y3 := Lib.hid (show y3 = tF key j 3 by rw [hy3, X3.out, tF, if_neg hm])
            have bT' : Blk W2 T (bytesV [y0, y1, y2, y3]) 89 := by rw [hy0, hy1, hy2, hy3]; exact bT
            have bo' := bo
            have bw' := bw
            have bB' := bB
            have hpow := Lib.hid (show rc ((j + 3) / 4 + 1) = rc ((j + 1 + 3) / 4 + 1) by congr 1; omega)
            clear hy0 hy1 hy2 hy3 bT bo bw bB
            go_wp2_with fail
          all_goals
            rw [hpow.out]
            have hy : ∀ k, k < 4 → gd [y0, y1, y2, y3] k = tF key j k := fun k hk => by
              rcases (show k = 0 ∨ k = 1 ∨ k = 2 ∨ k = 3 by omega) with rfl | rfl | rfl | rfl
              · exact Y0.out
              · exact Y1.out
              · exact Y2.out
              · exact Y3.out
            have HY := Lib.hid hy
            clear hy hm hpow
            go_loopw [8] (fun t8 wk => ∃ k : Nat, k ≤ 4 ∧ t8 = .int .i64 k ∧ Blk wk T (bytesV [y0, y1, y2, y3]) 89 ∧ Blk wk (w.heap.size + 1) (bytesV Z176) 44 ∧ Blk wk (w.heap.size + 1 + 1) (bytesV (stK key (4 * j + k))) 88 ∧ Below w.heap.size w wk) (fun t _ => 4 - (intOf t).toNat)
            case atStart => exact ⟨0, by omega, rfl, bT', bo', bw', bB'⟩
            case round =>
              clear bT' bo' bw' bB'
              obtain ⟨k, hk, rfl, cT, co, cw, cB⟩ := hrel
              by_cases hk4 : k < 4
              · have hlk := stK_length key hK.out (4 * j + k) (by omega)
                have d1 := cw.gd (4 * i + k - 16) (by have := Hi.out; omega)
                have d2 := cT.gd k (by simp; omega)
                obtain ⟨u, hu⟩ : ∃ u, wr.cell? ⟨w.heap.size + 1 + 1, 4 * i + k, none⟩ = some u := ⟨_, cw.gd _ (by have := Hi.out; omega)⟩
                have hf := cw.frozen (4 * i + k)
                have k0 : IntKind.i64.wrap (4 * (i : Int)) = 4 * (i : Int) := IntWalk.i64_in _ (by omega)
                have k1 : IntKind.i64.wrap (4 * (i : Int) + (k : Int)) = 4 * (i : Int) + (k : Int) := IntWalk.i64_in _ (by omega)
                have k2 : IntKind.i64.wrap (4 * (i : Int) + (k : Int) - 16) = 4 * (i : Int) + (k : Int) - 16 := IntWalk.i64_in _ (by omega)
                have g1 : 16 ≤ 4 * (i : Int) + (k : Int) := by omega
                have g2 : 4 * (i : Int) + (k : Int) - 16 < 176 := by omega
                have g3 : 4 * (i : Int) + (k : Int) < 176 := by omega
                have g4 : 0 ≤ 4 * (i : Int) + (k : Int) := by omega
                have g5 : 0 ≤ 4 * (i : Int) + (k : Int) - 16 := by omega
                have t1 : (4 * (i : Int) + (k : Int) - 16).toNat = 4 * i + k - 16 := by omega
                have t2 : (4 * (i : Int) + (k : Int)).toNat = 4 * i + k := by omega
                have hset : Blk (wr.drew.setCell ⟨w.heap.size + 1 + 1, 4 * i + k, none⟩ (.int .u8 (x8 (gd (stK key (4 * j + k)) (4 * i + k - 16)) (gd [y0, y1, y2, y3] k)).toNat)) (w.heap.size + 1 + 1) (bytesV (stK key (4 * j + (k + 1)))) 88 := by
                  have h1 := cw.drew.set (4 * i + k) (B (ksNext (ksL key (4 * j + k))))
                  rw [bytesV_set, show 4 * i + k = 16 + (4 * j + k) from by have := Hi.out; omega, stK_set key hK.out _ (by omega)] at h1
                  rw [HY.out k hk4, show 4 * i + k - 16 = 4 * j + k from by have := Hi.out; omega, ← next_tF key hK.out j k hk4, show 4 * i + k = 16 + (4 * j + k) from by have := Hi.out; omega]
                  exact h1
                go_wp2_with fail
                go_still_tail 15, (by kernel_rfl)
                change wpList _ _ _ _ _ wr.drew
                clear k0 k1 k2 g1 g2 g5 t1
                go_wp2
                refine ⟨⟨k + 1, by omega, by go_num, cT.drew.set_other (by simp; omega) _, co.drew.set_other (by simp) _, hset, (cB.drew).setCell (by simp; omega) _⟩, by simp [intOf]; omega⟩
              · obtain rfl : k = 4 := by omega
                have e4 : 4 * j + 4 = 4 * (j + 1) := by omega
                rw [e4] at cw
                go_wp2
                have hij : Hid (i + 1 = j + 1 + 4) := by have := Hi.out; show i + 1 = j + 1 + 4; omega
                refine ⟨?_, by simp [intOf]; omega⟩
                first | exact ⟨j + 1, i + 1, hij, by omega, rfl, by go_num, co, cw, cB⟩ | ((repeat apply Exists.intro); exact ⟨⟨j + 1, i + 1, hij, by omega, rfl, by go_num, co, cw, cB⟩, rfl⟩)
        · obtain rfl : i = 44 := by omega
          obtain rfl : j = 40 := by have := Hi.out; omega
          have hend : stK key (4 * 40) = ksL key 160 := by simp [stK]
          rw [hend] at b2
          obtain ⟨K, hKK⟩ : ∃ K, K = ksL key 160 := ⟨_, rfl⟩
          have hKl := Lib.hid (show K.length = 176 by rw [hKK, ksL_length key hK.out])
          have HKK := Lib.hid hKK
          rw [← hKK] at b2
          have z1 : ∀ w, (zeroValue 44).run Try.prog w = .ok (.agg (bytesV Z176)) w := (zero_of_info zero44).1
          clear hend hKK hlt hi44 hi4 hj Hi
          have c0 : Blk (wr.alloc (.cells (bytesV Z176) 44)) wr.heap.size (bytesV (K.take 0 ++ Z176.drop 0)) 44 := Blk.new' rfl
          have c1 := b1.alloc (.cells (bytesV Z176) 44)
          have c2 := b2.alloc (.cells (bytesV Z176) 44)
          have c3 := hB.alloc hB.size (.cells (bytesV Z176) 44)
          have hlt2 := b2.lt
          clear b1 b2 hB
          go_wp2
          obtain ⟨O, hO⟩ : ∃ O, O = wr.heap.size := ⟨_, rfl⟩
          rw [← hO] at c0 hlt2 ⊢
          clear hO z1
          go_loopw [10] (fun t10 wk => ∃ k : Nat, k ≤ 176 ∧ t10 = .int .i64 k ∧ Blk wk O (bytesV (K.take k ++ Z176.drop k)) 44 ∧ Blk wk (w.heap.size + 1) (bytesV Z176) 44 ∧ Blk wk (w.heap.size + 1 + 1) (bytesV K) 88 ∧ Below w.heap.size w wk) (fun t _ => 176 - (intOf t).toNat)
          case atStart => exact ⟨0, by omega, rfl, c0, c1, c2, c3⟩
          case round =>
            clear c0 c1 c2 c3
            obtain ⟨k, hk, rfl, c0, c1, c2, hB⟩ := hrel
            by_cases hk176 : k < 176
            · have hl2 : (K.take k ++ Z176.drop k).length = 176 := by rw [List.length_append, List.length_take, List.length_drop, hKl.out, Z176, List.length_replicate]; omega
              have d1 := c2.gd k (by rw [hKl.out]; exact hk176)
              obtain ⟨q, r, hq⟩ : ∃ q r : Nat, Hid (q = k / 16 ∧ r = k % 16) := ⟨_, _, rfl, rfl⟩
              have hr : r < 16 := by have := hq.out; omega
              have hqr : q < 11 := by have := hq.out; omega
              have e : q * 16 + r = k := by have := hq.out; omega
              obtain ⟨u, hu⟩ : ∃ u, wr.cell? ⟨O, q * 16 + r, none⟩ = some u := ⟨_, c0.gd _ (by omega)⟩
              have hf := c0.frozen (q * 16 + r)
              have hset : Blk (wr.drew.setCell ⟨O, q * 16 + r, none⟩ (.int .u8 (gd K k).toNat)) O (bytesV (K.take (k + 1) ++ Z176.drop (k + 1))) 44 := by
                have h1 := c0.drew.set k (B (gd K k))
                rw [bytesV_set, take_set_succ _ _ _ (by rw [hKl.out]; exact hk176) (by rw [hKl.out, Z176, List.length_replicate]; omega)] at h1
                rw [e]
                exact h1
              have He := Lib.hid e
              have Hl2 := Lib.hid hl2
              have k1 : (k : Int).tdiv 16 = (q : Int) := by have := hq.out; rw [Int.tdiv_eq_ediv_of_nonneg (by omega)]; omega
              have k2 : (k : Int).tmod 16 = (r : Int) := by have := hq.out; rw [Int.tmod_eq_emod_of_nonneg (by omega)]; omega
              have k3 : IntKind.i64.wrap (q : Int) = (q : Int) := IntWalk.i64_in _ (by omega)
              have k4 : (q : Int) < 11 := by omega
              have k5 : (r : Int) < 16 := by omega
              have k6 : (k : Int) < 176 := by omega
              clear e hl2
              go_wp2_with fail
              go_still_tail 8, (by kernel_rfl)
              change wpList _ _ _ _ _ wr.drew
              go_wp2
              refine ⟨?_, by simp [intOf]; omega⟩
              first
                | exact ⟨k + 1, by omega, by go_num, hset, c1.drew.set_other (by simp; omega) _, c2.drew.set_other (by simp; omega) _, (hB.drew).setCell (by simp; omega) _⟩
                | ((repeat apply Exists.intro); exact ⟨⟨k + 1, by omega, by go_num, hset, c1.drew.set_other (by simp; omega) _, c2.drew.set_other (by simp; omega) _, (hB.drew).setCell (by simp; omega) _⟩, rfl⟩)
            · obtain rfl : k = 176 := by omega
              have e1 : K.take 176 ++ Z176.drop 176 = K := by
                rw [List.take_of_length_le (by rw [hKl.out]; exact Nat.le_refl _), Z176_drop]; simp
              rw [e1] at c0
              clear e1 hk hk176
              go_wp2_with (first
                | ((with_reducible refine wpList_load_blk rfl 44 (.tmp 9) rfl O 0 176 rfl c0 row44 ?_ (bytesV K) ?_ ?_); (rw [bytesV_size, hKl.out]; exact Nat.le_refl _); (exact bytesV_whole _ _ hKl.out))
                | ((with_reducible refine wpList_store_blk rfl 44 (.tmp 2) (.tmp 98) rfl (w.heap.size + 1) 0 176 (bytesV K) rfl rfl c1 row44 ?_ ?_ (bytesV_one _) ?_); (rw [bytesV_size, hKl.out]); (rw [bytesV_size, Z176, List.length_replicate]; exact Nat.le_refl _); intro w5 hb5 ho5; rw [splice_all _ _ (by rw [hKl.out, Z176, List.length_replicate])] at hb5))
              refine bodyPost_ret (results_blk rfl _ _ _ (bytesV K) 44 176 rfl hb5 row44 (by rw [bytesV_size, hKl.out])) rfl ?_
              exact ⟨by rw [← HKK.out], below_only hB ho5 (by omega)⟩
end Go.Proofs.Ytdgmahgidmjniaa
