/-
  AES, the key schedule: the walk of the program's own.
-/
import Derived.Test.YtdgmahgidmjniaaAesT
import Derived.Test.YtdgmahgidmjniaaBas2
import Derived.StillTailTactics
import Derived.BigQuiet
import Derived.Deep.QuietTactic
namespace Go.Proofs.Ytdgmahgidmjniaa
open Go.RowKit

/-- The round constant of round n (from 1 on). -/
def rc : Nat → UInt8
  | 0 => 1
  | 1 => 1
  | n + 2 => dbl (rc (n + 1))
theorem rc_succ (n : Nat) (h : 1 ≤ n) : rc (n + 1) = dbl (rc n) := by
  obtain ⟨m, rfl⟩ : ∃ m, n = m + 1 := ⟨n - 1, by omega⟩
  rfl
/-- The byte that comes behind the bytes l of the schedule. -/
def ksNext (l : List UInt8) : UInt8 :=
  if l.length % 16 = 0 then x8 (x8 (gd l (l.length - 16)) (sbox (gd l (l.length - 3)))) (rc (l.length / 16))
  else x8 (gd l (l.length - 16))
    (if l.length % 16 < 4 then sbox (gd l (l.length / 16 * 16 - 4 + (l.length % 16 + 1) % 4))
     else gd l (l.length - 4))
def ksL (key : List UInt8) : Nat → List UInt8
  | 0 => key
  | j + 1 => ksL key j ++ [ksNext (ksL key j)]
theorem ksL_length (key : List UInt8) (hk : key.length = 16) (j : Nat) : (ksL key j).length = 16 + j := by
  induction j with
  | zero => simp [ksL, hk]
  | succ j ih => simp [ksL, ih]; omega
/-- The schedule's memory behind j bytes. -/
def stK (key : List UInt8) (j : Nat) : List UInt8 := ksL key j ++ List.replicate (160 - j) 0
theorem stK_length (key : List UInt8) (hk : key.length = 16) (j : Nat) (hj : j ≤ 160) : (stK key j).length = 176 := by
  simp [stK, ksL_length key hk]; omega
theorem stK_set (key : List UInt8) (hk : key.length = 16) (j : Nat) (hj : j < 160) : (stK key j).set (16 + j) (ksNext (ksL key j)) = stK key (j + 1) := by
  obtain ⟨m, hm⟩ : ∃ m, 160 - j = m + 1 := ⟨160 - j - 1, by omega⟩
  have h2 : 160 - (j + 1) = m := by omega
  simp only [stK, h2, hm, List.replicate_succ, ksL]
  rw [List.set_append_right _ _ (by rw [ksL_length key hk]; omega), ksL_length key hk]
  simp
theorem stK_get (key : List UInt8) (hk : key.length = 16) (j i : Nat) (hi : i < 16 + j) : gd (stK key j) i = gd (ksL key j) i := by
  rw [stK, gd_append_left _ _ _ (by rw [ksL_length key hk]; omega)]
theorem ksL_stable (key : List UInt8) (hk : key.length = 16) (j d i : Nat) (hi : i < 16 + j) : gd (ksL key (j + d)) i = gd (ksL key j) i := by
  induction d with
  | zero => rfl
  | succ d ih =>
    rw [← Nat.add_assoc, ksL, gd_append_left _ _ _ (by rw [ksL_length key hk]; omega), ih]

def Z176 : List UInt8 := List.replicate 176 0
def Z16 : List UInt8 := List.replicate 16 0
theorem zero57 : (Try.prog.info? 57).map (fun i => (i.zero, i.size)) = some (some (.agg (bytesV Z176)), 176) := by kernel_rfl
theorem zero56 : (Try.prog.info? 56).map (fun i => (i.zero, i.size)) = some (some (.agg (bytesV Z16)), 16) := by kernel_rfl

theorem row22 : RowTy Try.prog 22 16 := ⟨⟨_, Try.underlying22, rfl⟩, by kernel_rfl⟩
theorem row56 : RowTy Try.prog 56 16 := ⟨⟨_, Try.underlying56, rfl⟩, by kernel_rfl⟩
theorem row57 : RowTy Try.prog 57 176 := ⟨⟨_, Try.underlying57, rfl⟩, by kernel_rfl⟩
theorem row55 : RowTy Try.prog 55 512 := ⟨⟨_, Try.underlying55, rfl⟩, by kernel_rfl⟩

/-- The last 16 bytes behind m rounds. -/
def lastB (key : List UInt8) (m : Nat) : List UInt8 := ((stK key (16 * m)).drop (m * 16)).take 16
theorem lastB_length (key : List UInt8) (hk : key.length = 16) (m : Nat) (hm : m ≤ 10) : (lastB key m).length = 16 := by
  simp [lastB, stK_length key hk _ (show 16 * m ≤ 160 by omega)]; omega
theorem lastB_get (key : List UInt8) (hk : key.length = 16) (m i : Nat) (hi : i < 16) : gd (lastB key m) i = gd (ksL key (16 * m)) (16 * m + i) := by
  rw [← stK_get key hk _ _ (by omega)]
  rw [lastB, gd_take _ _ _ hi, gd_drop, Nat.mul_comm m 16]
theorem Z176_drop (n : Nat) : (Z176).drop n = List.replicate (176 - n) 0 := List.drop_replicate
theorem stK_zero (key : List UInt8) (hk : key.length = 16) : splice (bytesV Z176) 0 (bytesV key).toList = bytesV (stK key 0) := by
  rw [bytesV_toList, splice_bytes _ _ _ (by rw [hk, Z176, List.length_replicate]; omega), Z176_drop, hk]
  rfl
theorem last_of (key : List UInt8) (hk : key.length = 16) (m i j : Nat) (hj : j < 16) : gd (ksL key (16 * m + i)) (16 * m + j) = gd (lastB key m) j := by
  rw [lastB_get key hk m j hj, ksL_stable key hk (16 * m) i _ (by omega)]
theorem next0 (key : List UInt8) (hk : key.length = 16) (m : Nat) :
    ksNext (ksL key (16 * m + 0)) = x8 (x8 (gd (lastB key m) 0) (sbox (gd (lastB key m) 13))) (rc (m + 1)) := by
  have hl := ksL_length key hk (16 * m + 0)
  have e1 : 16 + (16 * m + 0) - 16 = 16 * m + 0 := by omega
  have e2 : 16 + (16 * m + 0) - 3 = 16 * m + 13 := by omega
  have e3 : (16 + (16 * m + 0)) / 16 = m + 1 := by omega
  have e4 : (16 + (16 * m + 0)) % 16 = 0 := by omega
  rw [ksNext, hl, if_pos e4, e1, e2, e3, last_of key hk m 0 0 (by omega), last_of key hk m 0 13 (by omega)]
theorem next4 (key : List UInt8) (hk : key.length = 16) (m i : Nat) (h0 : i ≠ 0) (h4 : i < 4) :
    ksNext (ksL key (16 * m + i)) = x8 (gd (lastB key m) i) (sbox (gd (lastB key m) (12 + (i + 1) % 4))) := by
  have hl := ksL_length key hk (16 * m + i)
  have e1 : 16 + (16 * m + i) - 16 = 16 * m + i := by omega
  have e3 : (16 + (16 * m + i)) / 16 * 16 - 4 + ((16 + (16 * m + i)) % 16 + 1) % 4 = 16 * m + (12 + (i + 1) % 4) := by omega
  have e4 : ¬ (16 + (16 * m + i)) % 16 = 0 := by omega
  have e5 : (16 + (16 * m + i)) % 16 < 4 := by omega
  rw [ksNext, hl, if_neg e4, if_pos e5, e1, e3, last_of key hk m i i (by omega), last_of key hk m i _ (by omega)]
theorem next16 (key : List UInt8) (hk : key.length = 16) (m i : Nat) (h4 : 4 ≤ i) (hi : i < 16) :
    ksNext (ksL key (16 * m + i)) = x8 (gd (lastB key m) i) (gd (stK key (16 * m + i)) ((m + 1) * 16 + (i - 4))) := by
  have hl := ksL_length key hk (16 * m + i)
  have e1 : 16 + (16 * m + i) - 16 = 16 * m + i := by omega
  have e3 : 16 + (16 * m + i) - 4 = (m + 1) * 16 + (i - 4) := by omega
  have e4 : ¬ (16 + (16 * m + i)) % 16 = 0 := by omega
  have e5 : ¬ (16 + (16 * m + i)) % 16 < 4 := by omega
  rw [ksNext, hl, if_neg e4, if_neg e5, e1, e3, last_of key hk m i i (by omega), stK_get key hk _ _ (by omega)]
theorem sbox_S (x : UInt8) : (stF 255).getD x.toNat 0 = sbox x := rfl

set_option maxRecDepth 100000 in
set_option maxHeartbeats 4000000 in
theorem schedule_any (key : List UInt8) (hk : key.length = 16) (w : World) :
    Calls Try.prog 61 #[.agg (bytesV (stF 255)), .agg (bytesV key)] w fun e w' => e = .returned (.agg (bytesV (ksL key 160))) ∧ Below w.heap.size w w' := by
  have z1 : ∀ w, (zeroValue 57).run Try.prog w = .ok (.agg (bytesV Z176)) w := (zero_of_info zero57).1
  have z2 : ∀ w, (zeroValue 56).run Try.prog w = .ok (.agg (bytesV Z16)) w := (zero_of_info zero56).1
  have hK := Lib.hid hk
  obtain ⟨S, hS⟩ : ∃ S, S = stF 255 := ⟨_, rfl⟩
  have HS := Lib.hid hS
  have hSl := Lib.hid (show S.length = 512 from by rw [hS]; exact stF_length 255)
  rw [← hS]
  clear hk hS
  go_enter Try.func61, Try.ntmps61
  go_wp2_with (first
    | ((with_reducible refine wpList_load_blk rfl 22 (.tmp 3) rfl (w.heap.size + 1) 0 16 rfl (C := bytesV key) (t := 22) ?_ row22 ?_ (bytesV key) ?_ ?_); (exact (Blk.new' (by simp)).alloc _); (rw [bytesV_size, hK.out]; exact Nat.le_refl _); (exact bytesV_whole key 16 hK.out))
    | ((with_reducible refine wpList_store_blk rfl 56 (.tmp 10) (.tmp 9) rfl (w.heap.size + 1 + 1) 0 16 (bytesV key) rfl rfl (C := bytesV Z176) (t := 57) ?_ row56 ?_ ?_ (bytesV_one _) ?_); (exact Blk.new' (by simp)); (rw [bytesV_size, hK.out]); (rw [bytesV_size]; decide); intro w1 hb1 ho1))
  rw [stK_zero key hK.out] at hb1
  have hbS : Blk w1 w.heap.size (bytesV S) 55 := ((((Blk.new' rfl).alloc _).alloc _).only ho1 (by omega))
  have hB : Below w.heap.size w w1 := below_only ((((Below.refl _ _).alloc (Nat.le_refl _) _).alloc (by simp) _).alloc (by simp; omega) _) ho1 (by omega)
  clear ho1 z1
  go_loopw [5, 6] (fun t5 t6 wr => ∃ m : Nat, m ≤ 10 ∧ t5 = .int .u8 (rc (m + 1)).toNat ∧ t6 = .int .i64 ((m : Int) + 1) ∧ Blk wr (w.heap.size + 1 + 1) (bytesV (stK key (16 * m))) 57 ∧ Blk wr w.heap.size (bytesV S) 55 ∧ Below w.heap.size w wr)
    (fun _ t6 _ => 11 - (intOf t6).toNat)
  case atStart => exact ⟨0, by omega, rfl, rfl, hb1, hbS, hB⟩
  case round =>
    clear hb1 hbS hB
    obtain ⟨m, hm, rfl, rfl, hb, hs, hB⟩ := hrel
    by_cases hlt : m < 10
    · have hkl := stK_length key hK.out (16 * m) (by omega)
      have hsz := hb.lt
      go_wp2_with (first
        | ((with_reducible refine wpList_load_blk rfl 56 (.tmp 17) rfl (w.heap.size + 1 + 1) (m * 16) 16 rfl hb row56 ?_ (bytesV (lastB key m)) ?_ ?_); (rw [bytesV_size]; omega); (rw [bytesV_extract, Nat.add_sub_cancel_left]; rfl))
        | ((with_reducible refine wpList_store_blk rfl 56 (.tmp 7) (.tmp 18) rfl wr.heap.size 0 16 (bytesV (lastB key m)) rfl rfl (C := bytesV Z16) (t := 56) ?_ row56 ?_ ?_ (bytesV_one _) ?_); (exact Blk.new' rfl); (rw [bytesV_size, lastB_length _ hK.out _ (by omega)]); (rw [bytesV_size]; decide); intro w2 hb2 ho2))
      rw [splice_all _ _ (by rw [lastB_length _ hK.out _ (by omega)]; rfl)] at hb2
      have hb3 := (hb.alloc (.cells (bytesV Z16) 56)).only ho2 (by omega)
      have hs3 := (hs.alloc (.cells (bytesV Z16) 56)).only ho2 (by have := hs.lt; omega)
      have hB3 := below_only (hB.alloc hB.size (.cells (bytesV Z16) 56)) ho2 hB.size
      clear hb hs hB ho2
      obtain ⟨L, hL⟩ : ∃ L, L = wr.heap.size := ⟨_, rfl⟩
      rw [← hL] at hb2 hsz ⊢
      clear hL
      go_loopw [19] (fun t19 wi => ∃ i : Nat, i ≤ 16 ∧ t19 = .int .i64 i ∧ Blk wi (w.heap.size + 1 + 1) (bytesV (stK key (16 * m + i))) 57 ∧ Blk wi L (bytesV (lastB key m)) 56 ∧ Blk wi w.heap.size (bytesV S) 55 ∧ Below w.heap.size w wi)
        (fun t _ => 16 - (intOf t).toNat)
      case atStart => exact ⟨0, by omega, rfl, hb3, hb2, hs3, hB3⟩
      case round =>
        clear hb3 hb2 hs3 hB3
        obtain ⟨i, hi, rfl, hb, hl, hs, hB⟩ := hrel
        have hll := lastB_length _ hK.out m (by omega)
        by_cases hi16 : i < 16
        · have c1 := hl.gd i (by omega)
          have cS : ∀ x : UInt8, wr.cell? ⟨w.heap.size, x.toNat, none⟩ = some (.int .u8 (sbox x).toNat) := fun x => by
            have := hs.byte x.toNat (by rw [hSl.out]; have := lt256 x; omega)
            rw [this, HS.out]; rfl
          have hd : ∃ u, wr.cell? ⟨w.heap.size + 1 + 1, (m + 1) * 16 + i, none⟩ = some u := ⟨_, hb.gd _ (by rw [stK_length key hK.out _ (by omega)]; omega)⟩
          obtain ⟨u, hu⟩ := hd
          have hf := hb.frozen ((m + 1) * 16 + i)
          have hx : ((gd (lastB key m) 13).toNat : Int) < 256 := by have := lt256 (gd (lastB key m) 13); omega
          have hx2 : ((gd (lastB key m) (12 + (i + 1) % 4)).toNat : Int) < 256 := by have := lt256 (gd (lastB key m) (12 + (i + 1) % 4)); omega
          have hxm : ((m : Int) + 1) < 11 := by omega
          have hxm0 : 0 ≤ ((m : Int) + 1) := by omega
          have hxm1 : ((m : Int) + 1).toNat = m + 1 := by omega
          have hset : ∀ x, x = ksNext (ksL key (16 * m + i)) → Blk (wr.drew.setCell ⟨w.heap.size + 1 + 1, (m + 1) * 16 + i, none⟩ (.int .u8 x.toNat)) (w.heap.size + 1 + 1) (bytesV (stK key (16 * m + (i + 1)))) 57 := fun x hx => by
            have h1 := hb.drew.set ((m + 1) * 16 + i) (B x)
            rw [bytesV_set, show (m + 1) * 16 + i = 16 + (16 * m + i) from by omega, hx, stK_set key hK.out _ (by omega)] at h1
            rw [show (m + 1) * 16 + i = 16 + (16 * m + i) from by omega, hx]
            exact h1
          have hx8 := bits_x8
          by_cases h0 : i = 0
          · subst h0
            have c13 := hl.gd 13 (by omega)
            have hu' : wr.cell? ⟨w.heap.size + 1 + 1, (m + 1) * 16, none⟩ = some u := hu
            have hf' : wr.frozen? ⟨w.heap.size + 1 + 1, (m + 1) * 16, none⟩ = false := hf
            clear hu hf
            go_wp2_with fail
            go_still_tail 14, (by kernel_rfl)
            change wpList _ _ _ _ _ wr.drew
            go_wp2
            refine ⟨⟨1, by omega, by go_num, hset _ (by rw [next0 key hK.out]), hl.drew.set_other (by simp; omega) _, hs.drew.set_other (by simp; omega) _, (hB.drew).setCell (by simp; omega) _⟩, by simp [intOf]⟩
          · have hi0 : ((i : Int) == 0) = false := by simp; omega
            by_cases h4 : i < 4
            · obtain ⟨r, hr⟩ : ∃ r : Nat, r = (i + 1) % 4 := ⟨_, rfl⟩
              have Hr := Lib.hid hr
              have hr4 : r < 4 := by omega
              rw [← hr] at hx2
              clear hr
              have c12 := hl.gd (12 + r) (by omega)
              have k1 : IntKind.i64.wrap ((i : Int) + 1) = (i : Int) + 1 := IntWalk.i64_in _ (by omega)
              have k3 : ((i : Int) + 1).tmod 4 = (r : Int) := by rw [Int.tmod_eq_emod_of_nonneg (by omega), Hr.out]; omega
              have k7 : IntKind.i64.wrap (r : Int) = (r : Int) := IntWalk.i64_in _ (by omega)
              have k8 : IntKind.i64.wrap (12 + (r : Int)) = 12 + (r : Int) := IntWalk.i64_in _ (by omega)
              have k4 : (12 + (r : Int)).toNat = 12 + r := by omega
              have k5 : 0 ≤ 12 + (r : Int) := by omega
              have k6 : 12 + (r : Int) < 16 := by omega
              go_wp2_with fail
              go_still_tail 16, (by kernel_rfl)
              change wpList _ _ _ _ _ wr.drew
              go_wp2
              refine ⟨⟨i + 1, by omega, by go_num, hset _ (by rw [next4 key hK.out _ _ h0 h4, ← Hr.out]), hl.drew.set_other (by simp; omega) _, hs.drew.set_other (by simp; omega) _, (hB.drew).setCell (by simp; omega) _⟩, by simp [intOf]; omega⟩
            · have c4 := hb.gd ((m + 1) * 16 + (i - 4)) (by rw [stK_length key hK.out _ (by omega)]; omega)
              have k1 : IntKind.i64.wrap ((i : Int) - 4) = (i : Int) - 4 := IntWalk.i64_in _ (by omega)
              have k2 : 0 ≤ (i : Int) - 4 := by omega
              have k3 : (i : Int) - 4 < 16 := by omega
              have k4 : ((i : Int) - 4).toNat = i - 4 := by omega
              go_wp2_with fail
              go_still_tail 13, (by kernel_rfl)
              change wpList _ _ _ _ _ wr.drew
              go_wp2
              refine ⟨⟨i + 1, by omega, by go_num, hset _ (by rw [next16 key hK.out _ _ (by omega) hi16]), hl.drew.set_other (by simp; omega) _, hs.drew.set_other (by simp; omega) _, (hB.drew).setCell (by simp; omega) _⟩, by simp [intOf]; omega⟩
        · obtain rfl : i = 16 := by omega
          have hdb : ∀ w, Calls Try.prog 58 #[.int .u8 (rc (m + 1)).toNat] w fun e w' => e = .returned (.int .u8 (rc (m + 1 + 1)).toNat) ∧ w = w' := fun w => by
            rw [rc_succ (m + 1) (by omega)]; exact double_any _ w
          go_wp2_with (go_at_call 58; refine (hdb _).mono ?_; rintro e w' ⟨rfl, rfl⟩)
          have e16 : 16 * m + 16 = 16 * (m + 1) := by omega
          rw [e16] at hb
          exact ⟨⟨m + 1, by omega, rfl, by go_num, hb, hs, hB⟩, by simp [intOf]; omega⟩
    · obtain rfl : m = 10 := by omega
      have hl := stK_length key hK.out 160 (by omega)
      have hend : stK key 160 = ksL key 160 := by simp [stK]
      have hb' : Blk wr (w.heap.size + 1 + 1) (bytesV (ksL key 160)) 57 := by rw [← hend]; exact hb
      have hkl : (ksL key 160).length = 176 := by rw [← hend]; exact hl
      clear hb hl hend hlt hm
      have HL := Lib.hid hkl
      clear hkl
      go_wp2_with (first
        | ((with_reducible refine wpList_load_blk rfl 57 (.tmp 4) rfl (w.heap.size + 1 + 1) 0 176 rfl hb' row57 ?_ (bytesV (ksL key 160)) ?_ ?_); (rw [bytesV_size, HL.out]; exact Nat.le_refl _); (exact bytesV_whole _ _ HL.out))
        | ((with_reducible refine wpList_store_blk rfl 57 (.tmp 4) (.tmp 77) rfl (w.heap.size + 1 + 1) 0 176 (bytesV (ksL key 160)) rfl rfl hb' row57 ?_ ?_ (bytesV_one _) ?_); (rw [bytesV_size, HL.out]); (rw [bytesV_size, HL.out]; exact Nat.le_refl _); intro w2 hb2 ho2))
      rw [splice_all _ _ rfl] at hb2
      refine bodyPost_ret (results_blk rfl _ _ _ (bytesV (ksL key 160)) 57 176 rfl hb2 row57 (by rw [bytesV_size, HL.out])) rfl ?_
      exact ⟨rfl, below_only hB ho2 (by omega)⟩
end Go.Proofs.Ytdgmahgidmjniaa
