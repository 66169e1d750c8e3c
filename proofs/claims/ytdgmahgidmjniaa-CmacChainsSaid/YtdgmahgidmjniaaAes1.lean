/-
  AES, the walks of the field's product and of the substitution boxes: what 'double', 'Mul', 'substitution' compute, as plain functions.
-/
import Derived.Test.YtdgmahgidmjniaaRows
import Derived.Test.YtdgmahgidmjniaaAesM
namespace Go.Proofs.Ytdgmahgidmjniaa
open Go.RowKit

theorem bits_x8_99 (x : UInt8) : bits .xor .u8 (x.toNat : Int) 99 = ((x8 x 99).toNat : Int) := bits_xor_u8 x 99
attribute [local go_sem] bits_x8 bits_x8_99

theorem dbl_eq (x : UInt8) : bits .xor .u8 ((x.toNat : Int) * 2 % 256) ((x.toNat : Int) / 128 * 27) = ((dbl x).toNat : Int) := by
  revert x
  apply u8_all
  decide +kernel

theorem double_any (a : UInt8) (w : World) :
    Calls Try.prog 58 #[.int .u8 a.toNat] w fun e w' => e = .returned (.int .u8 (dbl a).toNat) ∧ w = w' := by
  have h1 : a.toNat < 256 := a.toNat_lt
  have H := Lib.hid (dbl_eq a)
  go_enter Try.func58, Try.ntmps58
  go_wp2
  go_ret
  exact ⟨by simp [H.out], rfl⟩

theorem mulStep_eq (a b p : UInt8) : bits .xor .u8 (p.toNat : Int) (bits .and .u8 (b.toNat : Int) 1 * (a.toNat : Int) % 256) = ((p ^^^ ((b &&& 1) * a)).toNat : Int) := by
  have h1 : bits .and .u8 (b.toNat : Int) 1 = ((b &&& 1).toNat : Int) := bits_and_u8 b 1
  have h2 : ((b &&& 1).toNat : Int) * (a.toNat : Int) % 256 = (((b &&& 1) * a).toNat : Int) := by
    rw [UInt8.toNat_mul]; simp
  rw [h1, h2, bits_xor_u8]
theorem shr1_eq (b : UInt8) : (b.toNat : Int) / (2 : Int) = ((b >>> 1).toNat : Int) := by
  revert b
  apply u8_all
  decide +kernel
theorem shr1_lt (b : UInt8) (n : Nat) (h : b.toNat < 2 ^ (n + 1)) : (b >>> 1).toNat < 2 ^ n := by
  have := shr1_eq b
  rw [Nat.pow_succ] at h
  omega

theorem mul_any (a0 b0 : UInt8) (w : World) :
    Calls Try.prog 31 #[.int .u8 a0.toNat, .int .u8 b0.toNat] w fun e w' => e = .returned (.int .u8 (gmul a0 b0).toNat) ∧ w = w' := by
  go_enter Try.func31, Try.ntmps31
  go_wp2
  go_loop [0, 1, 4] (fun ta tb tp => ∃ (n : Nat) (a b p : UInt8), ta = .int .u8 a.toNat ∧ tb = .int .u8 b.toNat ∧ tp = .int .u8 p.toNat ∧ b.toNat < 2 ^ n ∧ mulF n a b p = gmul a0 b0) (fun _ tb _ => (intOf tb).toNat)
  case atStart => exact ⟨8, a0, b0, 0, rfl, rfl, rfl, b0.toNat_lt, rfl⟩
  case round =>
    obtain ⟨n, a, b, p, rfl, rfl, rfl, hb, hm⟩ := hrel
    have H := Lib.hid hm
    clear hm
    by_cases h0 : b = 0
    · subst h0
      go_wp2
      go_ret
      exact ⟨by rw [← H.out, mulF_zero]; rfl, rfl⟩
    · have h1 : b.toNat ≠ 0 := fun h => h0 (UInt8.toNat_inj.1 h)
      have h2 : ((b.toNat : Int) != 0) = true := by simp; omega
      go_wp2_with (go_at_call 58; refine (double_any _ _).mono ?_; rintro e w' ⟨rfl, rfl⟩)
      obtain ⟨m, rfl⟩ : ∃ m, n = m + 1 := ⟨n - 1, by cases n <;> simp at hb ⊢; omega⟩
      exact ⟨⟨m, dbl a, b >>> 1, p ^^^ ((b &&& 1) * a), rfl, by rw [shr1_eq], by rw [mulStep_eq], shr1_lt _ _ hb, H.out⟩, by simp [intOf]; omega⟩

def rot (x : UInt8) (k : Nat) : UInt8 := UInt8.ofNat (x.toNat * 2 ^ k % 256 ||| x.toNat / 2 ^ (8 - k))



theorem rot_eq (k : Nat) (hk : k = 1 ∨ k = 2 ∨ k = 3 ∨ k = 4) (x : UInt8) : bits .or .u8 ((x.toNat : Int) * (2 : Int) ^ k % 256) ((x.toNat : Int) / (2 : Int) ^ (8 - k)) = ((rot x k).toNat : Int) := by
  rcases hk with rfl | rfl | rfl | rfl <;> revert x <;> apply u8_all <;> decide +kernel

theorem rot_any (x : UInt8) (z : Int) (hk : z = 1 ∨ z = 2 ∨ z = 3 ∨ z = 4) (w : World) :
    Calls Try.prog 77 #[.int .u8 x.toNat, .int .i64 z] w fun e w' => e = .returned (.int .u8 (rot x z.toNat).toNat) ∧ w = w' := by
  have h1 := lt256 x
  have H := Lib.hid (rot_eq z.toNat (by omega) x)
  rcases hk with rfl | rfl | rfl | rfl
  · have hb : bits .and .u64 1 7 = 1 := by decide
    go_enter Try.func77, Try.ntmps77
    go_wp2
    go_ret
    exact ⟨by rw [← H.out]; rfl, rfl⟩
  · have hb : bits .and .u64 2 7 = 2 := by decide
    go_enter Try.func77, Try.ntmps77
    go_wp2
    go_ret
    exact ⟨by rw [← H.out]; rfl, rfl⟩
  · have hb : bits .and .u64 3 7 = 3 := by decide
    go_enter Try.func77, Try.ntmps77
    go_wp2
    go_ret
    exact ⟨by rw [← H.out]; rfl, rfl⟩
  · have hb : bits .and .u64 4 7 = 4 := by decide
    go_enter Try.func77, Try.ntmps77
    go_wp2
    go_ret
    exact ⟨by rw [← H.out]; rfl, rfl⟩

def aff (x : UInt8) : UInt8 := x8 (x8 (x8 (x8 (x8 x (rot x 1)) (rot x 2)) (rot x 3)) (rot x 4)) 99

set_option maxRecDepth 100000 in
theorem set_any (b : Nat) (C : Array Value) (t : TypeId) (x v : UInt8) (w : World) (hb : Blk w b C t) (hC : C.size = 512) :
    Calls Try.prog 76 #[.int .u8 x.toNat, .int .u8 v.toNat, .pointer (some ⟨b, 0, none⟩)] w fun e w' =>
      e = .returned (.tuple #[]) ∧ (w.setCell ⟨b, x.toNat, none⟩ (B (aff v))).setCell ⟨b, 256 + (aff v).toNat, none⟩ (B x) = w' := by
  have h1 := lt256 x
  have h2 := lt256 v
  have h3 := lt256 (aff v)
  have hc1 : ∀ o, o < 512 → ∃ u, w.cell? ⟨b, o, none⟩ = some u := fun o ho => ⟨C[o], by rw [hb.cell]; simp [hC, ho]⟩
  have hf : ∀ o, w.frozen? ⟨b, o, none⟩ = false := hb.frozen
  obtain ⟨u1, hu1⟩ := hc1 x.toNat (by omega)
  obtain ⟨u2, hu2⟩ := hc1 (256 + (aff v).toNat) (by omega)
  clear hc1 hb
  have he : x8 (x8 (x8 (x8 (x8 v (rot v 1)) (rot v 2)) (rot v 3)) (rot v 4)) 99 = aff v := rfl
  go_enter Try.func76, Try.ntmps76
  go_wp2_with (go_at_call 77; refine (rot_any _ _ (by omega) _).mono ?_; rintro e w' ⟨rfl, rfl⟩)
  go_end0
  exact ⟨rfl, rfl⟩


theorem zero55 : (Try.prog.info? 55).map (fun i => (i.zero, i.size)) = some (some (.agg (bytesV (List.replicate 512 0))), 512) := by kernel_rfl
theorem zero103 : (Try.prog.info? 103).map (fun i => (i.zero, i.size)) = some (some (.agg (bytesV (List.replicate 255 0))), 255) := by kernel_rfl

def Z512 : List UInt8 := List.replicate 512 0
def Z255 : List UInt8 := List.replicate 255 0
def setS (st : List UInt8) (x v : UInt8) : List UInt8 := (st.set x.toNat (aff v)).set (256 + (aff v).toNat) x


def pw : Nat → UInt8
  | 0 => 1
  | k + 1 => x8 (pw k) (dbl (pw k))
def pows : Nat → List UInt8
  | 0 => Z255
  | k + 1 => (pows k).set k (pw k)
theorem pows_length (k : Nat) : (pows k).length = 255 := by
  induction k with
  | zero => exact List.length_replicate
  | succ k ih => simp [pows, ih]
def stF : Nat → List UInt8
  | 0 => setS Z512 0 0
  | k + 1 => setS (stF k) ((pows 255).getD k 0) ((pows 255).getD ((255 - k) % 255) 0)
theorem setS_length (st : List UInt8) (x v : UInt8) : (setS st x v).length = st.length := by simp [setS]
theorem stF_length (k : Nat) : (stF k).length = 512 := by
  induction k with
  | zero => rw [stF, setS_length]; exact List.length_replicate
  | succ k ih => simp [stF, setS_length, ih]
theorem bytesV_setS (st : List UInt8) (x v : UInt8) : ((bytesV st).setIfInBounds x.toNat (B (aff v))).setIfInBounds (256 + (aff v).toNat) (B x) = bytesV (setS st x v) := by
  rw [bytesV_set, bytesV_set]; rfl

set_option maxRecDepth 100000 in
theorem subst_any (w : World) :
    Calls Try.prog 59 #[] w fun e w' => e = .returned (.agg (bytesV (stF 255))) ∧ Below w.heap.size w w' := by
  have z1 : ∀ w, (zeroValue 55).run Try.prog w = .ok (.agg (bytesV Z512)) w := (zero_of_info zero55).1
  have z2 : ∀ w, (zeroValue 103).run Try.prog w = .ok (.agg (bytesV Z255)) w := (zero_of_info zero103).1
  have hmf : ∀ (fn : Fn) (first cap : Array Value) (w : World), (Instr.makeFunc fn first cap).run Try.prog w = .ok (.func fn first cap) w := fun _ _ _ _ => rfl
  have hb0 : Blk (w.alloc (.cells (bytesV Z512) 55)) w.heap.size (bytesV Z512) 55 := Blk.new _ _ _
  go_enter Try.func59, Try.ntmps59
  go_wp2_with (first | (go_at_call 76; refine (set_any _ _ _ 0 0 _ hb0 (by rw [bytesV_size]; rfl)).mono ?_; rintro e w' ⟨rfl, rfl⟩) )
  clear z1 z2 hb0
  go_loopw [3, 10] (fun t3 t10 wr => ∃ k : Nat, k ≤ 255 ∧ t3 = .int .u8 (pw k).toNat ∧ t10 = .int .i64 k ∧ Blk wr w.heap.size (bytesV (stF 0)) 55 ∧ Blk wr (w.heap.size + 1) (bytesV (pows k)) 103 ∧ Below w.heap.size w wr)
    (fun _ i _ => 255 - (intOf i).toNat)
  case atStart =>
    refine ⟨0, by omega, rfl, rfl, ?_, ?_, ?_⟩
    · rw [show (0 : Nat) = (0 : UInt8).toNat from rfl, bytesV_setS]
      exact (Blk.new _ _ _).alloc _
    · have := Blk.new (w.alloc (.cells (((bytesV Z512).setIfInBounds 0 (B (aff 0))).setIfInBounds (256 + (aff 0).toNat) (B 0)) 55)) (bytesV Z255) 103
      rwa [World.size_alloc] at this
    · exact ((Below.refl _ _).alloc (Nat.le_refl _) _).alloc (by simp) _
  case round =>
    obtain ⟨k, hk, rfl, rfl, hs, hp, hbel⟩ := hrel
    by_cases hlt : k < 255
    · have hc : wr.cell? ⟨w.heap.size + 1, k, none⟩ = some (.int .u8 ((pows k).getD k 0).toNat) := hp.byte k (by rw [pows_length]; omega)
      have hf : wr.frozen? ⟨w.heap.size + 1, k, none⟩ = false := hp.frozen k
      go_wp2_with (go_at_call 58; refine (double_any _ _).mono ?_; rintro e w' ⟨rfl, rfl⟩)
      go_roundw
      case rel => exact ⟨k + 1, by omega, rfl, by go_num, hs.set_other (by simp) _, by rw [pows, ← bytesV_set]; exact hp.set _ _, hbel.setCell (by simp) _⟩
      case measure => simp [intOf]; omega
    · obtain rfl : k = 255 := by omega
      clear hlt hk
      have hpc := Lib.hid hp
      have hr : wr.rangeAt (w.heap.size + 1) 0 (bytesV (pows 255)).toList := by
        have := World.rangeAt_of_block (w := wr) hp 0 255
        rwa [show (bytesV (pows 255)).extract 0 (0 + 255) = bytesV (pows 255) from by rw [Array.extract_eq_self_of_le (by rw [bytesV_size, pows_length]; omega)]] at this
      go_wp2_with (with_reducible refine wpList_load_mid rfl 103 (.tmp 2) rfl (w.heap.size + 1) 0 rfl (bytesV (pows 255)).toList (.array 255 5) hr (by kernel_rfl) rfl (by rw [Array.length_toList, bytesV_size, pows_length]; kernel_rfl) ?_)
      clear hr hp
      have hp : Blk wr (w.heap.size + 1) (bytesV (pows 255)) 103 := hpc.out
      go_loopw [22] (fun t22 wr => ∃ k : Nat, k ≤ 255 ∧ t22 = .int .i64 k ∧ Blk wr w.heap.size (bytesV (stF k)) 55 ∧ Blk wr (w.heap.size + 1) (bytesV (pows 255)) 103 ∧ Below w.heap.size w wr)
        (fun i _ => 255 - (intOf i).toNat)
      case atStart => exact ⟨0, by omega, rfl, hs, hp, hbel⟩
      case round =>
        clear hs hp hbel hpc
        obtain ⟨k, hk, rfl, hs, hp, hbel⟩ := hrel
        by_cases hlt : k < 255
        · have hq : (255 - k) % 255 < 255 := Nat.mod_lt _ (by omega)
          have hix : (Instr.index 103 (.agg (bytesV (pows 255))) (.int .i64 k)).run Try.prog wr = .ok (.int .u8 ((pows 255).getD k 0).toNat) wr :=
            run_index_agg Try.underlying103 Try.underlying5 (by kernel_rfl) _ _ _ k rfl hlt _ (by rw [bytesV_get]; simp [pows_length, hlt, B]) _
          have hc : wr.cell? ⟨w.heap.size + 1, (-(k : Int) % 255).toNat, none⟩ = some (.int .u8 ((pows 255).getD ((255 - k) % 255) 0).toNat) := by
            rw [show (-(k : Int) % 255).toNat = (255 - k) % 255 from by omega]
            exact hp.byte _ (by rw [pows_length]; omega)
          go_wp2_with (go_at_call 76; refine (set_any _ _ _ _ _ _ hs (by rw [bytesV_size, stF_length])).mono ?_; rintro e w' ⟨rfl, rfl⟩)
          refine ⟨⟨k + 1, by omega, by go_num, ?_, ?_, ?_⟩, by simp [intOf]; omega⟩
          · have := (hs.set ((pows 255)[k]?.getD 0).toNat (B (aff ((pows 255)[(255 - k) % 255]?.getD 0)))).set (256 + (aff ((pows 255)[(255 - k) % 255]?.getD 0)).toNat) (B ((pows 255)[k]?.getD 0))
            rw [bytesV_setS] at this
            rw [stF, List.getD_eq_getElem?_getD, List.getD_eq_getElem?_getD]
            exact this
          · exact (hp.set_other (by simp) _).set_other (by simp) _
          · exact (hbel.setCell (by simp) _).setCell (by simp) _
        · obtain rfl : k = 255 := by omega
          clear hlt hk
          have hs1 := hs
          unfold Blk at hs1
          have hone : (bytesV (stF 255)).all (·.oneCell') = true := bytesV_one _
          have hinf : (Try.prog.info? 55).map (·.size) = some (bytesV (stF 255)).size := by rw [bytesV_size, stF_length]; kernel_rfl
          have hu55 := Try.underlying55
          have Hs := Lib.hid hs1
          have Hi := Lib.hid hinf
          have Ho := Lib.hid hone
          have Hu := Lib.hid hu55
          clear hs1 hinf hone hu55
          go_wp2_with (first
            | (with_reducible refine wpList_load_row rfl 55 (.tmp 0) rfl w.heap.size rfl 55 (bytesV (stF 255)) (0, 0) _ Hs.out Hu.out rfl Hi.out ?_)
            | (with_reducible refine wpList_store_row rfl 55 (.tmp 0) (.tmp 35) rfl w.heap.size (bytesV (stF 255)) rfl rfl 55 (bytesV (stF 255)) Hs.out Hi.out rfl Ho.out ?_; rw [hs.setRow_same]))
          refine bodyPost_ret (results_cell_row rfl _ _ w.heap.size 55 (bytesV (stF 255)) (0, 0) _ rfl Hs.out Hu.out rfl Hi.out) rfl ?_
          exact ⟨rfl, hbel⟩

/-- The byte of an integer. -/
def u8 (x : Int) : UInt8 := UInt8.ofNat x.toNat
theorem u8_cast (x : UInt8) : u8 (x.toNat : Int) = x := by simp [u8]
theorem cast_u8 (x : Int) (h0 : 0 ≤ x) (h1 : x < 256) : ((u8 x).toNat : Int) = x := by
  simp [u8]; omega
theorem mul_int (x y : Int) (w : World) (hx : 0 ≤ x) (hx' : x < 256) (hy : 0 ≤ y) (hy' : y < 256) :
    Calls Try.prog 31 #[.int .u8 x, .int .u8 y] w fun e w' => e = .returned (.int .u8 (gmul (u8 x) (u8 y)).toNat) ∧ w = w' := by
  have := mul_any (u8 x) (u8 y) w
  rwa [cast_u8 x hx hx', cast_u8 y hy hy'] at this

end Go.Proofs.Ytdgmahgidmjniaa
