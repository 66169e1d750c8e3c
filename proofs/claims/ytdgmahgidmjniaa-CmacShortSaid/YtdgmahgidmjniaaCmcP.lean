/-
  Message authentication codes, plain: codes of short messages are apart.
-/
import Derived.Test.YtdgmahgidmjniaaCmcJ
namespace Go.Proofs.Ytdgmahgidmjniaa
open Go.RowKit

theorem x8_right {x y z : UInt8} (h : x8 x z = x8 y z) : x = y := by
  have e : ∀ t : UInt8, x8 (x8 t z) z = t := fun t => by rw [x8_assoc, x8_self]; unfold x8; simp
  rw [← e x, h, e]
theorem xrL_right {a b c : List UInt8} (ha : a.length = 16) (hb : b.length = 16) (hc : c.length = 16) (h : xrL a c = xrL b c) : a = b := by
  refine ext_gd (by omega) fun i hi => ?_
  have h1 : gd (xrL a c) i = gd (xrL b c) i := by rw [h]
  rw [gd_xrL _ _ _ hi (by omega), gd_xrL _ _ _ (by omega) (by omega)] at h1
  exact x8_right h1
theorem xrL_left {a b c : List UInt8} (ha : a.length = 16) (hb : b.length = 16) (hc : c.length = 16) (h : xrL c a = xrL c b) : a = b := by
  refine ext_gd (by omega) fun i hi => ?_
  have h1 : gd (xrL c a) i = gd (xrL c b) i := by rw [h]
  rw [gd_xrL _ _ _ (by omega) hi, gd_xrL _ _ _ (by omega) (by omega), x8_comm, x8_comm (gd c i)] at h1
  exact x8_right h1
theorem pad_get (a : List UInt8) (i k : Nat) (h : a.length < k) : gd (a ++ 0x80 :: List.replicate i 0) k = 0 := by
  rw [gd_append_right _ _ _ (by omega)]
  obtain ⟨m, hm⟩ : ∃ m, k - a.length = m + 1 := ⟨k - a.length - 1, by omega⟩
  rw [hm]
  have : gd (0x80 :: List.replicate i 0) (m + 1) = gd (List.replicate i 0) m := by simp [gd]
  rw [this, gd_replicate]
theorem pad_at (a : List UInt8) (i : Nat) : gd (a ++ 0x80 :: List.replicate i 0) a.length = 0x80 := by
  rw [gd_append_right _ _ _ (Nat.le_refl _)]
  simp [gd]
theorem pad_inj (a b : List UInt8) (i j : Nat) (h : a ++ 0x80 :: List.replicate i 0 = b ++ 0x80 :: List.replicate j 0) : a = b := by
  rcases Nat.lt_trichotomy a.length b.length with hl | hl | hl
  · have h1 := pad_get a i b.length hl
    rw [h, pad_at] at h1
    exact absurd h1 (by decide)
  · exact List.append_inj_left h hl
  · have h1 := pad_get b j a.length hl
    rw [← h, pad_at] at h1
    exact absurd h1 (by decide)
theorem blk_short (l : List UInt8) (h : l.length < 16) : (blk l 0).set (bln l 0) 0x80 = l ++ 0x80 :: List.replicate (15 - l.length) 0 := by
  have hb : bln l 0 = l.length := by simp [bln]; omega
  have ht : (l.drop (16 * 0)).take 16 = l := by rw [Nat.mul_zero, List.drop_zero]; exact List.take_of_length_le (by omega)
  rw [blk, hb, ht, List.set_append_right _ _ (Nat.le_refl _)]
  congr 1
  obtain ⟨m, hm⟩ : ∃ m, 16 - l.length = m + 1 := ⟨15 - l.length, by omega⟩
  rw [hm, show 15 - l.length = m by omega, List.replicate_succ]
  simp
theorem cmac_one (key l : List UInt8) (h : l.length ≤ 16) : cmacL key l = encR (ksL key 160) (xrL Z16 (lastL key (blk l 0) (bln l 0))) 10 := by
  have hn : nbl l = 1 := by
    unfold nbl
    split <;> omega
  have hm : macB key l 0 = lastL key (blk l 0) (bln l 0) := by rw [macB, if_pos (by rw [hn])]
  rw [cmacL, hn, macS, macS, hm]
/-- The codes of short messages agree only where the messages do. -/
theorem cmac_short (key a b : List UInt8) (ha : a.length ≤ 16) (hb : b.length ≤ 16) (hw : (a.length = 16) ↔ (b.length = 16)) : cmacL key a = cmacL key b ↔ a = b := by
  refine ⟨fun h => ?_, fun h => by rw [h]⟩
  have la := lastL_length key (blk a 0) (bln a 0) (blk_length _ _)
  have lb := lastL_length key (blk b 0) (bln b 0) (blk_length _ _)
  have z : (Z16 : List UInt8).length = 16 := rfl
  rw [cmac_one key a ha, cmac_one key b hb] at h
  have h1 := (encF_inj (ksL key 160) _ _ (by rw [xrL_length, la, z]; rfl) (by rw [xrL_length, lb, z]; rfl)).1 h
  have h2 := xrL_left la lb z h1
  by_cases h16 : a.length = 16
  · have k16 := hw.1 h16
    have na : bln a 0 = 16 := by simp [bln]; omega
    have nb : bln b 0 = 16 := by simp [bln]; omega
    rw [lastL, lastL, if_pos na, if_pos nb] at h2
    have h3 := xrL_right (blk_length _ _) (blk_length _ _) (sub1_length key) h2
    rw [blk, blk, na, nb] at h3
    have ta : a.take 16 = a := List.take_of_length_le (by omega)
    have tb : b.take 16 = b := List.take_of_length_le (by omega)
    simpa [ta, tb] using h3
  · have k16 : b.length ≠ 16 := fun h => h16 (hw.2 h)
    have na : bln a 0 ≠ 16 := by simp [bln]; omega
    have nb : bln b 0 ≠ 16 := by simp [bln]; omega
    rw [lastL, lastL, if_neg na, if_neg nb] at h2
    have h3 := xrL_right (by rw [List.length_set, blk_length]) (by rw [List.length_set, blk_length]) (sub2_length key) h2
    rw [blk_short a (by omega), blk_short b (by omega)] at h3
    exact pad_inj _ _ _ _ h3
end Go.Proofs.Ytdgmahgidmjniaa
