/-
  AES, the plain law: decryption is the inverse of encryption, in both orders.
-/
import Derived.Test.YtdgmahgidmjniaaAesE7
namespace Go.Proofs.Ytdgmahgidmjniaa

theorem x8_comm (a b : UInt8) : x8 a b = x8 b a := UInt8.xor_comm a b
instance : Std.Associative x8 := ⟨x8_assoc⟩
instance : Std.Commutative x8 := ⟨x8_comm⟩
theorem x8_zero_left (a : UInt8) : x8 0 a = a := UInt8.zero_xor
theorem x8_self (a : UInt8) : x8 a a = 0 := UInt8.xor_self
theorem x8_zero (a : UInt8) : x8 a 0 = a := UInt8.xor_zero
theorem sub_unsub (l : List UInt8) (hl : l.length = 16) : subL (unsubL l) = l := by
  apply ext_gd (by rw [subL, eachL_length, hl])
  intro i hi
  rw [subL, eachL_length] at hi
  rw [subL, eachL_gd _ _ _ hi, unsubL, eachL_gd _ _ _ hi, sbox_inbox]
theorem unsub_sub (l : List UInt8) (hl : l.length = 16) : unsubL (subL l) = l := by
  apply ext_gd (by rw [unsubL, eachL_length, hl])
  intro i hi
  rw [unsubL, eachL_length] at hi
  rw [unsubL, eachL_gd _ _ _ hi, subL, eachL_gd _ _ _ hi, inbox_sbox]
theorem shift_unshift (l : List UInt8) (hl : l.length = 16) : shiftL (unshiftL l) = l := by
  apply ext_gd (by rw [shiftL, eachL_length, hl])
  intro i hi
  rw [shiftL, eachL_length] at hi
  rw [shiftL, eachL_gd _ _ _ hi, shG, unshiftL, eachL_gd _ _ _ (Nat.mod_lt _ (by omega)), shG]
  congr 1; omega
theorem unshift_shift (l : List UInt8) (hl : l.length = 16) : unshiftL (shiftL l) = l := by
  apply ext_gd (by rw [unshiftL, eachL_length, hl])
  intro i hi
  rw [unshiftL, eachL_length] at hi
  rw [unshiftL, eachL_gd _ _ _ hi, shG, shiftL, eachL_gd _ _ _ (Nat.mod_lt _ (by omega)), shG]
  congr 1; omega
theorem add_add (K : List UInt8) (n : Nat) (l : List UInt8) (hl : l.length = 16) : addL K n (addL K n l) = l := by
  apply ext_gd (by rw [addL, eachL_length, hl])
  intro i hi
  rw [addL, eachL_length] at hi
  rw [addL, eachL_gd _ _ _ hi, addL, eachL_gd _ _ _ hi, addG, addG, x8_assoc, x8_self, x8_zero]
theorem gmul_x8 (a b c : UInt8) : gmul a (x8 b c) = x8 (gmul a b) (gmul a c) := gmul_xor_right a b c
theorem mix16 (g0 g1 g2 g3 f0 f1 f2 f3 a0 a1 a2 a3 : UInt8) :
    x8 (x8 (x8 (gmul g0 (x8 (x8 (x8 (gmul f0 a0) (gmul f1 a1)) (gmul f2 a2)) (gmul f3 a3))) (gmul g1 (x8 (x8 (x8 (gmul f0 a1) (gmul f1 a2)) (gmul f2 a3)) (gmul f3 a0))))
      (gmul g2 (x8 (x8 (x8 (gmul f0 a2) (gmul f1 a3)) (gmul f2 a0)) (gmul f3 a1)))) (gmul g3 (x8 (x8 (x8 (gmul f0 a3) (gmul f1 a0)) (gmul f2 a1)) (gmul f3 a2))) =
    x8 (x8 (x8 (x8 (x8 (x8 (gmul g0 (gmul f0 a0)) (gmul g1 (gmul f3 a0))) (gmul g2 (gmul f2 a0))) (gmul g3 (gmul f1 a0)))
      (x8 (x8 (x8 (gmul g0 (gmul f1 a1)) (gmul g1 (gmul f0 a1))) (gmul g2 (gmul f3 a1))) (gmul g3 (gmul f2 a1))))
      (x8 (x8 (x8 (gmul g0 (gmul f2 a2)) (gmul g1 (gmul f1 a2))) (gmul g2 (gmul f0 a2))) (gmul g3 (gmul f3 a2))))
      (x8 (x8 (x8 (gmul g0 (gmul f3 a3)) (gmul g1 (gmul f2 a3))) (gmul g2 (gmul f1 a3))) (gmul g3 (gmul f0 a3))) := by
  simp only [gmul_x8]
  ac_rfl
theorem mixS_four (f l : List UInt8) (i : Nat) : mixS f l i 4 = x8 (x8 (x8 (gmul (gd f 0) (gd l (i / 4 * 4 + (i + 0) % 4))) (gmul (gd f 1) (gd l (i / 4 * 4 + (i + 1) % 4)))) (gmul (gd f 2) (gd l (i / 4 * 4 + (i + 2) % 4)))) (gmul (gd f 3) (gd l (i / 4 * 4 + (i + 3) % 4))) := by
  simp only [mixS, x8_zero_left]
theorem mix_mix (g f : List UInt8)
    (h0 : ∀ a, x8 (x8 (x8 (gmul (gd g 0) (gmul (gd f 0) a)) (gmul (gd g 1) (gmul (gd f 3) a))) (gmul (gd g 2) (gmul (gd f 2) a))) (gmul (gd g 3) (gmul (gd f 1) a)) = a)
    (h1 : ∀ a, x8 (x8 (x8 (gmul (gd g 0) (gmul (gd f 1) a)) (gmul (gd g 1) (gmul (gd f 0) a))) (gmul (gd g 2) (gmul (gd f 3) a))) (gmul (gd g 3) (gmul (gd f 2) a)) = 0)
    (h2 : ∀ a, x8 (x8 (x8 (gmul (gd g 0) (gmul (gd f 2) a)) (gmul (gd g 1) (gmul (gd f 1) a))) (gmul (gd g 2) (gmul (gd f 0) a))) (gmul (gd g 3) (gmul (gd f 3) a)) = 0)
    (h3 : ∀ a, x8 (x8 (x8 (gmul (gd g 0) (gmul (gd f 3) a)) (gmul (gd g 1) (gmul (gd f 2) a))) (gmul (gd g 2) (gmul (gd f 1) a))) (gmul (gd g 3) (gmul (gd f 0) a)) = 0)
    (l : List UInt8) (hl : l.length = 16) : mixL g (mixL f l) = l := by
  apply ext_gd (by rw [mixL, eachL_length, hl])
  intro i hi
  rw [mixL, eachL_length] at hi
  have key : ∀ k, k < 4 → gd (mixL f l) (i / 4 * 4 + (i + k) % 4) = x8 (x8 (x8 (gmul (gd f 0) (gd l (i / 4 * 4 + (i + k) % 4))) (gmul (gd f 1) (gd l (i / 4 * 4 + (i + (k + 1) % 4) % 4)))) (gmul (gd f 2) (gd l (i / 4 * 4 + (i + (k + 2) % 4) % 4)))) (gmul (gd f 3) (gd l (i / 4 * 4 + (i + (k + 3) % 4) % 4))) := by
    intro k hk
    have e : ∀ j, j < 4 → (i / 4 * 4 + (i + k) % 4) / 4 * 4 + ((i / 4 * 4 + (i + k) % 4) + j) % 4 = i / 4 * 4 + (i + (k + j) % 4) % 4 := by intro j hj; omega
    have e0 : (k + 0) % 4 = k := by omega
    rw [mixL, eachL_gd _ _ _ (by omega), mixS_four, e 0 (by omega), e 1 (by omega), e 2 (by omega), e 3 (by omega), e0]
  rw [mixL, eachL_gd _ _ _ hi, mixS_four, key 0 (by omega), key 1 (by omega), key 2 (by omega), key 3 (by omega)]
  simp only [Nat.reduceAdd, Nat.reduceMod]
  rw [mix16, h0, h1, h2, h3, x8_zero, x8_zero, x8_zero]
  congr 1; omega
theorem unmix_mix (l : List UInt8) (hl : l.length = 16) : mixL F2 (mixL F1 l) = l :=
  mix_mix F2 F1 (by apply u8_all; decide +kernel) (by apply u8_all; decide +kernel) (by apply u8_all; decide +kernel) (by apply u8_all; decide +kernel) l hl
theorem mix_unmix (l : List UInt8) (hl : l.length = 16) : mixL F1 (mixL F2 l) = l :=
  mix_mix F1 F2 (by apply u8_all; decide +kernel) (by apply u8_all; decide +kernel) (by apply u8_all; decide +kernel) (by apply u8_all; decide +kernel) l hl
theorem mixN_unmix (n : Nat) (l : List UInt8) (hl : l.length = 16) : mixN F1 n (mixN F2 n l) = l := by
  unfold mixN
  split
  · rfl
  · exact mix_unmix l hl
theorem mixN_mix (n : Nat) (l : List UInt8) (hl : l.length = 16) : mixN F2 n (mixN F1 n l) = l := by
  unfold mixN
  split
  · rfl
  · exact unmix_mix l hl

theorem subL_length (l : List UInt8) : (subL l).length = 16 := by rw [subL, eachL_length]
theorem unsubL_length (l : List UInt8) : (unsubL l).length = 16 := by rw [unsubL, eachL_length]
theorem shiftL_length (l : List UInt8) : (shiftL l).length = 16 := by rw [shiftL, eachL_length]
theorem unshiftL_length (l : List UInt8) : (unshiftL l).length = 16 := by rw [unshiftL, eachL_length]
theorem addL_length (K : List UInt8) (n : Nat) (l : List UInt8) : (addL K n l).length = 16 := by rw [addL, eachL_length]
/-- A round of decryption undoes the round of encryption. -/
theorem dec_enc (K : List UInt8) (n : Nat) (b : List UInt8) (hb : b.length = 16) : decPart K n (encPart K n b 4) 4 = b := by
  show unsubL (unshiftL (mixN F2 n (addL K n (addL K n (mixN F1 n (shiftL (subL b))))))) = b
  rw [add_add K n _ (mixN_length _ _ _ (shiftL_length _)), mixN_mix n _ (shiftL_length _), unshift_shift _ (subL_length _), unsub_sub _ hb]
theorem enc_dec (K : List UInt8) (n : Nat) (b : List UInt8) (hb : b.length = 16) : encPart K n (decPart K n b 4) 4 = b := by
  show addL K n (mixN F1 n (shiftL (subL (unsubL (unshiftL (mixN F2 n (addL K n b))))))) = b
  rw [sub_unsub _ (unshiftL_length _), shift_unshift _ (mixN_length _ _ _ (addL_length _ _ _)), mixN_unmix n _ (addL_length _ _ _), add_add K n _ hb]
/-- Encryption. -/
def encF (K l : List UInt8) : List UInt8 := encR K l 10
theorem dec_rounds (K l : List UInt8) (m : Nat) (hm : m ≤ 10) : decR K (encF K l) m = encR K l (10 - m) := by
  induction m with
  | zero => rfl
  | succ m ih =>
    show decPart K (10 - m) (decR K (encF K l) m) 4 = _
    rw [ih (by omega)]
    obtain ⟨j, hj⟩ : ∃ j, 10 - m = j + 1 := ⟨9 - m, by omega⟩
    rw [hj, show 10 - (m + 1) = j by omega]
    show decPart K (j + 1) (encPart K (j + 1) (encR K l j) 4) 4 = _
    rw [dec_enc _ _ _ (encR_length _ _ _)]
theorem decF_encF (K l : List UInt8) (hl : l.length = 16) : decF K (encF K l) = l := by
  rw [decF, dec_rounds K l 10 (by omega)]
  show addL K 0 (addL K 0 l) = l
  exact add_add K 0 l hl
theorem enc_rounds (K l : List UInt8) (hl : l.length = 16) (m : Nat) (hm : m ≤ 10) : encR K (decF K l) m = decR K l (10 - m) := by
  induction m with
  | zero =>
    show addL K 0 (addL K 0 (decR K l 10)) = _
    rw [add_add K 0 _ (decR_length _ _ hl _)]
  | succ m ih =>
    show encPart K (m + 1) (encR K (decF K l) m) 4 = _
    rw [ih (by omega)]
    obtain ⟨j, hj⟩ : ∃ j, 10 - m = j + 1 := ⟨9 - m, by omega⟩
    rw [hj, show 10 - (m + 1) = j by omega]
    show encPart K (m + 1) (decPart K (10 - j) (decR K l j) 4) 4 = _
    rw [show 10 - j = m + 1 by omega, enc_dec _ _ _ (decR_length _ _ hl _)]
theorem encF_decF (K l : List UInt8) (hl : l.length = 16) : encF K (decF K l) = l := by
  rw [encF, enc_rounds K l hl 10 (by omega)]
  rfl
theorem encF_length (K l : List UInt8) : (encF K l).length = 16 := encR_length K l 10
theorem decF_length (K l : List UInt8) : (decF K l).length = 16 := by rw [decF, addL_length]
theorem encF_inj (K a b : List UInt8) (ha : a.length = 16) (hb : b.length = 16) : encF K a = encF K b ↔ a = b :=
  ⟨fun h => by rw [← decF_encF K a ha, h, decF_encF K b hb], fun h => by rw [h]⟩
end Go.Proofs.Ytdgmahgidmjniaa
