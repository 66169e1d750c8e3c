/-
  AES: the published test vector, computed by the kernel, round by round.
-/
import Derived.Test.YtdgmahgidmjniaaAesE8
namespace Go.Proofs.Ytdgmahgidmjniaa
open Go.RowKit

def sbT (x : UInt8) : UInt8 := TAB.getD x.toNat 0
theorem sbox_sbT (x : UInt8) : sbox x = sbT x := by unfold sbox sbT; rw [stF_table]
def ksT (l : List UInt8) : UInt8 :=
  if l.length % 16 = 0 then x8 (x8 (gd l (l.length - 16)) (sbT (gd l (l.length - 3)))) (rc (l.length / 16))
  else x8 (gd l (l.length - 16))
    (if l.length % 16 < 4 then sbT (gd l (l.length / 16 * 16 - 4 + (l.length % 16 + 1) % 4))
     else gd l (l.length - 4))
theorem ksT_eq (l : List UInt8) : ksNext l = ksT l := by unfold ksNext ksT; simp only [sbox_sbT]
theorem ks_lit (key K : List UInt8) (hK : K.length = 176) (h0 : K.take 16 = key) (hs : ∀ j : Fin 160, ksT (K.take (16 + j.val)) = gd K (16 + j.val)) : ksL key 160 = K := by
  have : ∀ j, j ≤ 160 → ksL key j = K.take (16 + j) := by
    intro j hj
    induction j with
    | zero => exact h0.symm
    | succ j ih =>
      rw [ksL, ih (by omega), ksT_eq, hs ⟨j, by omega⟩]
      rw [show 16 + (j + 1) = (16 + j) + 1 by omega, List.take_succ_eq_append_getElem (by omega)]
      simp [gd, show 16 + j < K.length by omega]
  rw [this 160 (Nat.le_refl _), List.take_of_length_le (by omega)]
def encT (K : List UInt8) (n : Nat) (b : List UInt8) : List UInt8 := addL K n (mixN F1 n (shiftL (eachL (fun _ x => sbT x) b)))
theorem encT_eq (K : List UInt8) (n : Nat) (b : List UInt8) : encPart K n b 4 = encT K n b := by
  have : subL b = eachL (fun _ x => sbT x) b := by unfold subL; simp only [sbox_sbT]
  unfold encT
  rw [← this]
  rfl
theorem enc_next {K l s t : List UInt8} {n : Nat} (h : encR K l n = s) (k : encT K (n + 1) s = t) : encR K l (n + 1) = t := by
  rw [← k, ← encT_eq, ← h]; rfl

def keyV : List UInt8 := [0, 1, 2, 3, 4, 5, 6, 7, 8, 9, 10, 11, 12, 13, 14, 15]
def kkV : List UInt8 := [0, 1, 2, 3, 4, 5, 6, 7, 8, 9, 10, 11, 12, 13, 14, 15, 214, 170, 116, 253, 210, 175, 114, 250, 218, 166, 120, 241, 214, 171, 118, 254, 182, 146, 207, 11, 100, 61, 189, 241, 190, 155, 197, 0, 104, 48, 179, 254, 182, 255, 116, 78, 210, 194, 201, 191, 108, 89, 12, 191, 4, 105, 191, 65, 71, 247, 247, 188, 149, 53, 62, 3, 249, 108, 50, 188, 253, 5, 141, 253, 60, 170, 163, 232, 169, 159, 157, 235, 80, 243, 175, 87, 173, 246, 34, 170, 94, 57, 15, 125, 247, 166, 146, 150, 167, 85, 61, 193, 10, 163, 31, 107, 20, 249, 112, 26, 227, 95, 226, 140, 68, 10, 223, 77, 78, 169, 192, 38, 71, 67, 135, 53, 164, 28, 101, 185, 224, 22, 186, 244, 174, 191, 122, 210, 84, 153, 50, 209, 240, 133, 87, 104, 16, 147, 237, 156, 190, 44, 151, 78, 19, 17, 29, 127, 227, 148, 74, 23, 243, 7, 167, 139, 77, 43, 48, 197]
def sV_0 : List UInt8 := [0, 16, 32, 48, 64, 80, 96, 112, 128, 144, 160, 176, 192, 208, 224, 240]
def sV_1 : List UInt8 := [137, 216, 16, 232, 133, 90, 206, 104, 45, 24, 67, 216, 203, 18, 143, 228]
def sV_2 : List UInt8 := [73, 21, 89, 143, 85, 229, 215, 160, 218, 202, 148, 250, 31, 10, 99, 247]
def sV_3 : List UInt8 := [250, 99, 106, 40, 37, 179, 57, 201, 64, 102, 138, 49, 87, 36, 77, 23]
def sV_4 : List UInt8 := [36, 114, 64, 35, 105, 102, 179, 250, 110, 210, 117, 50, 136, 66, 91, 108]
def sV_5 : List UInt8 := [200, 22, 119, 188, 155, 122, 201, 59, 37, 2, 121, 146, 176, 38, 25, 150]
def sV_6 : List UInt8 := [198, 47, 225, 9, 247, 94, 237, 195, 204, 121, 57, 93, 132, 249, 207, 93]
def sV_7 : List UInt8 := [209, 135, 108, 15, 121, 196, 48, 10, 180, 85, 148, 173, 214, 111, 244, 31]
def sV_8 : List UInt8 := [253, 227, 186, 210, 5, 229, 208, 215, 53, 71, 150, 78, 241, 254, 55, 241]
def sV_9 : List UInt8 := [189, 110, 124, 61, 242, 181, 119, 158, 11, 97, 33, 110, 139, 16, 182, 137]
def sV_10 : List UInt8 := [105, 196, 224, 216, 106, 123, 4, 48, 216, 205, 183, 128, 112, 180, 197, 90]
theorem kkV_steps : ∀ j : Fin 160, ksT (kkV.take (16 + j.val)) = gd kkV (16 + j.val) := by decide +kernel
theorem kkV_eq : ksL keyV 160 = kkV := ks_lit keyV kkV rfl rfl kkV_steps
theorem sV_z : addL kkV 0 [0, 17, 34, 51, 68, 85, 102, 119, 136, 153, 170, 187, 204, 221, 238, 255] = sV_0 := by decide +kernel
theorem sV_n0 : encT kkV 1 sV_0 = sV_1 := by decide +kernel
theorem sV_n1 : encT kkV 2 sV_1 = sV_2 := by decide +kernel
theorem sV_n2 : encT kkV 3 sV_2 = sV_3 := by decide +kernel
theorem sV_n3 : encT kkV 4 sV_3 = sV_4 := by decide +kernel
theorem sV_n4 : encT kkV 5 sV_4 = sV_5 := by decide +kernel
theorem sV_n5 : encT kkV 6 sV_5 = sV_6 := by decide +kernel
theorem sV_n6 : encT kkV 7 sV_6 = sV_7 := by decide +kernel
theorem sV_n7 : encT kkV 8 sV_7 = sV_8 := by decide +kernel
theorem sV_n8 : encT kkV 9 sV_8 = sV_9 := by decide +kernel
theorem sV_n9 : encT kkV 10 sV_9 = sV_10 := by decide +kernel
theorem encV : encR (ksL keyV 160) [0, 17, 34, 51, 68, 85, 102, 119, 136, 153, 170, 187, 204, 221, 238, 255] 10 = [105, 196, 224, 216, 106, 123, 4, 48, 216, 205, 183, 128, 112, 180, 197, 90] := by
  rw [kkV_eq]
  have e0 : encR kkV [0, 17, 34, 51, 68, 85, 102, 119, 136, 153, 170, 187, 204, 221, 238, 255] 0 = sV_0 := sV_z
  have e1 : encR kkV [0, 17, 34, 51, 68, 85, 102, 119, 136, 153, 170, 187, 204, 221, 238, 255] 1 = sV_1 := enc_next e0 sV_n0
  have e2 : encR kkV [0, 17, 34, 51, 68, 85, 102, 119, 136, 153, 170, 187, 204, 221, 238, 255] 2 = sV_2 := enc_next e1 sV_n1
  have e3 : encR kkV [0, 17, 34, 51, 68, 85, 102, 119, 136, 153, 170, 187, 204, 221, 238, 255] 3 = sV_3 := enc_next e2 sV_n2
  have e4 : encR kkV [0, 17, 34, 51, 68, 85, 102, 119, 136, 153, 170, 187, 204, 221, 238, 255] 4 = sV_4 := enc_next e3 sV_n3
  have e5 : encR kkV [0, 17, 34, 51, 68, 85, 102, 119, 136, 153, 170, 187, 204, 221, 238, 255] 5 = sV_5 := enc_next e4 sV_n4
  have e6 : encR kkV [0, 17, 34, 51, 68, 85, 102, 119, 136, 153, 170, 187, 204, 221, 238, 255] 6 = sV_6 := enc_next e5 sV_n5
  have e7 : encR kkV [0, 17, 34, 51, 68, 85, 102, 119, 136, 153, 170, 187, 204, 221, 238, 255] 7 = sV_7 := enc_next e6 sV_n6
  have e8 : encR kkV [0, 17, 34, 51, 68, 85, 102, 119, 136, 153, 170, 187, 204, 221, 238, 255] 8 = sV_8 := enc_next e7 sV_n7
  have e9 : encR kkV [0, 17, 34, 51, 68, 85, 102, 119, 136, 153, 170, 187, 204, 221, 238, 255] 9 = sV_9 := enc_next e8 sV_n8
  have e10 : encR kkV [0, 17, 34, 51, 68, 85, 102, 119, 136, 153, 170, 187, 204, 221, 238, 255] 10 = sV_10 := enc_next e9 sV_n9
  exact e10
end Go.Proofs.Ytdgmahgidmjniaa
