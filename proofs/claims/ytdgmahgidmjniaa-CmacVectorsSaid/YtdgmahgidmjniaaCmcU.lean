/-
  CMAC: the published vectors, computed by the kernel, round by round.
-/
import Derived.Test.YtdgmahgidmjniaaVecL
import Derived.Test.YtdgmahgidmjniaaCmcI
set_option linter.unusedSimpArgs false
set_option linter.unusedVariables false
namespace Go.Proofs.Ytdgmahgidmjniaa
open Go.RowKit

def keyM : List UInt8 := [43, 126, 21, 22, 40, 174, 210, 166, 171, 247, 21, 136, 9, 207, 79, 60]
def msgM : List UInt8 := [107, 193, 190, 226, 46, 64, 159, 150, 233, 61, 126, 17, 115, 147, 23, 42]
def kkM : List UInt8 := [43, 126, 21, 22, 40, 174, 210, 166, 171, 247, 21, 136, 9, 207, 79, 60, 160, 250, 254, 23, 136, 84, 44, 177, 35, 163, 57, 57, 42, 108, 118, 5, 242, 194, 149, 242, 122, 150, 185, 67, 89, 53, 128, 122, 115, 89, 246, 127, 61, 128, 71, 125, 71, 22, 254, 62, 30, 35, 126, 68, 109, 122, 136, 59, 239, 68, 165, 65, 168, 82, 91, 127, 182, 113, 37, 59, 219, 11, 173, 0, 212, 209, 198, 248, 124, 131, 157, 135, 202, 242, 184, 188, 17, 249, 21, 188, 109, 136, 163, 122, 17, 11, 62, 253, 219, 249, 134, 65, 202, 0, 147, 253, 78, 84, 247, 14, 95, 95, 201, 243, 132, 166, 79, 178, 78, 166, 220, 79, 234, 210, 115, 33, 181, 141, 186, 210, 49, 43, 245, 96, 127, 141, 41, 47, 172, 119, 102, 243, 25, 250, 220, 33, 40, 209, 41, 65, 87, 92, 0, 110, 208, 20, 249, 168, 201, 238, 37, 137, 225, 63, 12, 200, 182, 99, 12, 166]
theorem kkM_steps : ∀ j : Fin 160, ksT (kkM.take (16 + j.val)) = gd kkM (16 + j.val) := by decide +kernel
theorem kkM_eq : ksL keyM 160 = kkM := ks_lit keyM kkM rfl rfl kkM_steps
def pmZ : List UInt8 := [0, 0, 0, 0, 0, 0, 0, 0, 0, 0, 0, 0, 0, 0, 0, 0]
def mZ_0 : List UInt8 := [43, 126, 21, 22, 40, 174, 210, 166, 171, 247, 21, 136, 9, 207, 79, 60]
def mZ_1 : List UInt8 := [220, 216, 127, 111, 155, 96, 170, 143, 31, 1, 15, 4, 87, 144, 162, 211]
def mZ_2 : List UInt8 := [158, 3, 133, 9, 68, 156, 70, 114, 195, 43, 10, 117, 56, 221, 130, 160]
def mZ_3 : List UInt8 := [213, 101, 103, 2, 107, 192, 49, 243, 205, 118, 100, 224, 41, 248, 252, 50]
def mZ_4 : List UInt8 := [92, 206, 255, 251, 217, 225, 254, 152, 156, 215, 223, 57, 123, 135, 232, 167]
def mZ_5 : List UInt8 := [145, 149, 183, 248, 144, 19, 154, 83, 4, 126, 151, 72, 124, 17, 228, 203]
def mZ_6 : List UInt8 := [100, 111, 117, 41, 247, 108, 188, 69, 253, 25, 147, 166, 126, 197, 52, 251]
def mZ_7 : List UInt8 := [235, 199, 86, 89, 85, 9, 177, 214, 46, 119, 46, 169, 17, 149, 33, 196]
def mZ_8 : List UInt8 := [13, 118, 221, 9, 100, 87, 20, 72, 106, 112, 150, 95, 42, 8, 136, 1]
def mZ_9 : List UInt8 := [24, 193, 85, 162, 169, 77, 94, 115, 239, 185, 116, 18, 251, 19, 120, 29]
def mZ_10 : List UInt8 := [125, 247, 107, 12, 26, 184, 153, 179, 62, 66, 240, 71, 185, 27, 84, 111]
theorem mZ_z : addL kkM 0 pmZ = mZ_0 := by decide +kernel
theorem mZ_n0 : encT kkM 1 mZ_0 = mZ_1 := by decide +kernel
theorem mZ_n1 : encT kkM 2 mZ_1 = mZ_2 := by decide +kernel
theorem mZ_n2 : encT kkM 3 mZ_2 = mZ_3 := by decide +kernel
theorem mZ_n3 : encT kkM 4 mZ_3 = mZ_4 := by decide +kernel
theorem mZ_n4 : encT kkM 5 mZ_4 = mZ_5 := by decide +kernel
theorem mZ_n5 : encT kkM 6 mZ_5 = mZ_6 := by decide +kernel
theorem mZ_n6 : encT kkM 7 mZ_6 = mZ_7 := by decide +kernel
theorem mZ_n7 : encT kkM 8 mZ_7 = mZ_8 := by decide +kernel
theorem mZ_n8 : encT kkM 9 mZ_8 = mZ_9 := by decide +kernel
theorem mZ_n9 : encT kkM 10 mZ_9 = mZ_10 := by decide +kernel
theorem encMZ : encR (ksL keyM 160) pmZ 10 = mZ_10 := by
  rw [kkM_eq]
  have e0 : encR kkM pmZ 0 = mZ_0 := mZ_z
  have e1 : encR kkM pmZ 1 = mZ_1 := enc_next e0 mZ_n0
  have e2 : encR kkM pmZ 2 = mZ_2 := enc_next e1 mZ_n1
  have e3 : encR kkM pmZ 3 = mZ_3 := enc_next e2 mZ_n2
  have e4 : encR kkM pmZ 4 = mZ_4 := enc_next e3 mZ_n3
  have e5 : encR kkM pmZ 5 = mZ_5 := enc_next e4 mZ_n4
  have e6 : encR kkM pmZ 6 = mZ_6 := enc_next e5 mZ_n5
  have e7 : encR kkM pmZ 7 = mZ_7 := enc_next e6 mZ_n6
  have e8 : encR kkM pmZ 8 = mZ_8 := enc_next e7 mZ_n7
  have e9 : encR kkM pmZ 9 = mZ_9 := enc_next e8 mZ_n8
  have e10 : encR kkM pmZ 10 = mZ_10 := enc_next e9 mZ_n9
  exact e10
def pmP : List UInt8 := [119, 221, 172, 48, 106, 226, 102, 204, 249, 11, 193, 30, 228, 109, 81, 59]
def mP_0 : List UInt8 := [92, 163, 185, 38, 66, 76, 180, 106, 82, 252, 212, 150, 237, 162, 30, 7]
def mP_1 : List UInt8 := [194, 255, 89, 57, 158, 98, 86, 242, 57, 47, 169, 81, 131, 49, 131, 70]
def mP_2 : List UInt8 := [212, 156, 73, 80, 173, 138, 82, 131, 109, 125, 88, 73, 234, 128, 29, 78]
def mP_3 : List UInt8 := [106, 165, 212, 239, 155, 194, 50, 103, 253, 63, 214, 53, 58, 97, 156, 1]
def mP_4 : List UInt8 := [14, 113, 241, 108, 30, 10, 231, 77, 249, 189, 154, 113, 127, 116, 204, 137]
def mP_5 : List UInt8 := [47, 192, 147, 148, 13, 136, 243, 128, 12, 79, 212, 226, 103, 114, 169, 187]
def mP_6 : List UInt8 := [178, 60, 199, 6, 194, 131, 182, 140, 237, 53, 215, 69, 155, 101, 5, 245]
def mP_7 : List UInt8 := [231, 84, 1, 98, 176, 159, 29, 191, 91, 92, 108, 14, 96, 195, 13, 10]
def mP_8 : List UInt8 := [152, 124, 53, 195, 195, 54, 71, 50, 69, 194, 2, 105, 171, 65, 108, 141]
def mP_9 : List UInt8 := [5, 255, 44, 241, 84, 64, 5, 122, 223, 32, 150, 160, 250, 28, 57, 145]
def mP_10 : List UInt8 := [187, 29, 105, 41, 233, 89, 55, 40, 127, 163, 125, 18, 155, 117, 103, 70]
theorem mP_z : addL kkM 0 pmP = mP_0 := by decide +kernel
theorem mP_n0 : encT kkM 1 mP_0 = mP_1 := by decide +kernel
theorem mP_n1 : encT kkM 2 mP_1 = mP_2 := by decide +kernel
theorem mP_n2 : encT kkM 3 mP_2 = mP_3 := by decide +kernel
theorem mP_n3 : encT kkM 4 mP_3 = mP_4 := by decide +kernel
theorem mP_n4 : encT kkM 5 mP_4 = mP_5 := by decide +kernel
theorem mP_n5 : encT kkM 6 mP_5 = mP_6 := by decide +kernel
theorem mP_n6 : encT kkM 7 mP_6 = mP_7 := by decide +kernel
theorem mP_n7 : encT kkM 8 mP_7 = mP_8 := by decide +kernel
theorem mP_n8 : encT kkM 9 mP_8 = mP_9 := by decide +kernel
theorem mP_n9 : encT kkM 10 mP_9 = mP_10 := by decide +kernel
theorem encMP : encR (ksL keyM 160) pmP 10 = mP_10 := by
  rw [kkM_eq]
  have e0 : encR kkM pmP 0 = mP_0 := mP_z
  have e1 : encR kkM pmP 1 = mP_1 := enc_next e0 mP_n0
  have e2 : encR kkM pmP 2 = mP_2 := enc_next e1 mP_n1
  have e3 : encR kkM pmP 3 = mP_3 := enc_next e2 mP_n2
  have e4 : encR kkM pmP 4 = mP_4 := enc_next e3 mP_n3
  have e5 : encR kkM pmP 5 = mP_5 := enc_next e4 mP_n4
  have e6 : encR kkM pmP 6 = mP_6 := enc_next e5 mP_n5
  have e7 : encR kkM pmP 7 = mP_7 := enc_next e6 mP_n6
  have e8 : encR kkM pmP 8 = mP_8 := enc_next e7 mP_n7
  have e9 : encR kkM pmP 9 = mP_9 := enc_next e8 mP_n8
  have e10 : encR kkM pmP 10 = mP_10 := enc_next e9 mP_n9
  exact e10
def pmQ : List UInt8 := [144, 47, 104, 250, 27, 49, 172, 240, 149, 184, 158, 158, 1, 165, 191, 244]
def mQ_0 : List UInt8 := [187, 81, 125, 236, 51, 159, 126, 86, 62, 79, 139, 22, 8, 106, 240, 200]
def mQ_1 : List UInt8 := [204, 18, 150, 31, 192, 197, 33, 96, 20, 190, 164, 112, 150, 172, 163, 249]
def mQ_2 : List UInt8 := [69, 156, 90, 233, 54, 181, 226, 169, 94, 141, 187, 213, 164, 13, 189, 66]
def mQ_3 : List UInt8 := [67, 86, 71, 168, 206, 57, 112, 42, 161, 196, 248, 120, 29, 36, 49, 160]
def mQ_4 : List UInt8 := [76, 89, 20, 231, 132, 113, 4, 189, 205, 49, 78, 42, 173, 153, 197, 116]
def mQ_5 : List UInt8 := [197, 70, 191, 48, 162, 44, 245, 52, 2, 231, 138, 128, 113, 9, 128, 240]
def mQ_6 : List UInt8 := [91, 194, 7, 135, 11, 74, 29, 226, 38, 140, 200, 225, 82, 235, 241, 62]
def mQ_7 : List UInt8 := [7, 75, 30, 4, 19, 83, 230, 101, 12, 84, 115, 183, 125, 227, 185, 37]
def mQ_8 : List UInt8 := [231, 99, 31, 105, 139, 184, 70, 220, 218, 44, 41, 128, 115, 47, 130, 65]
def mQ_9 : List UInt8 := [13, 76, 81, 128, 26, 233, 166, 237, 255, 113, 97, 122, 211, 29, 140, 196]
def mQ_10 : List UInt8 := [7, 10, 22, 180, 107, 77, 65, 68, 247, 155, 221, 157, 208, 74, 40, 124]
theorem mQ_z : addL kkM 0 pmQ = mQ_0 := by decide +kernel
theorem mQ_n0 : encT kkM 1 mQ_0 = mQ_1 := by decide +kernel
theorem mQ_n1 : encT kkM 2 mQ_1 = mQ_2 := by decide +kernel
theorem mQ_n2 : encT kkM 3 mQ_2 = mQ_3 := by decide +kernel
theorem mQ_n3 : encT kkM 4 mQ_3 = mQ_4 := by decide +kernel
theorem mQ_n4 : encT kkM 5 mQ_4 = mQ_5 := by decide +kernel
theorem mQ_n5 : encT kkM 6 mQ_5 = mQ_6 := by decide +kernel
theorem mQ_n6 : encT kkM 7 mQ_6 = mQ_7 := by decide +kernel
theorem mQ_n7 : encT kkM 8 mQ_7 = mQ_8 := by decide +kernel
theorem mQ_n8 : encT kkM 9 mQ_8 = mQ_9 := by decide +kernel
theorem mQ_n9 : encT kkM 10 mQ_9 = mQ_10 := by decide +kernel
theorem encMQ : encR (ksL keyM 160) pmQ 10 = mQ_10 := by
  rw [kkM_eq]
  have e0 : encR kkM pmQ 0 = mQ_0 := mQ_z
  have e1 : encR kkM pmQ 1 = mQ_1 := enc_next e0 mQ_n0
  have e2 : encR kkM pmQ 2 = mQ_2 := enc_next e1 mQ_n1
  have e3 : encR kkM pmQ 3 = mQ_3 := enc_next e2 mQ_n2
  have e4 : encR kkM pmQ 4 = mQ_4 := enc_next e3 mQ_n3
  have e5 : encR kkM pmQ 5 = mQ_5 := enc_next e4 mQ_n4
  have e6 : encR kkM pmQ 6 = mQ_6 := enc_next e5 mQ_n5
  have e7 : encR kkM pmQ 7 = mQ_7 := enc_next e6 mQ_n6
  have e8 : encR kkM pmQ 8 = mQ_8 := enc_next e7 mQ_n7
  have e9 : encR kkM pmQ 9 = mQ_9 := enc_next e8 mQ_n8
  have e10 : encR kkM pmQ 10 = mQ_10 := enc_next e9 mQ_n9
  exact e10
def subM1 : List UInt8 := [251, 238, 214, 24, 53, 113, 51, 102, 124, 133, 224, 143, 114, 54, 168, 222]
def subM2 : List UInt8 := [247, 221, 172, 48, 106, 226, 102, 204, 249, 11, 193, 30, 228, 109, 81, 59]
theorem subM1_dbl : dblL mZ_10 = subM1 := by decide +kernel
theorem subM2_dbl : dblL subM1 = subM2 := by decide +kernel
theorem subM1_eq : sub1 keyM = subM1 := by
  unfold sub1
  rw [show Z16 = pmZ from rfl, encMZ]; exact subM1_dbl
theorem subM2_eq : sub2 keyM = subM2 := by
  unfold sub2
  rw [subM1_eq]; exact subM2_dbl

theorem cmac_first (key l : List UInt8) (h : l.length ≤ 16) : cmacL key l = encR (ksL key 160) (xrL Z16 (lastL key (blk l 0) (bln l 0))) 10 := by
  have hn : nbl l = 1 := by
    unfold nbl
    split <;> omega
  have hm : macB key l 0 = lastL key (blk l 0) (bln l 0) := by rw [macB, if_pos (by rw [hn])]
  rw [cmacL, hn, macS, macS, hm]
theorem macM_nil : cmacL keyM [] = mP_10 := by
  rw [cmac_first keyM [] (by decide), lastL, if_neg (by decide), subM2_eq, show xrL Z16 (xrL ((blk [] 0).set (bln [] 0) 0x80) subM2) = pmP by decide +kernel]
  exact encMP
theorem macM_msg : cmacL keyM msgM = mQ_10 := by
  rw [cmac_first keyM msgM (by decide), lastL, if_pos (by decide), subM1_eq, show xrL Z16 (xrL (blk msgM 0) subM1) = pmQ by decide +kernel]
  exact encMQ
theorem xr_zeros : ∀ (r : List UInt8) (n : Nat), r.length = n → List.zipWith x8 (List.replicate n 0) r = r
  | [], 0, _ => rfl
  | [], n + 1, h => by cases h
  | x :: r, 0, h => by cases h
  | x :: r, n + 1, h => by
    rw [List.replicate_succ, List.zipWith_cons_cons, xr_zeros r n (by simpa using h), show x8 0 x = x by unfold x8; simp]
theorem xrL_zero_set (s : List UInt8) (hs : s.length = 16) : xrL Z16 (xrL ((blk [] 0).set (bln [] 0) 0x80) s) = s.set 0 (x8 (gd s 0) 0x80) := by
  have h1 : (blk [] 0).set (bln [] 0) 0x80 = 0x80 :: List.replicate 15 0 := by decide
  cases s with
  | nil => cases hs
  | cons x r =>
    have hr : r.length = 15 := by simpa using hs
    have h2 : xrL (0x80 :: List.replicate 15 0) (x :: r) = x8 0x80 x :: r := by
      unfold xrL
      rw [List.zipWith_cons_cons, xr_zeros r 15 hr]
    rw [h1, h2]
    unfold xrL Z16
    rw [xr_zeros _ 16 (by simp [hr])]
    have hc : x8 0x80 x = x8 x 0x80 := by unfold x8; exact UInt8.xor_comm _ _
    rw [hc]
    rfl
theorem mac_nil (key : List UInt8) : cmacL key [] = encR (ksL key 160) ((sub2 key).set 0 (x8 (gd (sub2 key) 0) 0x80)) 10 := by
  rw [cmac_first key [] (by decide), lastL, if_neg (by decide), xrL_zero_set _ (sub2_length key)]

end Go.Proofs.Ytdgmahgidmjniaa
