/-
  CMAC: the law on the chain of states.
-/
import Derived.Test.YtdgmahgidmjniaaCmcJ
set_option linter.unusedSimpArgs false
set_option linter.unusedVariables false
namespace Go.Proofs.Ytdgmahgidmjniaa
open Go.RowKit
attribute [-go_sem] Instr.build

theorem xrL_assoc : ∀ (a b c : List UInt8), a.length = b.length → b.length = c.length → xrL (xrL a b) c = xrL a (xrL b c)
  | [], [], [], _, _ => rfl
  | x :: a, y :: b, z :: c, h1, h2 => by
    have ih := xrL_assoc a b c (by simpa using h1) (by simpa using h2)
    unfold xrL at ih ⊢
    simp only [List.zipWith_cons_cons, ih]
    congr 1
    unfold x8
    exact UInt8.xor_assoc _ _ _
  | [], _ :: _, _, h, _ => by cases h
  | _ :: _, [], _, h, _ => by cases h
  | [], [], _ :: _, _, h => by cases h
  | _ :: _, _ :: _, [], _, h => by cases h
theorem zip_zero : ∀ (r : List UInt8) (n : Nat), r.length = n → List.zipWith x8 (List.replicate n 0) r = r
  | [], 0, _ => rfl
  | [], n + 1, h => by cases h
  | x :: r, 0, h => by cases h
  | x :: r, n + 1, h => by
    rw [List.replicate_succ, List.zipWith_cons_cons, zip_zero r n (by simpa using h), show x8 0 x = x by unfold x8; simp]
theorem byt_take {w : World} {a : Option Addr} {l : List UInt8} (h : Byt w a l) (k : Nat) : Byt w a (l.take k) := fun h0 => by
  rw [List.length_take] at h0
  obtain ⟨b, o, e, hl, hc⟩ := h (by omega)
  refine ⟨b, o, e, hl, fun i hi => ?_⟩
  rw [List.length_take] at hi
  rw [gd_take _ _ _ (by omega)]
  exact hc i (by omega)
theorem len_M (m : List UInt8) (n : Nat) (_hn : 1 ≤ n) (hm : 16 * n ≤ m.length) : (m.take (16 * n)).length = 16 * n := by rw [List.length_take]; omega
theorem nbl_M (m : List UInt8) (n : Nat) (hn : 1 ≤ n) (hm : 16 * n ≤ m.length) : nbl (m.take (16 * n)) = n := by
  unfold nbl
  rw [len_M m n hn hm, if_neg (by omega)]; omega
theorem bln_M (m : List UInt8) (n : Nat) (hn : 1 ≤ n) (hm : 16 * n ≤ m.length) (i : Nat) (h : i < n) : bln (m.take (16 * n)) i = 16 := by
  unfold bln
  rw [len_M m n hn hm]; omega
theorem gdM (m : List UInt8) (n : Nat) (hn : 1 ≤ n) (hm : 16 * n ≤ m.length) (i j : Nat) (h : i < n) (hj : j < 16) : gd (blk (m.take (16 * n)) i) j = gd m (16 * i + j) := by
  rw [gd_blk _ _ _ (by rw [bln_M m n hn hm i h]; exact hj), gd_take _ _ _ (by omega)]
theorem macM_next (key m : List UInt8) (n : Nat) (hn : 1 ≤ n) (hm : 16 * n ≤ m.length) (i : Nat) (h : i + 1 < n) : macS key (m.take (16 * n)) (i + 1) = encR (ksL key 160) (xrL (macS key (m.take (16 * n)) i) (blk (m.take (16 * n)) i)) 10 := by
  rw [macS, macB, nbl_M m n hn hm, if_neg (by omega)]
/-- The state behind the last block but its encryption. -/
def stM (key m : List UInt8) (n : Nat) : List UInt8 := xrL (macS key (m.take (16 * n)) (n - 1)) (blk (m.take (16 * n)) (n - 1))
theorem stM_length (key m : List UInt8) (n : Nat) : (stM key m n).length = 16 := by rw [stM, xrL_length, macS_length, blk_length]; rfl
theorem chain_eq (key m : List UInt8) (n : Nat) (hn : 1 ≤ n) (hm : 16 * n ≤ m.length) : cmacL key (stM key m n) = cmacL key (m.take (16 * n)) := by
  have hl := stM_length key m n
  have h1 : cmacL key (m.take (16 * n)) = encR (ksL key 160) (xrL (macS key (m.take (16 * n)) (n - 1)) (xrL (blk (m.take (16 * n)) (n - 1)) (sub1 key))) 10 := by
    rw [cmacL, nbl_M m n hn hm]
    obtain ⟨k, rfl⟩ : ∃ k, n = k + 1 := ⟨n - 1, by omega⟩
    rw [macS, macB, nbl_M m (k + 1) hn hm, if_pos rfl, lastL, bln_M m (k + 1) hn hm k (by omega), if_pos rfl]
    rfl
  have n1 : nbl (stM key m n) = 1 := by unfold nbl; rw [hl]; rfl
  have b1 : bln (stM key m n) 0 = 16 := by unfold bln; rw [hl]; rfl
  have k1 : blk (stM key m n) 0 = stM key m n := by
    unfold blk
    rw [b1, Nat.mul_zero, List.drop_zero, List.take_of_length_le (by omega)]
    simp
  have h2 : cmacL key (stM key m n) = encR (ksL key 160) (xrL Z16 (xrL (stM key m n) (sub1 key))) 10 := by
    rw [cmacL, n1, macS, macS, macB, n1, if_pos rfl, lastL, b1, if_pos rfl, k1]
  have h3 : xrL Z16 (xrL (stM key m n) (sub1 key)) = xrL (stM key m n) (sub1 key) := zip_zero _ 16 (by rw [xrL_length, hl, sub1_length]; rfl)
  rw [h1, h2, h3, stM, xrL_assoc _ _ _ (by rw [macS_length, blk_length]) (by rw [blk_length, sub1_length])]
/-- The state of the chain when k blocks have come. -/
def chM (key m : List UInt8) (n k : Nat) : List UInt8 := if k < n then macS key (m.take (16 * n)) k else stM key m n
theorem chM_length (key m : List UInt8) (n k : Nat) : (chM key m n k).length = 16 := by
  unfold chM
  split
  · exact macS_length _ _ _
  · exact stM_length _ _ _
theorem chM_last (key m : List UInt8) (n k : Nat) (h : k + 1 = n) : xrL (chM key m n k) (blk (m.take (16 * n)) k) = chM key m n (k + 1) := by
  unfold chM
  rw [if_pos (by omega), if_neg (by omega), stM, ← h]; rfl
theorem chM_next (key m : List UInt8) (n : Nat) (hn : 1 ≤ n) (hm : 16 * n ≤ m.length) (k : Nat) (h : k + 1 < n) : encR (ksL key 160) (xrL (chM key m n k) (blk (m.take (16 * n)) k)) 10 = chM key m n (k + 1) := by
  unfold chM
  rw [if_pos (by omega), if_pos h, macM_next key m n hn hm k h]
set_option maxRecDepth 100000 in
set_option maxHeartbeats 8000000 in
theorem chains_ok (key : List UInt8) (hk : key.length = 16) (v : Value) (l : List UInt8) (w : World) (hv : Bsl w v l) (hlen : l.length ≤ 300) (h32 : 32 ≤ l.length) :
    Calls Try.prog 22 #[.agg (bytesV key), v] w fun e w' => e = .returned (.bool true) ∧ Below w.heap.size w w' := by
  have z2 : ∀ w, (zeroValue 22).run Try.prog w = .ok (.agg (bytesV Z16)) w := (zero_of_info zero22).1
  obtain ⟨n, hn⟩ : ∃ n, n = l.length / 16 := ⟨_, rfl⟩
  have hn2 : 2 ≤ n := by omega
  have hn3 : n ≤ 18 := by omega
  obtain ⟨T, hT⟩ : ∃ T, T = 16 * n := ⟨_, rfl⟩
  have hTl : T ≤ l.length := by omega
  have hqt : (l.length : Int).tdiv 16 = (n : Int) := by rw [Int.tdiv_eq_ediv_of_nonneg (by omega)]; omega
  have hwn : IntKind.i64.wrap (n : Int) = (n : Int) := IntWalk.i64_in _ (by omega)
  have hT16 : 16 * (n : Int) = (T : Int) := by omega
  have hwT : IntKind.i64.wrap (T : Int) = (T : Int) := IntWalk.i64_in _ (by omega)
  have hwn1 : IntKind.i64.wrap ((n : Int) - 1) = (n : Int) - 1 := IntWalk.i64_in _ (by omega)
  have hMl := len_M l n (by omega) (by omega)
  obtain ⟨M, hM⟩ : ∃ M, M = l.take (16 * n) := ⟨_, rfl⟩
  have HG := Lib.hid (fun i j (h : i < n) (hj : j < 16) => show gd l (16 * i + j) = gd (blk M i) j by rw [hM]; exact (gdM l n (by omega) (by omega) i j h hj).symm)
  have HC0 := Lib.hid (show chM key l n 0 = Z16 by unfold chM; rw [if_pos (by omega)]; rfl)
  have HCL := Lib.hid (fun k (h : k + 1 = n) => show xrL (chM key l n k) (blk M k) = chM key l n (k + 1) by rw [hM]; exact chM_last key l n k h)
  have HCN := Lib.hid (fun k (h : k + 1 < n) => show encR (ksL key 160) (xrL (chM key l n k) (blk M k)) 10 = chM key l n (k + 1) by rw [hM]; exact chM_next key l n (by omega) (by omega) k h)
  have hsumM := fun v w h => cmacsum_ok key hk v M w h (by rw [hM, hMl]; omega)
  have hST : chM key l n n = stM key l n := by unfold chM; rw [if_neg (by omega)]
  have hsumS := fun v w h => cmacsum_ok key hk v (stM key l n) w h (by rw [stM_length]; decide)
  rw [chain_eq key l n (by omega) (by omega), ← hM] at hsumS
  rw [← hST] at hsumS
  have lC := Lib.hid (fun k => chM_length key l n k)
  obtain ⟨CH, hCH⟩ : ∃ CH, CH = chM key l n := ⟨_, rfl⟩
  rw [← hCH] at HC0 HCL HCN hsumS lC
  clear hCH hST
  have hcl := Lib.hid (cmacL_length key M)
  obtain ⟨CM, hCM⟩ : ∃ CM, CM = cmacL key M := ⟨_, rfl⟩
  rw [← hCM] at hsumM hsumS hcl
  clear hCM
  obtain ⟨K, hK⟩ : ∃ K, K = ksL key 160 := ⟨_, rfl⟩
  have lK := Lib.hid (show K.length = 176 by rw [hK, ksL_length key hk])
  have hnew := fun w => new_any key hk w
  rw [← hK] at hnew HCN
  clear hK
  have e1 : ∀ w, (binOp .eql 22 (.agg (bytesV CM)) (.agg (bytesV CM))).run Try.prog w = .ok (.bool true) w := fun w => by rw [run_eql22 _ _ hcl.out hcl.out, decide_self]
  have hg := guard22'
  obtain ⟨a, cap, rfl, q1, q2, q3, q4⟩ := hv
  obtain ⟨mb, mo, rfl, hml, hmc⟩ := q4 (by omega)
  have hvM : Bsl w (.slice (some ⟨mb, mo, none⟩) T cap) M := ⟨some ⟨mb, mo, none⟩, cap, by rw [hM, hMl, hT], by rw [hM, hMl]; omega, q2, (fun h => nomatch h), by rw [hM]; exact byt_take q4 _⟩
  have hcap : (T : Int) ≤ cap := by omega
  have hmc' := Lib.hid hmc
  have HT := Lib.hid hT
  have hlI : (l.length : Int) ≤ 300 := by omega
  have hnI : (2 : Int) ≤ n := by omega
  have hTl0 : (0 : Int) ≤ T := by omega
  obtain ⟨L, hL⟩ : ∃ L, L = l.length := ⟨_, rfl⟩
  have HL := Lib.hid hL
  rw [← hL] at hqt hlI hTl q1 ⊢
  clear hM hMl q3 q4 hmc hn hT hL h32 hlen
  have b0 : Blk (w.alloc (.cells (bytesV key) 22)) w.heap.size (bytesV key) 22 := Blk.new' rfl
  have hB : Below w.heap.size w (w.alloc (.cells (bytesV key) 22)) := (Below.refl _ _).alloc (Nat.le_refl _) _
  go_enter Try.func22, Try.ntmps22
  go_wp2_with (first
    | ((with_reducible refine wpList_load_blk rfl 22 (.tmp 2) rfl w.heap.size 0 16 rfl b0 row22 ?_ (bytesV key) ?_ ?_); (rw [bytesV_size, hk]; exact Nat.le_refl _); (exact bytesV_whole _ _ hk))
    | (go_at_call 39; (with_reducible refine (hnew _).mono ?_); rintro e w1 ⟨bC, rfl, cb, hb1⟩; replace b0 := b0.below hb1 b0.lt; replace hB := bnext hB hb1; clear hb1; have n0 := b0.lt; have n1 := cb.lt)
    | fail)
  obtain ⟨b7, hb7⟩ : ∃ b7, b7 = w1.heap.size := ⟨_, rfl⟩
  obtain ⟨W1, hW1⟩ : ∃ W1, W1 = w1.alloc (.cells (bytesV Z16) 22) := ⟨_, rfl⟩
  have hbx : Below w1.heap.size w1 W1 := by rw [hW1]; exact (Below.refl _ _).alloc (Nat.le_refl _) _
  have d7 : Blk W1 b7 (bytesV (CH 0)) 22 := by rw [hW1, HC0.out, hb7]; exact Blk.new' rfl
  rw [← hW1, ← hb7]
  rw [← hb7] at n0 n1
  replace b0 := b0.below hbx b0.lt
  replace cb := cb.below hbx cb.lt
  replace hB := bnext hB hbx
  clear hW1 hbx hb7
  go_loopw [8] (fun t8 wr => ∃ k : Nat, k ≤ n ∧ t8 = .int .i64 k ∧ Blk wr b7 (bytesV (CH k)) 22 ∧ Blk wr w.heap.size (bytesV key) 22 ∧ Blk wr bC (bytesV (cip K)) 59 ∧ Below w.heap.size w wr) (fun t _ => n - (intOf t).toNat)
  case atStart => exact ⟨0, by omega, rfl, d7, b0, cb, hB⟩
  case round =>
    clear d7 b0 cb hB
    obtain ⟨k, hkn, rfl, d7, b0, cb, hB⟩ := hrel
    by_cases hlt : k < n
    · obtain ⟨S, hS⟩ : ∃ S, S = CH k := ⟨_, rfl⟩
      obtain ⟨MB, hMB⟩ : ∃ MB, MB = blk M k := ⟨_, rfl⟩
      obtain ⟨NS, hN⟩ : ∃ N, N = xrL S MB := ⟨_, rfl⟩
      have hSl := Lib.hid (show S.length = 16 by rw [hS, lC.out])
      have hMBl := Lib.hid (show MB.length = 16 by rw [hMB, blk_length])
      have hNl := Lib.hid (show NS.length = 16 by rw [hN, xrL_length, hSl.out, hMBl.out]; rfl)
      have hNg := Lib.hid (fun j (hj : j < 16) => show x8 (gd S j) (gd MB j) = gd NS j by rw [hN, gd_xrL _ _ _ (by rw [hSl.out]; exact hj) (by rw [hMBl.out]; exact hj)])
      have hFi := Lib.hid (fun j (hj : j < 16) => show gd l (16 * k + j) = gd MB j by rw [hMB]; exact HG.out k j hlt hj)
      have hlast := Lib.hid (fun (h : k + 1 = n) => show NS = CH (k + 1) by rw [hN, hS, hMB]; exact HCL.out k h)
      have hnext := Lib.hid (fun (h : k + 1 < n) => show encR K NS 10 = CH (k + 1) by rw [hN, hS, hMB]; exact HCN.out k h)
      have hd0 : Blk wr b7 (bytesV (NS.take 0 ++ S.drop 0)) 22 := by rw [hS]; exact d7
      have hkI : (k : Int) < n := by omega
      clear hS hMB hN d7
      go_wp2_with fail
      obtain ⟨wo, hwo⟩ : ∃ wo : World, wo = wr := ⟨_, rfl⟩
      rw [← hwo] at hd0 b0 cb hB ⊢
      clear hwo
      go_loopw [9] (fun t9 wu => ∃ j : Nat, j ≤ 16 ∧ t9 = .int .i64 j ∧ Blk wu b7 (bytesV (NS.take j ++ S.drop j)) 22 ∧ Blk wu w.heap.size (bytesV key) 22 ∧ Blk wu bC (bytesV (cip K)) 59 ∧ Below w.heap.size w wu) (fun t _ => 16 - (intOf t).toNat)
      case atStart => exact ⟨0, by omega, rfl, hd0, b0, cb, hB⟩
      case round =>
        clear hd0 b0 cb hB
        rename World => wu
        obtain ⟨j, hj16, rfl, d7, b0, cb, hB⟩ := hrel
        by_cases hlj : j < 16
        · obtain ⟨q, hq⟩ : ∃ q, q = 16 * k + j := ⟨_, rfl⟩
          obtain ⟨pk, hpk⟩ : ∃ pk, pk = 16 * k := ⟨_, rfl⟩
          have hpI : 16 * (k : Int) = pk := by omega
          have hwp : IntKind.i64.wrap (pk : Int) = (pk : Int) := IntWalk.i64_in _ (by omega)
          have hqI : (pk : Int) + j = q := by omega
          have hw2 : IntKind.i64.wrap (q : Int) = (q : Int) := IntWalk.i64_in _ (by omega)
          have hw4 : IntKind.i64.wrap ((j : Int) + 1) = (j : Int) + 1 := IntWalk.i64_in _ (by omega)
          have hqL : q < L := by have := HT.out; omega
          have k1 : (0 : Int) ≤ q := by omega
          have k2 : (q : Int) < L := by omega
          have k3 : (j : Int) < 16 := by omega
          have hls : (NS.take j ++ S.drop j).length = 16 := by rw [List.length_append, List.length_take, List.length_drop, hNl.out, hSl.out]; omega
          have c0 := d7.gd j (by omega)
          have hga : gd (NS.take j ++ S.drop j) j = gd S j := by
            rw [gd_append_right _ _ _ (by rw [List.length_take, hNl.out]; omega), gd_drop, List.length_take, hNl.out]
            congr 1; omega
          rw [hga] at c0
          have cf := d7.frozen j
          have c1 := (hB.cell (p := ⟨mb, mo + q, none⟩) hml).trans (hmc'.out q (by rw [← HL.out]; exact hqL))
          rw [hq, hFi.out j hlj, ← hq] at c1
          have hst : Blk (wu.drew.setCell ⟨b7, j, none⟩ (.int .u8 (x8 (gd S j) (gd MB j)).toNat)) b7 (bytesV (NS.take (j + 1) ++ S.drop (j + 1))) 22 := by
            have h2 := d7.drew.set j (B (gd NS j))
            rw [bytesV_set, take_set_succ _ _ _ (by rw [hNl.out]; exact hlj) (by rw [hNl.out, hSl.out]; exact Nat.le_refl _)] at h2
            rw [hNg.out j hlj]; exact h2
          replace hq := Lib.hid hq
          replace hpk := Lib.hid hpk
          have hxr : bits .xor .u8 ((gd S j).toNat : Int) ((gd MB j).toNat : Int) = ((x8 (gd S j) (gd MB j)).toNat : Int) := bits_x8 _ _
          clear hga
          go_wp2_with fail
          go_still_tail 12, (by kernel_rfl)
          change wpList _ _ _ _ _ wu.drew
          go_wp2
          first
            | exact ⟨⟨j + 1, by omega, by go_num, hst, b0.drew.set_other (by simp; omega) _, cb.drew.set_other (by simp; omega) _, hB.drew.setCell (by simp; omega) _⟩, by simp [intOf]; omega⟩
            | (refine ⟨?_, by simp [intOf]; omega⟩; (repeat apply Exists.intro); exact ⟨⟨j + 1, by omega, by go_num, hst, b0.drew.set_other (by simp; omega) _, cb.drew.set_other (by simp; omega) _, hB.drew.setCell (by simp; omega) _⟩, rfl⟩)
        · obtain rfl : j = 16 := by omega
          have e9 : NS.take 16 ++ S.drop 16 = NS := by
            rw [List.take_of_length_le (by rw [hNl.out]; exact Nat.le_refl _), List.drop_eq_nil_of_le (by rw [hSl.out]; exact Nat.le_refl _), List.append_nil]
          rw [e9] at d7
          clear e9
          by_cases hkl : k + 1 < n
          · have hkI2 : (k : Int) < (n : Int) - 1 := by omega
            have hnx := Lib.hid (hnext.out hkl)
            have hen := Lib.hid (fun (v : World) (h : Blk v bC (bytesV (cip K)) 59) => encrypt_any K lK.out NS hNl.out (.pointer (some ⟨bC, 0, none⟩)) v (.inl ⟨bC, rfl, h⟩))
            go_wp2_with (first
              | ((with_reducible refine wpList_load_blk rfl 22 (.tmp 7) rfl b7 0 16 rfl d7 row22 ?_ (bytesV NS) ?_ ?_); (rw [bytesV_size, hNl.out]; exact Nat.le_refl _); (exact bytesV_whole _ _ hNl.out))
              | (go_at_call 40; (with_reducible refine (hen.out _ cb).mono ?_); rintro e w5 ⟨rfl, hb5⟩; replace d7 := d7.below hb5 d7.lt; replace b0 := b0.below hb5 b0.lt; replace cb := cb.below hb5 cb.lt; replace hB := bnext hB hb5; clear hb5)
              | ((with_reducible refine wpList_store_blk rfl 22 (.tmp 7) (.tmp 57) rfl b7 0 16 _ rfl rfl d7 row22 ?_ ?_ (bytesV_one _) ?_); (rw [bytesV_size, encR_length]); (rw [bytesV_size, hNl.out]; exact Nat.le_refl _); intro w6 d11 o6; rw [splice_all _ _ (by rw [encR_length, hNl.out]), hnx.out] at d11; replace b0 := b0.only o6 (by omega); replace cb := cb.only o6 (by omega); replace hB := below_only hB o6 (by omega); clear o6 d7)
              | fail)
            first
              | exact ⟨⟨k + 1, by omega, by go_num, d11, b0, cb, hB⟩, by simp [intOf]; omega⟩
              | (refine ⟨?_, by simp [intOf]; omega⟩; (repeat apply Exists.intro); exact ⟨⟨k + 1, by omega, by go_num, d11, b0, cb, hB⟩, rfl⟩)
          · have hkI2 : ¬ (k : Int) < (n : Int) - 1 := by omega
            rw [hlast.out (by omega)] at d7
            go_wp2_with fail
            first
              | exact ⟨⟨k + 1, by omega, by go_num, d7, b0, cb, hB⟩, by simp [intOf]; omega⟩
              | (refine ⟨?_, by simp [intOf]; omega⟩; (repeat apply Exists.intro); exact ⟨⟨k + 1, by omega, by go_num, d7, b0, cb, hB⟩, rfl⟩)
    · obtain rfl : n = k := by omega
      have hkI : ¬ (n : Int) < n := by omega
      clear cb
      obtain ⟨ST, hSTe⟩ : ∃ ST, ST = CH n := ⟨_, rfl⟩
      have hSTl := Lib.hid (show ST.length = 16 by rw [hSTe, lC.out])
      rw [← hSTe] at d7 hsumS
      clear hSTe
      go_wp2_with fail
      have r1 : (Try.prog.info? 22).map (·.size) = some (bytesV key).toList.length := by rw [Array.length_toList, bytesV_size, hk]; exact row22.2
      obtain ⟨Sw, hSw⟩ : ∃ Sw : World → Prop, Sw = fun w' => w'.rangeAt w.heap.size 0 (bytesV key).toList := ⟨_, rfl⟩
      have a0 : ∀ w', Blk w' w.heap.size (bytesV key) 22 → Sw w' := fun w' h => by
        have := h.range 0 16
        rw [bytesV_whole key 16 hk] at this
        rw [hSw]; exact this
      have a1 : ∀ w', Sw w' → w'.rangeAt w.heap.size 0 (bytesV key).toList := fun w' h => by rw [hSw] at h; exact h
      clear hSw
      go_cut [10, 11] (fun s10 s11 wx => ∃ g, s10 = .pointer (some ⟨g, 0, none⟩) ∧ s11 = .int .i64 0 ∧ Blk wx g (bytesV CM) 22 ∧ Blk wx b7 (bytesV ST) 22 ∧ Blk wx w.heap.size (bytesV key) 22 ∧ Below w.heap.size w wx)
      case first =>
        have hB2 := hB.drew
        have kb := b0.drew
        replace d7 := d7.drew
        have hs9 := a0 _ kb
        clear hB b0 
        refine wp_region_held_drew (S := Sw) (by kernel_rfl) hs9 (fun hHeld => ?_)
        clear hHeld
        obtain ⟨V, hV⟩ : ∃ V, V = wr.drew := ⟨_, rfl⟩
        rw [← hV] at hB2 kb hs9 d7 ⊢
        clear hV
        refine wpAnyH_takeD 0 (some 59) rfl rfl (by kernel_rfl) (by kernel_rfl) (by kernel_rfl) (fun _ _ _ h => h) (yieldsIf_load_mid rfl 22 _ rfl w.heap.size 0 rfl (bytesV key).toList _ a1 Try.underlying22 rfl r1) (by assumption) ?_
        try simp only [Act.put, List.setIfInBounds_toArray, List.set_cons_zero, List.set_cons_succ, Array.toArray_toList]
        refine wpAnyH_takeD 1 (some 60) rfl rfl (by kernel_rfl) (by kernel_rfl) (by kernel_rfl) (fun _ _ _ h => h) (yieldsIf_move rfl _ rfl (.slice (some ⟨mb, mo, none⟩) L cap) rfl) (by assumption) ?_
        try simp only [Act.put, List.setIfInBounds_toArray, List.set_cons_zero, List.set_cons_succ, Array.toArray_toList]
        refine wpAnyH_takeD 2 (some 61) rfl rfl (by kernel_rfl) (by kernel_rfl) (by kernel_rfl) (fun _ _ _ h => h) (yieldsIf_move rfl _ rfl (.int .i64 (n : Int)) rfl) (by assumption) ?_
        try simp only [Act.put, List.setIfInBounds_toArray, List.set_cons_zero, List.set_cons_succ, Array.toArray_toList]
        refine wpAnyH_takeD 3 (some 62) rfl rfl (by kernel_rfl) (by kernel_rfl) (by kernel_rfl) (fun _ _ _ h => h) (yieldsIf_calc (v := .int .i64 (T : Int)) rfl (fun w => by unfold execOp; go_simp)) (by assumption) ?_
        try simp only [Act.put, List.setIfInBounds_toArray, List.set_cons_zero, List.set_cons_succ, Array.toArray_toList]
        refine wpAnyH_takeD 4 (some 63) rfl rfl (by kernel_rfl) (by kernel_rfl) (by kernel_rfl) (fun _ _ _ h => h) (yieldsIf_calc (v := .slice (some ⟨mb, mo, none⟩) T cap) rfl (fun w => by unfold execOp; go_simp)) (by assumption) ?_
        try simp only [Act.put, List.setIfInBounds_toArray, List.set_cons_zero, List.set_cons_succ, Array.toArray_toList]
        clear hs9
        refine wpAnyH_two 5 9 rfl rfl (by kernel_rfl) (fun K' hK' => ?_) (fun K' hK' => ?_)
        · skip
          go_simp
          (go_at_call 52; (with_reducible refine (hsumM _ _ (hvM.below hB2)).mono ?_); rintro e V3 ⟨rfl, hbx⟩)
          go_wp2
          replace kb := kb.below hbx kb.lt; replace d7 := d7.below hbx d7.lt; replace hB2 := bnext hB2 hbx; (try replace hz := hz.below hbx hz.lt)
          clear hbx
          generalize V3 = V at *
          have s9 := a0 _ kb
          refine hK'.out _ _ (s9) ?_; clear hK' K'; try simp only [Act.put, List.setIfInBounds_toArray, List.set_cons_zero, List.set_cons_succ, Array.toArray_toList]
          refine wpAnyH_takeD 6 (some 58) rfl rfl (by kernel_rfl) (by kernel_rfl) (by kernel_rfl) (fun _ _ _ h => h) (yieldsIf_calc (v := (.tuple #[.agg (bytesV CM), .int .i64 0])) rfl (fun w => by unfold execOp; go_simp)) (by assumption) ?_
          try simp only [Act.put, List.setIfInBounds_toArray, List.set_cons_zero, List.set_cons_succ, Array.toArray_toList]
          refine wpAnyH_takeD 7 (some 65) rfl rfl (by kernel_rfl) (by kernel_rfl) (by kernel_rfl) (fun _ _ _ h => h) (yieldsIf_calc (v := .agg (bytesV CM)) rfl (fun w => by unfold execOp; go_simp)) (by assumption) ?_
          try simp only [Act.put, List.setIfInBounds_toArray, List.set_cons_zero, List.set_cons_succ, Array.toArray_toList]
          refine wpAnyH_takeD 8 (some 66) rfl rfl (by kernel_rfl) (by kernel_rfl) (by kernel_rfl) (fun _ _ _ h => h) (yieldsIf_calc (v := .int .i64 0) rfl (fun w => by unfold execOp; go_simp)) (by assumption) ?_
          try simp only [Act.put, List.setIfInBounds_toArray, List.set_cons_zero, List.set_cons_succ, Array.toArray_toList]
          clear s9
          refine wpAnyH_one 9 rfl (by kernel_rfl) (fun K' hK' => ?_)
          go_simp
          obtain ⟨VA, hVA⟩ : ∃ VA, VA = V.alloc (.cells (bytesV Z16) 22) := ⟨_, rfl⟩
          rw [← hVA]
          have hbx : Below V.heap.size V VA := by rw [hVA]; exact (Below.refl _ _).alloc (Nat.le_refl _) _
          have hz : Blk VA V.heap.size (bytesV Z16) 22 := by rw [hVA]; exact Blk.new' rfl
          obtain ⟨gA, hgA⟩ : ∃ gA, gA = V.heap.size := ⟨_, rfl⟩
          rw [← hgA] at hz ⊢
          have hgw : w.heap.size < gA := by rw [hgA]; exact kb.lt
          have hgd7 := d7.lt
          rw [← hgA] at hgd7
          replace kb := kb.below hbx kb.lt; replace d7 := d7.below hbx d7.lt; replace hB2 := bnext hB2 hbx
          clear hVA hbx hgA
          generalize VA = V at *
          refine hK'.out _ _ (a0 _ kb) ?_; clear hK' K'; try simp only [Act.put, List.setIfInBounds_toArray, List.set_cons_zero, List.set_cons_succ, Array.toArray_toList]
          refine wpAnyH_one 10 rfl (by kernel_rfl) (fun K' hK' => ?_)
          refine ite_go rfl ?_
          refine wp_store_blk 22 (.tmp 10) (.tmp 65) rfl gA 0 16 (bytesV CM) rfl rfl hz row22 (by rw [bytesV_size, hcl.out]) (by rw [bytesV_size]; decide) (bytesV_one _) ?_
          intro wz iz oz
          rw [splice_all _ _ (by rw [hcl.out]; rfl)] at iz
          have kz := kb.only oz (by omega)
          have zd7 := d7.only oz (by omega)
          refine hK'.out _ _ (a0 _ kz) ?_; clear hK' K'; try simp only [Act.put, List.setIfInBounds_toArray, List.set_cons_zero, List.set_cons_succ, Array.toArray_toList]
          refine wpAnyH_one 11 rfl (by kernel_rfl) (fun K' hK' => ?_)
          go_simp
          refine hK'.out _ _ (a0 _ kz) ?_; clear hK' K'; try simp only [Act.put, List.setIfInBounds_toArray, List.set_cons_zero, List.set_cons_succ, Array.toArray_toList]
          refine wpAnyH_done (by kernel_rfl) ?_ _
          go_wp2
          go_meet
          exact ⟨gA, rfl, rfl, iz, zd7, kz, below_only hB2 oz (by omega)⟩
        · skip
          go_simp
          obtain ⟨VA, hVA⟩ : ∃ VA, VA = V.alloc (.cells (bytesV Z16) 22) := ⟨_, rfl⟩
          rw [← hVA]
          have hbx : Below V.heap.size V VA := by rw [hVA]; exact (Below.refl _ _).alloc (Nat.le_refl _) _
          have hz : Blk VA V.heap.size (bytesV Z16) 22 := by rw [hVA]; exact Blk.new' rfl
          obtain ⟨gA, hgA⟩ : ∃ gA, gA = V.heap.size := ⟨_, rfl⟩
          rw [← hgA] at hz ⊢
          have hgw : w.heap.size < gA := by rw [hgA]; exact kb.lt
          have hgd7 := d7.lt
          rw [← hgA] at hgd7
          replace kb := kb.below hbx kb.lt; replace d7 := d7.below hbx d7.lt; replace hB2 := bnext hB2 hbx
          clear hVA hbx hgA
          generalize VA = V at *
          refine hK'.out _ _ (a0 _ kb) ?_; clear hK' K'; try simp only [Act.put, List.setIfInBounds_toArray, List.set_cons_zero, List.set_cons_succ, Array.toArray_toList]
          refine wpAnyH_one 5 rfl (by kernel_rfl) (fun K' hK' => ?_)
          go_simp
          (go_at_call 52; (with_reducible refine (hsumM _ _ (hvM.below hB2)).mono ?_); rintro e V3 ⟨rfl, hbx⟩)
          go_wp2
          replace kb := kb.below hbx kb.lt; replace d7 := d7.below hbx d7.lt; replace hB2 := bnext hB2 hbx; (try replace hz := hz.below hbx hz.lt)
          clear hbx
          generalize V3 = V at *
          have s9 := a0 _ kb
          refine hK'.out _ _ (s9) ?_; clear hK' K'; try simp only [Act.put, List.setIfInBounds_toArray, List.set_cons_zero, List.set_cons_succ, Array.toArray_toList]
          refine wpAnyH_takeD 6 (some 58) rfl rfl (by kernel_rfl) (by kernel_rfl) (by kernel_rfl) (fun _ _ _ h => h) (yieldsIf_calc (v := (.tuple #[.agg (bytesV CM), .int .i64 0])) rfl (fun w => by unfold execOp; go_simp)) (by assumption) ?_
          try simp only [Act.put, List.setIfInBounds_toArray, List.set_cons_zero, List.set_cons_succ, Array.toArray_toList]
          refine wpAnyH_takeD 7 (some 65) rfl rfl (by kernel_rfl) (by kernel_rfl) (by kernel_rfl) (fun _ _ _ h => h) (yieldsIf_calc (v := .agg (bytesV CM)) rfl (fun w => by unfold execOp; go_simp)) (by assumption) ?_
          try simp only [Act.put, List.setIfInBounds_toArray, List.set_cons_zero, List.set_cons_succ, Array.toArray_toList]
          refine wpAnyH_takeD 8 (some 66) rfl rfl (by kernel_rfl) (by kernel_rfl) (by kernel_rfl) (fun _ _ _ h => h) (yieldsIf_calc (v := .int .i64 0) rfl (fun w => by unfold execOp; go_simp)) (by assumption) ?_
          try simp only [Act.put, List.setIfInBounds_toArray, List.set_cons_zero, List.set_cons_succ, Array.toArray_toList]
          clear s9
          refine wpAnyH_one 10 rfl (by kernel_rfl) (fun K' hK' => ?_)
          refine ite_go rfl ?_
          refine wp_store_blk 22 (.tmp 10) (.tmp 65) rfl gA 0 16 (bytesV CM) rfl rfl hz row22 (by rw [bytesV_size, hcl.out]) (by rw [bytesV_size]; decide) (bytesV_one _) ?_
          intro wz iz oz
          rw [splice_all _ _ (by rw [hcl.out]; rfl)] at iz
          have kz := kb.only oz (by omega)
          have zd7 := d7.only oz (by omega)
          refine hK'.out _ _ (a0 _ kz) ?_; clear hK' K'; try simp only [Act.put, List.setIfInBounds_toArray, List.set_cons_zero, List.set_cons_succ, Array.toArray_toList]
          refine wpAnyH_one 11 rfl (by kernel_rfl) (fun K' hK' => ?_)
          go_simp
          refine hK'.out _ _ (a0 _ kz) ?_; clear hK' K'; try simp only [Act.put, List.setIfInBounds_toArray, List.set_cons_zero, List.set_cons_succ, Array.toArray_toList]
          refine wpAnyH_done (by kernel_rfl) ?_ _
          go_wp2
          go_meet
          exact ⟨gA, rfl, rfl, iz, zd7, kz, below_only hB2 oz (by omega)⟩
      case rest =>
        clear d7 b0 hB
        obtain ⟨g10, rfl, rfl, d10, d7, b0, hB⟩ := hcut
        go_wp2_with fail
        go_cut [12, 13] (fun s12 s13 wx => ∃ g, s12 = .pointer (some ⟨g, 0, none⟩) ∧ s13 = .int .i64 0 ∧ Blk wx g (bytesV CM) 22 ∧ Blk wx g10 (bytesV CM) 22 ∧ Below w.heap.size w wx)
        case first =>
          have hB2 := hB.drew
          have kb := b0.drew
          replace d7 := d7.drew
          replace d10 := d10.drew
          have hs9 := a0 _ kb
          clear hB b0 
          refine wp_region_held_drew (S := Sw) (by kernel_rfl) hs9 (fun hHeld => ?_)
          clear hHeld
          obtain ⟨V, hV⟩ : ∃ V, V = wc.drew := ⟨_, rfl⟩
          rw [← hV] at hB2 kb hs9 d7 d10 ⊢
          clear hV
          refine wpAnyH_takeD 0 (some 68) rfl rfl (by kernel_rfl) (by kernel_rfl) (by kernel_rfl) (fun _ _ _ h => h) (yieldsIf_load_mid rfl 22 _ rfl w.heap.size 0 rfl (bytesV key).toList _ a1 Try.underlying22 rfl r1) (by assumption) ?_
          try simp only [Act.put, List.setIfInBounds_toArray, List.set_cons_zero, List.set_cons_succ, Array.toArray_toList]
          refine wpAnyH_takeD 1 (some 69) rfl rfl (by kernel_rfl) (by kernel_rfl) (by kernel_rfl) (fun _ _ _ h => h) (yieldsIf_calc (v := .slice (some ⟨b7, 0, none⟩) 16 16) rfl (fun w => by unfold execOp; go_simp)) (by assumption) ?_
          try simp only [Act.put, List.setIfInBounds_toArray, List.set_cons_zero, List.set_cons_succ, Array.toArray_toList]
          clear hs9
          refine wpAnyH_two 2 6 rfl rfl (by kernel_rfl) (fun K' hK' => ?_) (fun K' hK' => ?_)
          · skip
            go_simp
            (go_at_call 52; (with_reducible refine (hsumS _ _ (bsl_lit ST d7 rfl (by rw [hSTl.out]) (by rw [hSTl.out]; decide))).mono ?_); rintro e V3 ⟨rfl, hbx⟩)
            go_wp2
            replace kb := kb.below hbx kb.lt; replace d7 := d7.below hbx d7.lt; replace d10 := d10.below hbx d10.lt; replace hB2 := bnext hB2 hbx; (try replace hz := hz.below hbx hz.lt)
            clear hbx
            generalize V3 = V at *
            have s9 := a0 _ kb
            refine hK'.out _ _ (s9) ?_; clear hK' K'; try simp only [Act.put, List.setIfInBounds_toArray, List.set_cons_zero, List.set_cons_succ, Array.toArray_toList]
            refine wpAnyH_takeD 3 (some 67) rfl rfl (by kernel_rfl) (by kernel_rfl) (by kernel_rfl) (fun _ _ _ h => h) (yieldsIf_calc (v := (.tuple #[.agg (bytesV CM), .int .i64 0])) rfl (fun w => by unfold execOp; go_simp)) (by assumption) ?_
            try simp only [Act.put, List.setIfInBounds_toArray, List.set_cons_zero, List.set_cons_succ, Array.toArray_toList]
            refine wpAnyH_takeD 4 (some 71) rfl rfl (by kernel_rfl) (by kernel_rfl) (by kernel_rfl) (fun _ _ _ h => h) (yieldsIf_calc (v := .agg (bytesV CM)) rfl (fun w => by unfold execOp; go_simp)) (by assumption) ?_
            try simp only [Act.put, List.setIfInBounds_toArray, List.set_cons_zero, List.set_cons_succ, Array.toArray_toList]
            refine wpAnyH_takeD 5 (some 72) rfl rfl (by kernel_rfl) (by kernel_rfl) (by kernel_rfl) (fun _ _ _ h => h) (yieldsIf_calc (v := .int .i64 0) rfl (fun w => by unfold execOp; go_simp)) (by assumption) ?_
            try simp only [Act.put, List.setIfInBounds_toArray, List.set_cons_zero, List.set_cons_succ, Array.toArray_toList]
            clear s9
            refine wpAnyH_one 6 rfl (by kernel_rfl) (fun K' hK' => ?_)
            go_simp
            obtain ⟨VA, hVA⟩ : ∃ VA, VA = V.alloc (.cells (bytesV Z16) 22) := ⟨_, rfl⟩
            rw [← hVA]
            have hbx : Below V.heap.size V VA := by rw [hVA]; exact (Below.refl _ _).alloc (Nat.le_refl _) _
            have hz : Blk VA V.heap.size (bytesV Z16) 22 := by rw [hVA]; exact Blk.new' rfl
            obtain ⟨gA, hgA⟩ : ∃ gA, gA = V.heap.size := ⟨_, rfl⟩
            rw [← hgA] at hz ⊢
            have hgw : w.heap.size < gA := by rw [hgA]; exact kb.lt
            have hgd7 := d7.lt
            have hgd10 := d10.lt
            rw [← hgA] at hgd7
            rw [← hgA] at hgd10
            replace kb := kb.below hbx kb.lt; replace d7 := d7.below hbx d7.lt; replace d10 := d10.below hbx d10.lt; replace hB2 := bnext hB2 hbx
            clear hVA hbx hgA
            generalize VA = V at *
            refine hK'.out _ _ (a0 _ kb) ?_; clear hK' K'; try simp only [Act.put, List.setIfInBounds_toArray, List.set_cons_zero, List.set_cons_succ, Array.toArray_toList]
            refine wpAnyH_one 7 rfl (by kernel_rfl) (fun K' hK' => ?_)
            refine ite_go rfl ?_
            refine wp_store_blk 22 (.tmp 12) (.tmp 71) rfl gA 0 16 (bytesV CM) rfl rfl hz row22 (by rw [bytesV_size, hcl.out]) (by rw [bytesV_size]; decide) (bytesV_one _) ?_
            intro wz iz oz
            rw [splice_all _ _ (by rw [hcl.out]; rfl)] at iz
            have kz := kb.only oz (by omega)
            have zd7 := d7.only oz (by omega)
            have zd10 := d10.only oz (by omega)
            refine hK'.out _ _ (a0 _ kz) ?_; clear hK' K'; try simp only [Act.put, List.setIfInBounds_toArray, List.set_cons_zero, List.set_cons_succ, Array.toArray_toList]
            refine wpAnyH_one 8 rfl (by kernel_rfl) (fun K' hK' => ?_)
            go_simp
            refine hK'.out _ _ (a0 _ kz) ?_; clear hK' K'; try simp only [Act.put, List.setIfInBounds_toArray, List.set_cons_zero, List.set_cons_succ, Array.toArray_toList]
            refine wpAnyH_done (by kernel_rfl) ?_ _
            go_wp2
            go_meet
            exact ⟨gA, rfl, rfl, iz, zd10, below_only hB2 oz (by omega)⟩
          · skip
            go_simp
            obtain ⟨VA, hVA⟩ : ∃ VA, VA = V.alloc (.cells (bytesV Z16) 22) := ⟨_, rfl⟩
            rw [← hVA]
            have hbx : Below V.heap.size V VA := by rw [hVA]; exact (Below.refl _ _).alloc (Nat.le_refl _) _
            have hz : Blk VA V.heap.size (bytesV Z16) 22 := by rw [hVA]; exact Blk.new' rfl
            obtain ⟨gA, hgA⟩ : ∃ gA, gA = V.heap.size := ⟨_, rfl⟩
            rw [← hgA] at hz ⊢
            have hgw : w.heap.size < gA := by rw [hgA]; exact kb.lt
            have hgd7 := d7.lt
            have hgd10 := d10.lt
            rw [← hgA] at hgd7
            rw [← hgA] at hgd10
            replace kb := kb.below hbx kb.lt; replace d7 := d7.below hbx d7.lt; replace d10 := d10.below hbx d10.lt; replace hB2 := bnext hB2 hbx
            clear hVA hbx hgA
            generalize VA = V at *
            refine hK'.out _ _ (a0 _ kb) ?_; clear hK' K'; try simp only [Act.put, List.setIfInBounds_toArray, List.set_cons_zero, List.set_cons_succ, Array.toArray_toList]
            refine wpAnyH_one 2 rfl (by kernel_rfl) (fun K' hK' => ?_)
            go_simp
            (go_at_call 52; (with_reducible refine (hsumS _ _ (bsl_lit ST d7 rfl (by rw [hSTl.out]) (by rw [hSTl.out]; decide))).mono ?_); rintro e V3 ⟨rfl, hbx⟩)
            go_wp2
            replace kb := kb.below hbx kb.lt; replace d7 := d7.below hbx d7.lt; replace d10 := d10.below hbx d10.lt; replace hB2 := bnext hB2 hbx; (try replace hz := hz.below hbx hz.lt)
            clear hbx
            generalize V3 = V at *
            have s9 := a0 _ kb
            refine hK'.out _ _ (s9) ?_; clear hK' K'; try simp only [Act.put, List.setIfInBounds_toArray, List.set_cons_zero, List.set_cons_succ, Array.toArray_toList]
            refine wpAnyH_takeD 3 (some 67) rfl rfl (by kernel_rfl) (by kernel_rfl) (by kernel_rfl) (fun _ _ _ h => h) (yieldsIf_calc (v := (.tuple #[.agg (bytesV CM), .int .i64 0])) rfl (fun w => by unfold execOp; go_simp)) (by assumption) ?_
            try simp only [Act.put, List.setIfInBounds_toArray, List.set_cons_zero, List.set_cons_succ, Array.toArray_toList]
            refine wpAnyH_takeD 4 (some 71) rfl rfl (by kernel_rfl) (by kernel_rfl) (by kernel_rfl) (fun _ _ _ h => h) (yieldsIf_calc (v := .agg (bytesV CM)) rfl (fun w => by unfold execOp; go_simp)) (by assumption) ?_
            try simp only [Act.put, List.setIfInBounds_toArray, List.set_cons_zero, List.set_cons_succ, Array.toArray_toList]
            refine wpAnyH_takeD 5 (some 72) rfl rfl (by kernel_rfl) (by kernel_rfl) (by kernel_rfl) (fun _ _ _ h => h) (yieldsIf_calc (v := .int .i64 0) rfl (fun w => by unfold execOp; go_simp)) (by assumption) ?_
            try simp only [Act.put, List.setIfInBounds_toArray, List.set_cons_zero, List.set_cons_succ, Array.toArray_toList]
            clear s9
            refine wpAnyH_one 7 rfl (by kernel_rfl) (fun K' hK' => ?_)
            refine ite_go rfl ?_
            refine wp_store_blk 22 (.tmp 12) (.tmp 71) rfl gA 0 16 (bytesV CM) rfl rfl hz row22 (by rw [bytesV_size, hcl.out]) (by rw [bytesV_size]; decide) (bytesV_one _) ?_
            intro wz iz oz
            rw [splice_all _ _ (by rw [hcl.out]; rfl)] at iz
            have kz := kb.only oz (by omega)
            have zd7 := d7.only oz (by omega)
            have zd10 := d10.only oz (by omega)
            refine hK'.out _ _ (a0 _ kz) ?_; clear hK' K'; try simp only [Act.put, List.setIfInBounds_toArray, List.set_cons_zero, List.set_cons_succ, Array.toArray_toList]
            refine wpAnyH_one 8 rfl (by kernel_rfl) (fun K' hK' => ?_)
            go_simp
            refine hK'.out _ _ (a0 _ kz) ?_; clear hK' K'; try simp only [Act.put, List.setIfInBounds_toArray, List.set_cons_zero, List.set_cons_succ, Array.toArray_toList]
            refine wpAnyH_done (by kernel_rfl) ?_ _
            go_wp2
            go_meet
            exact ⟨gA, rfl, rfl, iz, zd10, below_only hB2 oz (by omega)⟩
        case rest =>
          clear d10 d7 b0 hB
          obtain ⟨g12, rfl, rfl, d12, d10, hB⟩ := hcut
          go_wp2_with (first
            | ((with_reducible refine wpList_load_blk_g 22 (.tmp 10) rfl g10 0 16 rfl d10 row22 ?_ ?_ (bytesV CM) ?_ ?_); (rfl); (rw [bytesV_size, hcl.out]; exact Nat.le_refl _); (exact bytesV_whole _ _ hcl.out))
            | ((with_reducible refine wpList_load_blk_g 22 (.tmp 12) rfl g12 0 16 rfl d12 row22 ?_ ?_ (bytesV CM) ?_ ?_); (rfl); (rw [bytesV_size, hcl.out]; exact Nat.le_refl _); (exact bytesV_whole _ _ hcl.out))
            | (go_at_call 51; refine (known41 _).mono ?_; rintro e w8 ⟨rfl, hb8⟩; replace hB := bnext hB hb8; clear hb8)
            | fail)
          go_ret
          exact ⟨rfl, hB⟩
theorem walk_CmacChains (key : List UInt8) (hk : key.length = 16) (v : Value) (l : List UInt8) (w : World) (hv : Bsl w v l) :
    Calls Try.prog 22 #[.agg (bytesV key), v] w fun e w' => e = .returned (.bool true) ∧ Below w.heap.size w w' := by
  by_cases hlen : l.length ≤ 300
  · by_cases h32 : 32 ≤ l.length
    · exact chains_ok key hk v l w hv hlen h32
    · have hB : Below w.heap.size w (w.alloc (.cells (bytesV key) 22)) := (Below.refl _ _).alloc (Nat.le_refl _) _
      obtain ⟨a, cap, rfl, h1, h2, h3, h4⟩ := hv
      clear h1 h2 h3 h4
      obtain ⟨n, hn⟩ : ∃ n, n = l.length / 16 := ⟨_, rfl⟩
      have hqt : (l.length : Int).tdiv 16 = (n : Int) := by rw [Int.tdiv_eq_ediv_of_nonneg (by omega)]; omega
      have hwn : IntKind.i64.wrap (n : Int) = (n : Int) := IntWalk.i64_in _ (by omega)
      have hlt : (l.length : Int) ≤ 300 := by omega
      have hn2 : (n : Int) < 2 := by omega
      clear hn h32
      go_enter Try.func22, Try.ntmps22
      go_wp2_with (first
        | (go_at_call 51; refine (known41 _).mono ?_; rintro e w4 ⟨rfl, hb4⟩; replace hB := bnext hB hb4; clear hb4)
        | fail)
      go_ret
      exact ⟨rfl, hB⟩
  · have hB : Below w.heap.size w (w.alloc (.cells (bytesV key) 22)) := (Below.refl _ _).alloc (Nat.le_refl _) _
    obtain ⟨a, cap, rfl, h1, h2, h3, h4⟩ := hv
    have hmx : l.length ≤ maxLen := Nat.le_trans h1 h2
    clear h1 h2 h3 h4
    obtain ⟨n, hn⟩ : ∃ n, n = l.length / 16 := ⟨_, rfl⟩
    have hqt : (l.length : Int).tdiv 16 = (n : Int) := by rw [Int.tdiv_eq_ediv_of_nonneg (by omega)]; omega
    have hwn : IntKind.i64.wrap (n : Int) = (n : Int) := IntWalk.i64_in _ (by unfold maxLen at hmx; omega)
    have hlt : (300 : Int) < l.length := by omega
    clear hn hmx
    go_enter Try.func22, Try.ntmps22
    go_wp2_with (first
      | (go_at_call 51; refine (known41 _).mono ?_; rintro e w4 ⟨rfl, hb4⟩; replace hB := bnext hB hb4; clear hb4)
      | fail)
    go_ret
    exact ⟨rfl, hB⟩
end Go.Proofs.Ytdgmahgidmjniaa
