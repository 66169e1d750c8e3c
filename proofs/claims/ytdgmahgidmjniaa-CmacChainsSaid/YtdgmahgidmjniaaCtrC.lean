/-
  Counter mode: the key stream, an iterator without an end.
-/
import Derived.Test.YtdgmahgidmjniaaCtr3
import Derived.Test.YtdgmahgidmjniaaAesE6
import Derived.Test.YtdgmahgidmjniaaCtrN
import Derived.Test.YtdgmahgidmjniaaRng
import Derived.OwnWalkIn
import Derived.TacticsInMore
import Derived.LoopNIn
import Derived.LoopIn
namespace Go.Proofs.Ytdgmahgidmjniaa
open Go.RowKit
attribute [-go_sem] Instr.build
attribute [local go_sem] Oper.semAt_some

/-- Byte j of the key stream. -/
def ksB (key : List UInt8) (c b d j : Nat) : UInt8 := gd (encR (ksL key 160) (cblk c b d (j / 16)) 10) (j % 16)
/-- Its first k bytes. -/
def ksU (key : List UInt8) (c b d k : Nat) : List UInt8 := (List.range k).map (ksB key c b d)
theorem ksU_succ (key : List UInt8) (c b d k : Nat) : ksU key c b d (k + 1) = ksU key c b d k ++ [ksB key c b d k] := by simp [ksU, List.range_succ]
theorem ksU_length (key : List UInt8) (c b d k : Nat) : (ksU key c b d k).length = k := by simp [ksU]
theorem ksB_at (key : List UInt8) (c b d i j : Nat) (hj : j < 16) : ksB key c b d (16 * i + j) = gd (encR (ksL key 160) (cblk c b d i) 10) j := by
  rw [ksB, show (16 * i + j) / 16 = i by omega, show (16 * i + j) % 16 = j by omega]

def boxK (k1 k2 k3 k4 : Nat) (k : Nat) : Prop := k = k1 ∨ k = k2 ∨ k = k3 ∨ k = k4

set_option maxRecDepth 100000 in
set_option maxHeartbeats 4000000 in
theorem stream_seq (n : Nat) (key : List UInt8) (hk : key.length = 16) (c b d N : Nat) (hc : c < 2 ^ 32) (hb : b ≤ 31) (hd : d ≤ 1) (hN : N ≤ 100000) (k1 k2 k3 k4 : Nat) (w : World)
    (c1 : Blk w k1 (bytesV key) 22) (c2 : Blk w k2 #[.int .u32 c] 23) (c3 : Blk w k3 #[.int .i64 b] 3) (c4 : Blk w k4 #[.int .i64 d] 24) :
    SeqAt Fence.wide n Try.prog 85 #[.pointer (some ⟨k1, 0, none⟩), .pointer (some ⟨k2, 0, none⟩), .pointer (some ⟨k3, 0, none⟩), .pointer (some ⟨k4, 0, none⟩)] (fun x : UInt8 => #[.int .u8 x.toNat])
      (boxK k1 k2 k3 k4) (fun pre => pre.length < N) (fun pre x => x = ksB key c b d pre.length) (fun _ => False) w := fun l J Jx W hW hJ hJx hG hY h0 => by
  refine callsIn_wide.2 ?_
  have z1 : ∀ w, (zeroValue 22).run Try.prog w = .ok (.agg (bytesV Z16)) w := (zero_of_info zero22).1
  obtain ⟨K, hK⟩ : ∃ K, K = ksL key 160 := ⟨_, rfl⟩
  have hKl := Lib.hid (show K.length = 176 by rw [hK, ksL_length key hk])
  have d1 := c1.below hW c1.lt
  have d2 := c2.below hW c2.lt
  have d3 := c3.below hW c3.lt
  have d4 := c4.below hW c4.lt
  have hNew : ∀ w, Calls Try.prog 39 #[.agg (bytesV key)] w fun e w' => ∃ b, e = .returned (.pointer (some ⟨b, 0, none⟩)) ∧ Blk w' b (bytesV (cip K)) 59 ∧ Below w.heap.size w w' ∧ w.heap.size ≤ b := fun w => by rw [hK]; exact new_at key hk w
  have hJ' := Lib.hid hJ
  have hG' := Lib.hid hG
  have hY' := Lib.hid hY
  have HK := Lib.hid hK
  clear hJ hG hY hJx hK
  have hKw : Keeps W.heap.size (boxK k1 k2 k3 k4) W W := Keeps.refl _ _ _
  have hkey : (bytesV key).size = 16 := by rw [bytesV_size, hk]
  have hBlk : ∀ (i : Nat) w, Calls Try.prog 27 #[.int .u32 c, .int .i64 b, .int .i64 d, .int .u64 i] w fun e w' => e = .returned (.tuple #[.agg (bytesV (cblk c b d i)), .int .i64 0]) ∧ Below w.heap.size w w' := fun i w => block_ok c b d i hc hb hd w
  clear hW
  go_enter Try.func85, Try.ntmps85
  go_wp2_with (first
    | ((with_reducible refine wpList_load_blk rfl 22 (.tmp 1) rfl k1 0 16 rfl d1 row22 ?_ (bytesV key) ?_ ?_); (rw [hkey]; exact Nat.le_refl _); (exact bytesV_whole _ _ hk))
    | (go_at_call 39; refine (hNew _).mono ?_; rintro e w1 ⟨bC, rfl, hC, hb1, hbC⟩; replace hKw := hKw.next hb1; replace h0 := hJ'.out _ _ _ h0 hb1; clear hb1))
  go_loopw [7] (fun t7 wr => ∃ i : Nat, t7 = .int .u64 i ∧ J (ksU key c b d (16 * i)) wr ∧ Keeps W.heap.size (boxK k1 k2 k3 k4) W wr ∧ Blk wr bC (bytesV (cip K)) 59) (fun t _ => N - 16 * (intOf t).toNat)
  case atStart => exact ⟨0, rfl, h0, hKw, hC⟩
  case round =>
    clear hKw hC h0
    obtain ⟨i, rfl, h0, hKw, hC⟩ := hrel
    have hlt : 16 * i < N := by have := hG'.out _ _ h0; rwa [ksU_length] at this
    have e2 := d2.keeps hKw (.inr (.inr (.inl rfl)))
    have e3 := d3.keeps hKw (.inr (.inr (.inr (.inl rfl))))
    have e4 := d4.keeps hKw (.inr (.inr (.inr (.inr rfl))))
    have f2 := e2.cell 0
    have f3 := e3.cell 0
    have f4 := e4.cell 0
    simp only [List.getElem?_toArray, List.getElem?_cons_zero] at f2 f3 f4
    obtain ⟨M, hM⟩ : ∃ M, M = encR K (cblk c b d i) 10 := ⟨_, rfl⟩
    have hMl := Lib.hid (show M.length = 16 by rw [hM, encR_length])
    obtain ⟨T, hT⟩ : ∃ T, T = cblk c b d i := ⟨_, rfl⟩
    have hTl := Lib.hid (show T.length = 16 by rw [hT, cblk_length])
    have hBi := hBlk i
    rw [← hT] at hBi hM
    have hEnc : ∀ w, Blk w bC (bytesV (cip K)) 59 → Calls Try.prog 40 #[.pointer (some ⟨bC, 0, none⟩), .agg (bytesV T)] w fun e w' => e = .returned (.agg (bytesV M)) ∧ Below w.heap.size w w' := fun w h => by
      rw [hM]; exact encrypt_any K hKl.out T hTl.out _ w (.inl ⟨bC, rfl, h⟩)
    have HM := Lib.hid hM
    have HT := Lib.hid hT
    clear hM hT hBlk hNew
    go_wp2_with (first
      | (go_at_call 27; refine (hBi _).mono ?_; rintro e w2 ⟨rfl, hb2⟩; replace hC := hC.below hb2 hC.lt; have n2 := hKw.next hb2; replace h0 := hJ'.out _ _ _ h0 (hb2.mono hKw.size); clear hb2)
      | ((with_reducible refine wpList_store_blk rfl 22 (.tmp 8) (.tmp 22) rfl w2.heap.size 0 16 (bytesV T) rfl rfl (C := bytesV Z16) (t := 22) ?_ row22 ?_ ?_ (bytesV_one _) ?_); (exact Blk.new' rfl); (rw [bytesV_size, hTl.out]); (rw [bytesV_size]; decide); intro w3 g1 ho3; rw [splice_all _ _ (by rw [hTl.out]; rfl)] at g1; have hb3 := below_only ((Below.refl w2.heap.size w2).alloc (Nat.le_refl _) (.cells (bytesV Z16) 22)) ho3 (Nat.le_refl _); replace hC := hC.below hb3 hC.lt; have n3 := n2.next hb3; replace h0 := hJ'.out _ _ _ h0 (hb3.mono n2.size); clear hb3 ho3)
      | ((with_reducible refine wpList_load_blk rfl 22 (.tmp 8) rfl w2.heap.size 0 16 rfl g1 row22 ?_ (bytesV T) ?_ ?_); (rw [bytesV_size, hTl.out]; exact Nat.le_refl _); (exact bytesV_whole _ _ hTl.out))
      | (go_at_call 40; refine (hEnc _ hC).mono ?_; rintro e w4 ⟨rfl, hb4⟩; replace hC := hC.below hb4 hC.lt; have n4 := n3.next hb4; replace h0 := hJ'.out _ _ _ h0 (hb4.mono n3.size); clear hb4))
    have hix : Hid (∀ (k : Nat) (w : World), k < 16 → (Instr.index 22 (.agg (bytesV M)) (.int .i64 k)).run Try.prog w = .ok (.int .u8 (gd M k).toNat) w) := fun k w hk => by
      exact run_index_agg Try.underlying22 Try.underlying5 (by kernel_rfl) _ _ _ k rfl hk _ (by rw [bytesV_gd _ _ (by rw [hMl.out]; exact hk)]) _
    have hks : Hid (∀ k, k < 16 → ksB key c b d (16 * i + k) = gd M k) := fun k hk => by rw [ksB_at _ _ _ _ _ _ hk, HM.out, HT.out, HK.out]
    obtain ⟨V, hV⟩ : ∃ V, V = bytesV M := ⟨_, rfl⟩
    rw [← hV] at hix ⊢
    clear hV
    refine (wpIn_wide (n := n)).1 ?_
    gi_loopw [27] (fun t27 wi => ∃ k : Nat, k ≤ 16 ∧ t27 = .int .i64 k ∧ J (ksU key c b d (16 * i + k)) wi ∧ Keeps W.heap.size (boxK k1 k2 k3 k4) W wi ∧ Blk wi bC (bytesV (cip K)) 59) (fun t _ => 16 - (intOf t).toNat)
    case atStart => exact ⟨0, by omega, rfl, h0, n4, hC⟩
    case round =>
      clear h0 n4 hC f2 f3 f4 e2 e3 e4 hKw g1 n2 n3 hBi hEnc z1
      obtain ⟨k, hk16, rfl, h0, hKw, hC⟩ := hrel
      by_cases hlk : k < 16
      · have hi := hix.out k ‹World› hlk
        obtain ⟨fn, tmps, assign, body, hy, hR⟩ := hY'.out _ (gd M k) _ h0 (by rw [ksU_length]; exact (hks.out k hlk).symm)
        gi_wp2
        refine ⟨by simp [Fence.wide], hR.mono ?_⟩
        rintro e W3 (⟨rfl, hJ3, hk3⟩ | ⟨rfl, hJx3, _⟩)
        · gi_wp2
          go_roundw
          case rel => exact ⟨k + 1, by omega, by simp, by rw [← Nat.add_assoc, ksU_succ, hks.out k hlk]; exact hJ3, hKw.trans ⟨hk3.os, hk3.tape, hk3.output, hk3.size, fun j hj hjk => hk3.same j hj hjk⟩, hC.keeps hk3 (.inl hbC)⟩
          case measure => simp [intOf]; omega
        · gi_wp2
          refine bodyPost_ret (results_none rfl _ _ _) rfl ?_
          exact ⟨⟨_, rfl⟩, .inr ⟨_, hJx3⟩⟩
      · obtain rfl : k = 16 := by omega
        gi_wp2
        go_wp2
        exact ⟨⟨i + 1, by simp, by rw [show 16 * (i + 1) = 16 * i + 16 by omega]; exact h0, hKw, hC⟩, by simp only [intOf]; omega⟩
end Go.Proofs.Ytdgmahgidmjniaa
