/-
  The plain sum beside the quick one.
-/
import Derived.Test.YtdgmahgidmjniaaCmcC
import Derived.Deep.DeepCutAuto
/-! Message authentication codes, plain: the padded message of the reference. -/
namespace Go.Proofs.Ytdgmahgidmjniaa
open Go.RowKit

def whole (l : List UInt8) : Prop := 0 < l.length ∧ l.length % 16 = 0
instance (l : List UInt8) : Decidable (whole l) := by unfold whole; infer_instance
/-- The padded message. -/
def padL (l : List UInt8) : List UInt8 := if whole l then l else l ++ [0x80] ++ List.replicate (16 * nbl l - (l.length + 1)) 0
def kkL (key l : List UInt8) : List UInt8 := if whole l then sub1 key else sub2 key
/-- .. its last block combined with the subkey. -/
def fmL (key l : List UInt8) : List UInt8 := (padL l).take (16 * (nbl l - 1)) ++ xrL ((padL l).drop (16 * (nbl l - 1))) (kkL key l)
theorem kkL_length (key l : List UInt8) : (kkL key l).length = 16 := by
  unfold kkL
  by_cases h : whole l
  · rw [if_pos h, sub1_length]
  · rw [if_neg h, sub2_length]
theorem nbl_pos (l : List UInt8) : 0 < nbl l := by unfold nbl; split <;> omega
theorem nbl_whole {l : List UInt8} (h : whole l) : 16 * nbl l = l.length := by
  obtain ⟨h1, h2⟩ := h
  unfold nbl; rw [if_neg (by omega)]; omega
theorem nbl_not {l : List UInt8} (h : ¬ whole l) : nbl l = l.length / 16 + 1 := by
  unfold whole at h
  unfold nbl
  split <;> omega
theorem padL_length (l : List UInt8) : (padL l).length = 16 * nbl l := by
  unfold padL
  split
  · rename_i h; exact (nbl_whole h).symm
  · rename_i h
    have := nbl_not h
    simp
    omega
theorem fmL_length (key l : List UInt8) : (fmL key l).length = 16 * nbl l := by
  have h1 := padL_length l
  have h2 := nbl_pos l
  unfold fmL
  rw [List.length_append, xrL_length, kkL_length, List.length_take, List.length_drop, h1]
  omega
theorem gd_xrL (a b : List UInt8) (j : Nat) (ha : j < a.length) (hb : j < b.length) : gd (xrL a b) j = x8 (gd a j) (gd b j) := by
  unfold xrL
  simp [gd, List.getElem?_zipWith, ha, hb]
theorem gd_blk (l : List UInt8) (i j : Nat) (hj : j < bln l i) : gd (blk l i) j = gd l (16 * i + j) := by
  unfold bln at hj
  unfold blk
  rw [gd_append_left _ _ _ (by simp; omega), gd_take _ _ _ (by omega), gd_drop]
theorem gd_blk_zero (l : List UInt8) (i j : Nat) (hj : bln l i ≤ j) : gd (blk l i) j = 0 := by
  have : ((l.drop (16 * i)).take 16).length = bln l i := by simp [bln]
  unfold blk
  rw [gd_append_right _ _ _ (by omega), gd_replicate]
theorem fmL_gd (key l : List UInt8) (i j : Nat) (hi : i < nbl l) (hj : j < 16) : gd (fmL key l) (16 * i + j) = gd (macB key l i) j := by
  have hp := padL_length l
  have hk := kkL_length key l
  unfold fmL macB
  have htl : ((padL l).take (16 * (nbl l - 1))).length = 16 * (nbl l - 1) := by rw [List.length_take, hp]; omega
  by_cases hl : i + 1 = nbl l
  · rw [if_pos hl, gd_append_right _ _ _ (by omega), htl, show 16 * i + j - 16 * (nbl l - 1) = j by omega, gd_xrL _ _ _ (by rw [List.length_drop, hp]; omega) (by omega), gd_drop, show 16 * (nbl l - 1) + j = 16 * i + j by omega]
    by_cases hw : whole l
    · have hb : bln l i = 16 := by have := nbl_whole hw; unfold bln; omega
      rw [lastL, if_pos hb, gd_xrL _ _ _ (by rw [blk_length]; exact hj) (by rw [sub1_length]; exact hj), gd_blk _ _ _ (by omega), padL, if_pos hw, kkL, if_pos hw]
    · have hn := nbl_not hw
      have hb : bln l i = l.length - 16 * i := by unfold bln; omega
      have hb16 : bln l i ≠ 16 := by
        unfold whole at hw
        omega
      rw [lastL, if_neg hb16, gd_xrL _ _ _ (by rw [List.length_set, blk_length]; exact hj) (by rw [sub2_length]; exact hj), gd_set _ _ _ _ (by rw [blk_length]; omega), padL, if_neg hw, kkL, if_neg hw]
      congr 1
      rw [List.append_assoc]
      by_cases h1 : j < bln l i
      · rw [if_neg (by omega), gd_append_left _ _ _ (by omega), gd_blk _ _ _ h1]
      · rw [gd_append_right _ _ _ (by omega)]
        by_cases h2 : bln l i = j
        · rw [if_pos h2, show 16 * i + j - l.length = 0 by omega]; rfl
        · rw [if_neg h2, gd_blk_zero _ _ _ (by omega), gd_append_right _ _ _ (by simp; omega), gd_replicate]
  · rw [if_neg hl, gd_append_left _ _ _ (by omega), gd_take _ _ _ (by omega)]
    have h16 : 16 * i + 16 ≤ l.length := by
      by_cases hw : whole l
      · have := nbl_whole hw; omega
      · have := nbl_not hw; omega
    rw [gd_blk _ _ _ (by unfold bln; omega)]
    unfold padL
    split
    · rfl
    · rw [List.append_assoc, gd_append_left _ _ _ (by omega)]
end Go.Proofs.Ytdgmahgidmjniaa

/-! Message authentication codes: the reference's code of a message. -/
namespace Go.Proofs.Ytdgmahgidmjniaa
open Go.RowKit
attribute [-go_sem] Instr.build
attribute [local go_sem] bits_x8

/-- Block g begins with the bytes L. -/
def RowG (w : World) (g : Nat) (L : List UInt8) : Prop := ∃ C, Blk w g C 5 ∧ L.length ≤ C.size ∧ ∀ j, j < L.length → C[j]? = some (B (gd L j))
theorem RowG.lt {w : World} {g : Nat} {L : List UInt8} (h : RowG w g L) : g < w.heap.size := by obtain ⟨C, hC, _⟩ := h; exact hC.lt
theorem RowG.cell {w : World} {g : Nat} {L : List UInt8} (h : RowG w g L) (j : Nat) (hj : j < L.length) : w.cell? ⟨g, j, none⟩ = some (.int .u8 (gd L j).toNat) := by
  obtain ⟨C, hC, _, hc⟩ := h
  rw [hC.cell, hc j hj]; rfl
theorem RowG.frozen {w : World} {g : Nat} {L : List UInt8} (h : RowG w g L) (j : Nat) : w.frozen? ⟨g, j, none⟩ = false := by
  obtain ⟨C, hC, _⟩ := h
  exact hC.frozen j
theorem RowG.below {w w' : World} {g : Nat} {L : List UInt8} (h : RowG w g L) (k : Below w.heap.size w w') : RowG w' g L := by
  obtain ⟨C, hC, h1, h2⟩ := h
  exact ⟨C, hC.below k hC.lt, h1, h2⟩
theorem RowG.only {w w' : World} {g b : Nat} {L : List UInt8} (h : RowG w g L) (k : Only b w w') (hb : g ≠ b) : RowG w' g L := by
  obtain ⟨C, hC, h1, h2⟩ := h
  exact ⟨C, hC.only k hb, h1, h2⟩
theorem RowG.drew {w : World} {g : Nat} {L : List UInt8} (h : RowG w g L) : RowG w.drew g L := h
theorem RowG.alloc {w : World} {g : Nat} {L : List UInt8} (h : RowG w g L) (o : Obj) : RowG (w.alloc o) g L := by
  obtain ⟨C, hC, h1, h2⟩ := h
  exact ⟨C, hC.alloc o, h1, h2⟩
theorem RowG.set_other {w : World} {g : Nat} {L : List UInt8} (h : RowG w g L) {p : Addr} (hp : g ≠ p.block) (v : Value) : RowG (w.setCell p v) g L := by
  obtain ⟨C, hC, h1, h2⟩ := h
  exact ⟨C, hC.set_other hp v, h1, h2⟩
theorem RowG.set {w : World} {g : Nat} {L : List UInt8} (h : RowG w g L) (p : Nat) (x : UInt8) (hp : p < L.length) : RowG (w.setCell ⟨g, p, none⟩ (B x)) g (L.set p x) := by
  obtain ⟨C, hC, h1, h2⟩ := h
  refine ⟨_, hC.set p (B x), by simp; exact h1, fun j hj => ?_⟩
  rw [List.length_set] at hj
  rw [gd_set _ _ _ _ hp, Array.getElem?_setIfInBounds]
  split
  · rw [if_pos (by omega)]
  · exact h2 j hj
theorem RowG.ne {w : World} {g b : Nat} {L : List UInt8} {C : Array Value} {t : TypeId} (h : RowG w g L) (k : Blk w b C t) (ht : t ≠ 5) : g ≠ b := by
  obtain ⟨D, hD, _⟩ := h
  rintro rfl
  unfold Blk at hD k
  rw [hD] at k
  simp only [Option.some.injEq, Obj.cells.injEq] at k
  exact ht k.2.1.symm
theorem own_rowG {w : World} {base : Nat} {v : Value} {L : List UInt8} (h : w.ownsRow base 5 1 v L.length (L.map B)) (h0 : 0 < L.length) : ∃ g cap, v = .slice (some ⟨g, 0, none⟩) L.length cap ∧ L.length ≤ cap ∧ base ≤ g ∧ RowG w g L := by
  obtain ⟨_, ⟨rfl, h1⟩ | ⟨g, cap, cur, rfl, hb, hh, hl, hm, hs, ht⟩⟩ := h
  · omega
  · refine ⟨g, cap, rfl, hl, hb, cur, hh, by omega, fun j hj => ?_⟩
    rw [← Array.getElem?_toList, ← List.getElem?_take_of_lt (show j < L.length * 1 by omega), ht, List.getElem?_map]
    simp [hj, gd, B]
theorem own_type {w : World} {base : Nat} {v : Value} {n : Nat} {xs : List Value} (h : w.ownsRow base 5 1 v n xs) {b : Nat} {C : Array Value} {t : TypeId} (k : Blk w b C t) (ht : t ≠ 5) : some b ≠ v.ownBlock := by
  obtain ⟨_, ⟨rfl, _⟩ | ⟨g, cap, cur, rfl, _, hh, _⟩⟩ := h
  · intro e; cases e
  · intro e
    simp only [Value.ownBlock, Option.some.injEq] at e
    subst e
    unfold Blk at k
    rw [hh] at k
    simp only [Option.some.injEq, Obj.cells.injEq] at k
    exact ht k.2.1.symm
theorem row_grown {w w' : World} {base : Nat} {v : Value} {n : Nat} {xs : List Value} {o : Obj} (h : w.ownsRow base 5 1 v n xs) (g : (w.alloc o).grownBy w' v.ownBlock) {b : Nat} {C : Array Value} {t : TypeId} (k : Blk w b C t) (ht : t ≠ 5) : Blk w' b C t :=
  (k.alloc o).grown g (own_type h k ht)
/-- The message after k steps of the last block's sum. -/
def fmk (key l : List UInt8) (k : Nat) : List UInt8 := (padL l).take (16 * (nbl l - 1)) ++ ((xrL ((padL l).drop (16 * (nbl l - 1))) (kkL key l)).take k ++ ((padL l).drop (16 * (nbl l - 1))).drop k)
theorem fmk_zero (key l : List UInt8) : fmk key l 0 = padL l := by simp [fmk]
theorem padX_length (l : List UInt8) : ((padL l).drop (16 * (nbl l - 1))).length = 16 := by
  have := padL_length l
  have := nbl_pos l
  rw [List.length_drop]; omega
theorem padT_length (l : List UInt8) : ((padL l).take (16 * (nbl l - 1))).length = 16 * (nbl l - 1) := by
  have := padL_length l
  have := nbl_pos l
  rw [List.length_take]; omega
theorem padM_length (key l : List UInt8) : (xrL ((padL l).drop (16 * (nbl l - 1))) (kkL key l)).length = 16 := by
  rw [xrL_length, padX_length, kkL_length]; rfl
theorem fmk_end (key l : List UInt8) : fmk key l 16 = fmL key l := by
  have h1 : (xrL ((padL l).drop (16 * (nbl l - 1))) (kkL key l)).take 16 = xrL ((padL l).drop (16 * (nbl l - 1))) (kkL key l) := List.take_of_length_le (by rw [padM_length]; exact Nat.le_refl _)
  have h2 : ((padL l).drop (16 * (nbl l - 1))).drop 16 = [] := List.drop_eq_nil_of_le (by rw [padX_length]; exact Nat.le_refl _)
  unfold fmk fmL
  rw [h1, h2, List.append_nil]
theorem fmk_length (key l : List UInt8) (k : Nat) (hk : k ≤ 16) : (fmk key l k).length = 16 * nbl l := by
  have := nbl_pos l
  unfold fmk
  rw [List.length_append, List.length_append, padT_length, List.length_take, padM_length, List.length_drop, padX_length]
  omega
theorem fmk_gd (key l : List UInt8) (k : Nat) (hk : k < 16) : x8 (gd (fmk key l k) (16 * (nbl l - 1) + k)) (gd (kkL key l) k) = gd (xrL ((padL l).drop (16 * (nbl l - 1))) (kkL key l)) k := by
  have h1 := padT_length l
  have h2 := padX_length l
  have h3 := padM_length key l
  rw [gd_xrL _ _ _ (by omega) (by rw [kkL_length]; exact hk), fmk, gd_append_right _ _ _ (by omega), h1, gd_append_right _ _ _ (by rw [List.length_take, h3]; omega), List.length_take, h3, gd_drop (_ : List UInt8) k]
  congr 2
  omega
theorem fmk_set (key l : List UInt8) (k : Nat) (hk : k < 16) : (fmk key l k).set (16 * (nbl l - 1) + k) (gd (xrL ((padL l).drop (16 * (nbl l - 1))) (kkL key l)) k) = fmk key l (k + 1) := by
  unfold fmk
  rw [List.set_append_right _ _ (by rw [padT_length]; omega), padT_length, show 16 * (nbl l - 1) + k - 16 * (nbl l - 1) = k by omega, take_set_succ _ _ _ (by rw [padM_length]; exact hk) (by rw [padM_length, padX_length]; exact Nat.le_refl _)]
set_option maxRecDepth 100000 in
set_option maxHeartbeats 8000000 in
theorem refsum_any (key : List UInt8) (hk : key.length = 16) (v : Value) (l : List UInt8) (w : World) (hv : Bsl w v l) (hlen : l.length ≤ 1000) :
    Calls Try.prog 53 #[.agg (bytesV key), v] w fun e w' => e = .returned (.agg (bytesV (cmacL key l))) ∧ Below w.heap.size w w' := by
  obtain ⟨i0, hi, hz0, hz1, hz2⟩ := info_parts info5
  have z2 : ∀ w, (zeroValue 22).run Try.prog w = .ok (.agg (bytesV Z16)) w := (zero_of_info zero22).1
  have hsub := fun w => refsubkeys_any key hk w
  obtain ⟨A, hA⟩ : ∃ A, A = sub1 key := ⟨_, rfl⟩
  obtain ⟨D, hD⟩ : ∃ D, D = sub2 key := ⟨_, rfl⟩
  have hAl := Lib.hid (show A.length = 16 by rw [hA, sub1_length])
  have hDl := Lib.hid (show D.length = 16 by rw [hD, sub2_length])
  rw [← hA, ← hD] at hsub
  replace hA := Lib.hid hA
  replace hD := Lib.hid hD
  obtain ⟨a, cap, rfl, q1, q2, q3, q4⟩ := hv
  have Q3 := Lib.hid q3
  have Q4 := Lib.hid q4
  clear q1 q2 q3 q4
  obtain ⟨W, hW⟩ : ∃ W, W = (w.alloc (.cells (bytesV key) 22)).alloc (.cells (bytesV Z16) 22) := ⟨_, rfl⟩
  have b0 : Blk W w.heap.size (bytesV key) 22 := by rw [hW]; exact (Blk.new' rfl).alloc _
  have b1 : Blk W (w.heap.size + 1) (bytesV Z16) 22 := by rw [hW]; exact Blk.new' (by simp)
  have hB : Below w.heap.size w W := by rw [hW]; exact ((Below.refl _ _).alloc (Nat.le_refl _) _).alloc (by simp) _
  have HW := Lib.hid hW
  clear hW
  have s5 : (Try.prog.info? 5).map (·.size) = some 1 := by kernel_rfl
  go_enter Try.func53, Try.ntmps53
  go_upto_region 4 with (first
    | ((with_reducible refine wpList_load_blk rfl 22 (.tmp 2) rfl w.heap.size 0 16 rfl (HW.out ▸ b0) row22 ?_ (bytesV key) ?_ ?_); (rw [bytesV_size, hk]; exact Nat.le_refl _); (exact bytesV_whole _ _ hk))
    | (go_at_call 50; rw [← HW.out]; (with_reducible refine (hsub _).mono ?_); rintro e w2 ⟨rfl, hb1⟩; replace b0 := b0.below hb1 b0.lt; replace b1 := b1.below hb1 b1.lt; replace hB := bnext hB hb1; clear hb1; have n0 := b1.lt; (obtain ⟨V, hV⟩ : ∃ V, V = (w2.alloc (.cells (bytesV Z16) 22)).alloc (.cells (bytesV Z16) 22) := ⟨_, rfl⟩); have c0 : Blk V w2.heap.size (bytesV Z16) 22 := (by rw [hV]; exact (Blk.new' rfl).alloc _); have c1 : Blk V (w2.heap.size + 1) (bytesV Z16) 22 := (by rw [hV]; exact Blk.new' (by simp)); have hbV : Below w2.heap.size w2 V := (by rw [hV]; exact ((Below.refl _ _).alloc (Nat.le_refl _) _).alloc (by simp) _); have HV := Lib.hid hV; clear hV; replace b0 := b0.below hbV b0.lt; replace b1 := b1.below hbV b1.lt; replace hB := bnext hB hbV)
    | (rw [← HV.out]; (with_reducible refine wpList_store_blk rfl 22 (.tmp 5) (.tmp 16) rfl w2.heap.size 0 16 (bytesV A) rfl rfl c0 row22 ?_ ?_ (bytesV_one _) ?_); (rw [bytesV_size, hAl.out]); (rw [bytesV_size]; decide); intro w3 d0 o3; rw [splice_all _ _ (by rw [hAl.out]; rfl)] at d0; replace c1 := c1.only o3 (by omega); replace b0 := b0.only o3 (by omega); replace b1 := b1.only o3 (by omega); replace hB := below_only hB o3 (by omega); clear o3 c0)
    | ((with_reducible refine wpList_store_blk rfl 22 (.tmp 6) (.tmp 17) rfl (w2.heap.size + 1) 0 16 (bytesV D) rfl rfl c1 row22 ?_ ?_ (bytesV_one _) ?_); (rw [bytesV_size, hDl.out]); (rw [bytesV_size]; decide); intro w4 d1 o4; rw [splice_all _ _ (by rw [hDl.out]; rfl)] at d1; replace d0 := d0.only o4 (by omega); replace b0 := b0.only o4 (by omega); replace b1 := b1.only o4 (by omega); replace hB := below_only hB o4 (by omega); clear o4 c1)
    | (at_builtin; refine wpList_append_bytes rfl _ _ 37 rfl w4.heap.size 5 i0 elem37 hi hz0 hz1 hz2 _ [] rfl (World.ownsRow_nil _ _ _ _) a l cap rfl Q3.out (Q4.out.cells hB) ?_ ?_ ?_; (simp; omega); (exact Nat.le_refl _); intro v5 w5 hown hg5; rw [List.nil_append] at hown; have hb5 : Below w4.heap.size w4 w5 := (Below.refl _ _).grown hg5 (Nat.le_refl _) (fun k hk => nomatch hk); have hbs := b0.lt; have hlt9 := d1.lt; replace b0 := b0.below hb5 b0.lt; replace b1 := b1.below hb5 b1.lt; replace d0 := d0.below hb5 d0.lt; replace d1 := d1.below hb5 d1.lt; have hBs := hB.size; replace hB := bnext hB hb5; have hs45 := hb5.size; clear hg5 hb5)
    | ((with_reducible refine wpList_load_blk rfl 22 (.tmp 5) rfl w2.heap.size 0 16 rfl d0 row22 ?_ (bytesV A) ?_ ?_); (rw [bytesV_size, hAl.out]; exact Nat.le_refl _); (exact bytesV_whole _ _ hAl.out))
    | ((with_reducible refine wpList_store_blk rfl 22 (.tmp 8) (.tmp 20) rfl w5.heap.size 0 16 (bytesV A) rfl rfl (C := bytesV Z16) (t := 22) ?_ row22 ?_ ?_ (bytesV_one _) ?_); (exact Blk.new' rfl); (rw [bytesV_size, hAl.out]); (rw [bytesV_size]; decide); intro w6 d8 o6; rw [splice_all _ _ (by rw [hAl.out]; rfl)] at d8; have hb6 := below_only ((Below.refl w5.heap.size w5).alloc (Nat.le_refl _) (.cells (bytesV Z16) 22)) o6 (Nat.le_refl _); have hlt0 := b0.lt; have hlt1 := d0.lt; have hlt2 := d1.lt; replace b0 := b0.below hb6 b0.lt; replace b1 := b1.below hb6 b1.lt; replace d1 := d1.below hb6 d1.lt; replace hB := bnext hB hb6; replace hown := own_below hown hb6; clear hb6 o6 d0)
    | fail)
  obtain ⟨a5, p5, hv5⟩ : ∃ a5 p5, v5 = .slice a5 l.length p5 := by
    obtain ⟨a5, p5, h, _⟩ := bsl_own hown
    exact ⟨a5, p5, h⟩
  subst hv5
  obtain ⟨base, hbase⟩ : ∃ base, base = w4.heap.size := ⟨_, rfl⟩
  obtain ⟨c8, hc8⟩ : ∃ c8, c8 = w5.heap.size := ⟨_, rfl⟩
  rw [← hbase] at hown
  rw [← hc8] at d8 ⊢
  have hb45 : base ≤ c8 := by omega
  have hbw : w.heap.size + 1 < base := by have := n0; omega
  have hb6 : base ≤ w6.heap.size := by have := d8.lt; omega
  have hD6 : w2.heap.size + 1 < base := by omega
  clear hbs hBs hs45 hlt0 hlt1 hlt2 hbase hc8 hbV HV hsub n0
  have hli : (l.length : Int) ≤ 1000 := by omega
  obtain ⟨wb, hwb⟩ : ∃ wb : Bool, wb = decide (whole l) := ⟨_, rfl⟩
  simp only [Act.put]
  go_cut [29] (fun s29 wx => s29 = .bool (!wb) ∧ wx = w6)
  case first =>
    obtain ⟨e0, he0⟩ : ∃ e0 : Bool, e0 = ((l.length : Int) == 0) := ⟨_, rfl⟩
    obtain ⟨e1, he1⟩ : ∃ e1 : Bool, e1 = ((l.length : Int) % 16 != 0) := ⟨_, rfl⟩
    have g0 := he0.symm
    have g1 := he1.symm
    have hfin0 : e0 = true → true = !wb := fun h => by
      rw [hwb]; rw [he0] at h; unfold whole; simp at h; simp [h]
    have hfin1 : ¬ e0 = true → e1 = !wb := fun h => by
      have h' : l.length ≠ 0 := fun e => h (by rw [he0, e]; rfl)
      rw [hwb, he1, Bool.eq_iff_iff]
      simp only [bne_iff_ne, ne_eq, Bool.not_eq_true', decide_eq_false_iff_not]
      unfold whole
      omega
    replace hfin0 := Lib.hid hfin0
    replace hfin1 := Lib.hid hfin1
    clear he0 he1 hwb
    go_wp2_with fail
    all_goals (go_meet; refine ⟨congrArg Value.bool ?_, rfl⟩; first | exact hfin0.out (by assumption) | exact hfin1.out (by assumption))
  case rest =>
    obtain ⟨rfl, rfl⟩ := hcut
    obtain ⟨T, hT⟩ : ∃ T, T = 16 * nbl l := ⟨_, rfl⟩
    have hPl := padL_length l
    rw [← hT] at hPl
    have hT1 : 16 ≤ T := by have := nbl_pos l; omega
    have hT2 : T ≤ 1100 := by unfold nbl at hT; split at hT <;> omega
    go_upto_if 29 with fail
    go_cut [7] (fun s7 wx => ∃ g p7, s7 = .slice (some ⟨g, 0, none⟩) T p7 ∧ T ≤ p7 ∧ base ≤ g ∧ RowG wx g (padL l) ∧ Blk wx c8 (bytesV (kkL key l)) 22 ∧ Blk wx w.heap.size (bytesV key) 22 ∧ Blk wx (w.heap.size + 1) (bytesV Z16) 22 ∧ Below w.heap.size w wx)
    case first =>
      by_cases hw : whole l
      · have hwt : wb = true := by rw [hwb]; exact decide_eq_true hw
        subst hwt
        clear hwb
        have hp : padL l = l := by rw [padL, if_pos hw]
        have hk2 : kkL key l = A := by rw [kkL, if_pos hw, hA.out]
        have hTl : T = l.length := by rw [hT]; exact nbl_whole hw
        obtain ⟨g, p7, e7, hg1, hg2, hg3⟩ := own_rowG hown (by omega)
        replace hw := Lib.hid hw
        replace hT := Lib.hid hT
        replace hTl := Lib.hid hTl
        replace hp := Lib.hid hp
        replace hk2 := Lib.hid hk2
        cases e7
        go_wp2_with fail
        go_meet
        rw [hp.out, hk2.out, hTl.out]
        exact ⟨g, _, rfl, hg1, hg2, hg3, d8, b0, b1, hB⟩
      · have hwt : wb = false := by rw [hwb]; exact decide_eq_false hw
        subst hwt
        clear hwb
        have hk2 : kkL key l = D := by rw [kkL, if_neg hw, hD.out]
        have hn := nbl_not hw
        have hp : ∀ k, l.length + 1 + k = T → padL l = l ++ [0x80] ++ List.replicate k 0 := fun k h => by
          rw [padL, if_neg hw, ← hT, show T - (l.length + 1) = k by omega]
        have hTm : T % 16 = 0 := by omega
        have hle : l.length + 1 ≤ T := by omega
        have hgap : ∀ k, l.length + 1 + k < T → (l.length + 1 + k) % 16 ≠ 0 := fun k h => by omega
        replace hw := Lib.hid hw
        replace hT := Lib.hid hT
        replace hn := Lib.hid hn
        replace hp := Lib.hid hp
        replace hk2 := Lib.hid hk2
        replace hTm := Lib.hid hTm
        replace hgap := Lib.hid hgap
        go_wp2_with (first
          | (at_builtin; refine wpList_append_bytes rfl (.tmp 30) (.tmp 31) 37 rfl base 5 i0 elem37 hi hz0 hz1 hz2 _ l rfl (hown.alloc _) (some ⟨wc.heap.size, 0, none⟩) [0x80] 1 rfl (fun h => nomatch h) (byt_x (w := wc) 0x80) ?_ ?_ ?_; (simp; omega); (exact le_alloc hb6 _); intro v7 w7 h7 g7)
          | fail)
        have hne22 : (22 : TypeId) ≠ 5 := by decide
        have e0 := row_grown hown g7 b0 hne22
        have e1 := row_grown hown g7 b1 hne22
        have e2 := row_grown hown g7 d1 hne22
        have e8 := row_grown hown g7 d8 hne22
        have hBe : Below w.heap.size w w7 := (hB.alloc hB.size _).grown g7 (le_alloc hB.size _) (fun k hk => by have := own_ge hown k hk; omega)
        have hbe : base ≤ w7.heap.size := Nat.le_trans (le_alloc hb6 _) g7.size
        have h7' : w7.ownsRow base 5 1 v7 (l ++ [0x80] ++ List.replicate 0 0).length ((l ++ [0x80] ++ List.replicate 0 0).map B) := by simpa using h7
        clear h7 g7 hown b0 b1 d1 d8 hB hb6
        go_loopw [7] (fun t7 wr => ∃ k : Nat, l.length + 1 + k ≤ T ∧ wr.ownsRow base 5 1 t7 (l ++ [0x80] ++ List.replicate k 0).length ((l ++ [0x80] ++ List.replicate k 0).map B) ∧ Blk wr w.heap.size (bytesV key) 22 ∧ Blk wr (w.heap.size + 1) (bytesV Z16) 22 ∧ Blk wr (w2.heap.size + 1) (bytesV D) 22 ∧ Blk wr c8 (bytesV A) 22 ∧ Below w.heap.size w wr ∧ base ≤ wr.heap.size) (fun t _ => T - (match t with | .slice _ m _ => m | _ => 0))
        case atStart => exact ⟨0, hle, h7', e0, e1, e2, e8, hBe, hbe⟩
        case round =>
          clear h7' e0 e1 e2 e8 hBe hbe
          obtain ⟨k, hkT, hown, b0, b1, d1, d8, hB, hb6⟩ := hrel
          obtain ⟨L, hL⟩ : ∃ L : List UInt8, L = l ++ [0x80] ++ List.replicate k 0 := ⟨_, rfl⟩
          have hLl : L.length = l.length + 1 + k := by rw [hL]; simp; omega
          have hLn : l ++ [0x80] ++ List.replicate (k + 1) 0 = L ++ [0] := by
            rw [hL, List.replicate_succ', ← List.append_assoc]
          rw [← hL] at hown
          obtain ⟨g, p7, hv7, hg1, hg2, hg3⟩ := own_rowG hown (by omega)
          subst hv7
          have hLi : (L.length : Int) ≤ 1100 := by omega
          by_cases hend : l.length + 1 + k = T
          · have hm : (L.length : Int) % 16 = 0 := by have := hTm.out; omega
            have hTL : T = L.length := by omega
            have hpL : padL l = L := by rw [hL]; exact hp.out k hend
            replace hL := Lib.hid hL
            replace hLl := Lib.hid hLl
            replace hLn := Lib.hid hLn
            replace hTL := Lib.hid hTL
            replace hpL := Lib.hid hpL
            go_wp2_with (first
              | ((with_reducible refine wpList_load_blk rfl 22 (.tmp 6) rfl (w2.heap.size + 1) 0 16 rfl d1 row22 ?_ (bytesV D) ?_ ?_); (rw [bytesV_size, hDl.out]; exact Nat.le_refl _); (exact bytesV_whole _ _ hDl.out))
              | ((with_reducible refine wpList_store_blk rfl 22 (.tmp 8) (.tmp 40) rfl c8 0 16 (bytesV D) rfl rfl d8 row22 ?_ ?_ (bytesV_one _) ?_); (rw [bytesV_size, hDl.out]); (rw [bytesV_size, hAl.out]; exact Nat.le_refl _); intro w9 f8 o9; rw [splice_all _ _ (by rw [hDl.out, hAl.out])] at f8)
              | fail)
            go_meet
            rw [hpL.out, hk2.out, hTL.out]
            exact ⟨g, _, rfl, hg1, hg2, hg3.only o9 (hg3.ne d8 (by decide)), f8, b0.only o9 (by omega), b1.only o9 (by omega), below_only hB o9 (by omega)⟩
          · have hlt : l.length + 1 + k < T := by omega
            obtain ⟨r, hr⟩ : ∃ r, r = L.length % 16 := ⟨_, rfl⟩
            have hm : (L.length : Int) % 16 = (r : Int) := by omega
            have hr0 : ¬ (r : Int) = 0 := by have := hgap.out k hlt; rw [← hLl] at this; omega
            replace hL := Lib.hid hL
            replace hLl := Lib.hid hLl
            replace hLn := Lib.hid hLn
            replace hr := Lib.hid hr
            go_wp2_with (first
              | (at_builtin; refine wpList_append_bytes rfl (.tmp 37) (.tmp 38) 37 rfl base 5 i0 elem37 hi hz0 hz1 hz2 _ L rfl (hown.alloc _) (some ⟨wr.heap.size, 0, none⟩) [0] 1 rfl (fun h => nomatch h) (byt_x (w := wr) 0) ?_ ?_ ?_; (simp; omega); (exact le_alloc hb6 _); intro v9 w9 h9 g9)
              | fail)
            have hne22 : (22 : TypeId) ≠ 5 := by decide
            rw [← hLn.out] at h9
            have hBe : Below w.heap.size w w9 := (hB.alloc hB.size _).grown g9 (le_alloc hB.size _) (fun k hk => by have := own_ge hown k hk; omega)
            have hbe : base ≤ w9.heap.size := Nat.le_trans (le_alloc hb6 _) g9.size
            have hlen9 : ∃ a9 p9, v9 = .slice a9 (l ++ [0x80] ++ List.replicate (k + 1) 0).length p9 := by
              obtain ⟨a9, p9, h, _⟩ := bsl_own h9
              exact ⟨a9, p9, h⟩
            obtain ⟨a9, p9, rfl⟩ := hlen9
            have hms : T - (l ++ [0x80] ++ List.replicate (k + 1) 0).length < T - L.length := by
              rw [hLn.out, List.length_append, hLl.out]; simp; omega
            first
              | exact ⟨⟨k + 1, by omega, h9, row_grown hown g9 b0 hne22, row_grown hown g9 b1 hne22, row_grown hown g9 d1 hne22, row_grown hown g9 d8 hne22, hBe, hbe⟩, hms⟩
              | (refine ⟨?_, hms⟩; (repeat apply Exists.intro); exact ⟨⟨k + 1, by omega, h9, row_grown hown g9 b0 hne22, row_grown hown g9 b1 hne22, row_grown hown g9 d1 hne22, row_grown hown g9 d8 hne22, hBe, hbe⟩, rfl⟩)
    case rest =>
      obtain ⟨g, p7, rfl, hg1, hg2, hG, f8, b0, b1, hB⟩ := hcut
      obtain ⟨p, hp⟩ : ∃ p, p = 16 * (nbl l - 1) := ⟨_, rfl⟩
      have hpT : T = p + 16 := by have := nbl_pos l; omega
      have hG0 : RowG wc g (fmk key l 0) := by rw [fmk_zero]; exact hG
      have hfl := Lib.hid (fun k (hk : k ≤ 16) => fmk_length key l k hk)
      have hfg := Lib.hid (fun k (hk : k < 16) => fmk_gd key l k hk)
      have hfs := Lib.hid (fun k (hk : k < 16) => fmk_set key l k hk)
      rw [← hT] at hfl
      rw [← hp] at hfg hfs
      obtain ⟨MM, hMM⟩ : ∃ MM, MM = xrL ((padL l).drop p) (kkL key l) := ⟨_, rfl⟩
      rw [← hMM] at hfg hfs
      have hkl := Lib.hid (kkL_length key l)
      obtain ⟨KK, hKK⟩ : ∃ KK, KK = kkL key l := ⟨_, rfl⟩
      rw [← hKK] at f8 hfg hkl
      have hfe := Lib.hid (fmk_end key l)
      have hFl := Lib.hid (fmL_length key l)
      have hFg := Lib.hid (fun i j (hi : i < nbl l) (hj : j < 16) => fmL_gd key l i j hi hj)
      have hTi : (T : Int) ≤ 1100 := by omega
      have hw1 : (T : Int) - 16 = p := by omega
      have hpi : (p : Int) ≤ 1100 := by omega
      have hc8g : c8 ≠ g := Ne.symm (hG.ne f8 (by decide))
      clear hG hKK hMM hown d8 d1
      replace hp := Lib.hid hp
      replace hT := Lib.hid hT
      replace hpT := Lib.hid hpT
      replace hPl := Lib.hid hPl
      go_wp2_with fail
      go_loopw [9] (fun t9 wr => ∃ k : Nat, k ≤ 16 ∧ t9 = .int .i64 k ∧ RowG wr g (fmk key l k) ∧ Blk wr c8 (bytesV KK) 22 ∧ Blk wr w.heap.size (bytesV key) 22 ∧ Blk wr (w.heap.size + 1) (bytesV Z16) 22 ∧ Below w.heap.size w wr) (fun t _ => 16 - (intOf t).toNat)
      case atStart => exact ⟨0, by omega, rfl, hG0, f8, b0, b1, hB⟩
      case round =>
        clear hG0 f8 b0 b1 hB
        obtain ⟨k, hk16, rfl, hG, f8, b0, b1, hB⟩ := hrel
        have hkI : (k : Int) ≤ 16 := by omega
        by_cases hlt : k < 16
        · obtain ⟨q, hq⟩ : ∃ q, q = p + k := ⟨_, rfl⟩
          have hqT : q < T := by have := hpT.out; omega
          have hqI : (p : Int) + k = q := by omega
          have hw2 : IntKind.i64.wrap (p : Int) = (p : Int) := IntWalk.i64_in _ (by omega)
          have hw3 : IntKind.i64.wrap (q : Int) = (q : Int) := IntWalk.i64_in _ (by omega)
          have k1 : (0 : Int) ≤ q := by omega
          have k2 : (q : Int) < T := by omega
          have k3 : (k : Int) < 16 := by omega
          have c1 := hG.cell q (by rw [hfl.out k hk16]; exact hqT)
          have c2 := f8.gd k (by rw [hkl.out]; exact hlt)
          have cf := hG.frozen q
          have hx : x8 (gd (fmk key l k) q) (gd KK k) = gd MM k := by rw [hq]; exact hfg.out k hlt
          have hst : RowG (wr.drew.setCell ⟨g, q, none⟩ (.int .u8 (x8 (gd (fmk key l k) q) (gd KK k)).toNat)) g (fmk key l (k + 1)) := by
            have h2 := hG.drew.set q (gd MM k) (by rw [hfl.out k hk16]; exact hqT)
            rw [hx, ← hfs.out k hlt, ← hq]
            exact h2
          replace hq := Lib.hid hq
          replace hx := Lib.hid hx
          have hw4 : IntKind.i64.wrap ((k : Int) + 1) = (k : Int) + 1 := IntWalk.i64_in _ (by omega)
          go_wp2_with fail
          go_still_tail 18, (by kernel_rfl)
          change wpList _ _ _ _ _ wr.drew
          go_wp2
          exact ⟨⟨k + 1, by omega, by go_num, hst, f8.drew.set_other (by simp; omega) _, b0.drew.set_other (by simp; omega) _, b1.drew.set_other (by simp; omega) _, hB.drew.setCell (by simp; omega) _⟩, by simp [intOf]; omega⟩
        · obtain rfl : k = 16 := by omega
          rw [hfe.out] at hG
          obtain ⟨F, hF⟩ : ∃ F, F = fmL key l := ⟨_, rfl⟩
          rw [← hF] at hG hFl hFg
          clear hF hfe hfs hfg hfl f8 hkI hlt hk16 hpi hw1
          obtain ⟨c10, hc10⟩ : ∃ c10, c10 = wr.heap.size := ⟨_, rfl⟩
          have d10 : Blk (wr.alloc (.cells (bytesV Z16) 22)) c10 (bytesV (macS key l 0)) 22 := Blk.new' hc10
          have hg10 : g < c10 := by rw [hc10]; exact hG.lt
          have hH10 : w.heap.size + 1 < c10 := by rw [hc10]; exact b1.lt
          replace hG := hG.alloc (.cells (bytesV Z16) 22)
          replace b0 := b0.alloc (.cells (bytesV Z16) 22)
          replace b1 := b1.alloc (.cells (bytesV Z16) 22)
          replace hB := hB.alloc hB.size (.cells (bytesV Z16) 22)
          have hnT : nbl l ≤ 100 := by have := hT.out; omega
          go_wp2_with fail
          rw [← hc10]
          obtain ⟨W2, hW2⟩ : ∃ W2, W2 = wr.alloc (.cells (bytesV Z16) 22) := ⟨_, rfl⟩
          rw [← hW2] at b0 b1 d10 hG hB ⊢
          clear hW2 hc10
          go_loopw [11] (fun t11 wv => ∃ i p : Nat, i ≤ nbl l ∧ p = 16 * i ∧ t11 = .int .i64 p ∧ Blk wv c10 (bytesV (macS key l i)) 22 ∧ RowG wv g F ∧ Blk wv w.heap.size (bytesV key) 22 ∧ Blk wv (w.heap.size + 1) (bytesV Z16) 22 ∧ Below w.heap.size w wv) (fun t _ => T - (intOf t).toNat)
          case atStart => exact ⟨0, 0, by omega, rfl, rfl, d10, hG, b0, b1, hB⟩
          case round =>
            clear b0 b1 d10 hG hB
            obtain ⟨i, pp, hin, hpp, rfl, d10, hG, b0, b1, hB⟩ := hrel
            by_cases hlt : i < nbl l
            · have hppT : pp < T := by have := hT.out; omega
              have hppI : (pp : Int) < T := by omega
              have hpp16 : pp + 16 ≤ T := by have := hT.out; omega
              obtain ⟨S, hS⟩ : ∃ S, S = macS key l i := ⟨_, rfl⟩
              obtain ⟨MB, hMB⟩ : ∃ MB, MB = macB key l i := ⟨_, rfl⟩
              obtain ⟨N, hN⟩ : ∃ N, N = xrL S MB := ⟨_, rfl⟩
              have hSl := Lib.hid (show S.length = 16 by rw [hS, macS_length])
              have hMBl := Lib.hid (show MB.length = 16 by rw [hMB, macB_length])
              have hNl := Lib.hid (show N.length = 16 by rw [hN, xrL_length, hSl.out, hMBl.out]; rfl)
              have hNg := Lib.hid (fun j (hj : j < 16) => show x8 (gd S j) (gd MB j) = gd N j by rw [hN, gd_xrL _ _ _ (by rw [hSl.out]; exact hj) (by rw [hMBl.out]; exact hj)])
              have hFi := Lib.hid (fun j (hj : j < 16) => show gd F (pp + j) = gd MB j by rw [hpp, hMB]; exact hFg.out i j hlt hj)
              have hFT := Lib.hid (show F.length = T by rw [hFl.out, hT.out])
              have hnx := Lib.hid (show encR (ksL key 160) N 10 = macS key l (i + 1) by rw [macS, hN, hS, hMB])
              have hd0 : Blk wr c10 (bytesV (N.take 0 ++ S.drop 0)) 22 := by rw [hS]; exact d10
              replace hpp := Lib.hid hpp
              clear hS hMB hN d10
              go_wp2_with fail
              obtain ⟨wo, hwo⟩ : ∃ wo : World, wo = wr := ⟨_, rfl⟩
              rw [← hwo] at hd0 hG b0 b1 hB ⊢
              clear hwo
              go_loopw [12] (fun t12 wu => ∃ j : Nat, j ≤ 16 ∧ t12 = .int .i64 j ∧ Blk wu c10 (bytesV (N.take j ++ S.drop j)) 22 ∧ RowG wu g F ∧ Blk wu w.heap.size (bytesV key) 22 ∧ Blk wu (w.heap.size + 1) (bytesV Z16) 22 ∧ Below w.heap.size w wu) (fun t _ => 16 - (intOf t).toNat)
              case atStart => exact ⟨0, by omega, rfl, hd0, hG, b0, b1, hB⟩
              case round =>
                clear hd0 hG b0 b1 hB
                obtain ⟨j, hj16, rfl, d10, hG, b0, b1, hB⟩ := hrel
                by_cases hlj : j < 16
                · obtain ⟨q, hq⟩ : ∃ q, q = pp + j := ⟨_, rfl⟩
                  have hqT : q < T := by omega
                  have hqI : (pp : Int) + j = q := by omega
                  have hw2 : IntKind.i64.wrap (q : Int) = (q : Int) := IntWalk.i64_in _ (by omega)
                  have hw4 : IntKind.i64.wrap ((j : Int) + 1) = (j : Int) + 1 := IntWalk.i64_in _ (by omega)
                  have k1 : (0 : Int) ≤ q := by omega
                  have k2 : (q : Int) < T := by omega
                  have k3 : (j : Int) < 16 := by omega
                  have hls : (N.take j ++ S.drop j).length = 16 := by rw [List.length_append, List.length_take, List.length_drop, hNl.out, hSl.out]; omega
                  have c0 := d10.gd j (by omega)
                  have hga : gd (N.take j ++ S.drop j) j = gd S j := by
                    rw [gd_append_right _ _ _ (by rw [List.length_take, hNl.out]; omega), gd_drop, List.length_take, hNl.out]
                    congr 1; omega
                  rw [hga] at c0
                  have cf := d10.frozen j
                  have c1 := hG.cell q (by rw [hFT.out]; exact hqT)
                  rw [hq, hFi.out j hlj, ← hq] at c1
                  have hst : Blk (wr.drew.setCell ⟨c10, j, none⟩ (.int .u8 (x8 (gd S j) (gd MB j)).toNat)) c10 (bytesV (N.take (j + 1) ++ S.drop (j + 1))) 22 := by
                    have h2 := d10.drew.set j (B (gd N j))
                    rw [bytesV_set, take_set_succ _ _ _ (by rw [hNl.out]; exact hlj) (by rw [hNl.out, hSl.out]; exact Nat.le_refl _)] at h2
                    rw [hNg.out j hlj]; exact h2
                  replace hq := Lib.hid hq
                  clear hga
                  go_wp2_with fail
                  go_still_tail 11, (by kernel_rfl)
                  change wpList _ _ _ _ _ wr.drew
                  go_wp2
                  first
                    | exact ⟨⟨j + 1, by omega, by go_num, hst, hG.drew.set_other (by simp; omega) _, b0.drew.set_other (by simp; omega) _, b1.drew.set_other (by simp; omega) _, hB.drew.setCell (by simp; omega) _⟩, by simp [intOf]; omega⟩
                    | (refine ⟨?_, by simp [intOf]; omega⟩; (repeat apply Exists.intro); exact ⟨⟨j + 1, by omega, by go_num, hst, hG.drew.set_other (by simp; omega) _, b0.drew.set_other (by simp; omega) _, b1.drew.set_other (by simp; omega) _, hB.drew.setCell (by simp; omega) _⟩, rfl⟩)
                · obtain rfl : j = 16 := by omega
                  have e1 : N.take 16 ++ S.drop 16 = N := by
                    rw [List.take_of_length_le (by rw [hNl.out]; exact Nat.le_refl _), List.drop_eq_nil_of_le (by rw [hSl.out]; exact Nat.le_refl _), List.append_nil]
                  rw [e1] at d10
                  have hen := Lib.hid (fun w => refencrypt_any key N hk hNl.out w)
                  have hw5 : IntKind.i64.wrap ((pp : Int) + 16) = (pp : Int) + 16 := IntWalk.i64_in _ (by omega)
                  clear e1
                  go_wp2_with (first
                    | ((with_reducible refine wpList_load_blk rfl 22 (.tmp 2) rfl w.heap.size 0 16 rfl b0 row22 ?_ (bytesV key) ?_ ?_); (rw [bytesV_size, hk]; exact Nat.le_refl _); (exact bytesV_whole _ _ hk))
                    | ((with_reducible refine wpList_load_blk rfl 22 (.tmp 10) rfl c10 0 16 rfl d10 row22 ?_ (bytesV N) ?_ ?_); (rw [bytesV_size, hNl.out]; exact Nat.le_refl _); (exact bytesV_whole _ _ hNl.out))
                    | (go_at_call 41; (with_reducible refine (hen.out _).mono ?_); rintro e w5 ⟨rfl, hb5⟩; replace d10 := d10.below hb5 d10.lt; replace hG := hG.below hb5; replace b0 := b0.below hb5 b0.lt; replace b1 := b1.below hb5 b1.lt; replace hB := bnext hB hb5; clear hb5)
                    | ((with_reducible refine wpList_store_blk rfl 22 (.tmp 10) (.tmp 88) rfl c10 0 16 _ rfl rfl d10 row22 ?_ ?_ (bytesV_one _) ?_); (rw [bytesV_size, encR_length]); (rw [bytesV_size, hNl.out]; exact Nat.le_refl _); intro w6 d11 o6; rw [splice_all _ _ (by rw [encR_length, hNl.out]), hnx.out] at d11; replace hG := hG.only o6 (by omega); replace b0 := b0.only o6 (by omega); replace b1 := b1.only o6 (by omega); replace hB := below_only hB o6 (by omega); clear o6 d10)
                    | fail)
                  first
                    | exact ⟨⟨i + 1, pp + 16, by omega, by have := hpp.out; omega, by go_num, d11, hG, b0, b1, hB⟩, by simp [intOf]; omega⟩
                    | (refine ⟨?_, by simp [intOf]; omega⟩; (repeat apply Exists.intro); exact ⟨⟨i + 1, pp + 16, by omega, by have := hpp.out; omega, by go_num, d11, hG, b0, b1, hB⟩, rfl⟩)
            · have hie : i = nbl l := by omega
              have hppT : (pp : Int) = T := by have := hT.out; omega
              have hd' : Blk wr c10 (bytesV (cmacL key l)) 22 := by rw [hie] at d10; exact d10
              have hcl := Lib.hid (cmacL_length key l)
              obtain ⟨CM, hCM⟩ : ∃ CM, CM = cmacL key l := ⟨_, rfl⟩
              rw [← hCM] at hd' hcl
              have HCM := Lib.hid hCM
              replace hie := Lib.hid hie
              clear hCM d10
              have hlt2 : ¬ (pp : Int) < T := by omega
              go_wp2_with (first
                | ((with_reducible refine wpList_load_blk rfl 22 (.tmp 10) rfl c10 0 16 rfl hd' row22 ?_ (bytesV CM) ?_ ?_); (rw [bytesV_size, hcl.out]; exact Nat.le_refl _); (exact bytesV_whole _ _ hcl.out))
                | ((with_reducible refine wpList_store_blk rfl 22 (.tmp 4) (.tmp 89) rfl (w.heap.size + 1) 0 16 (bytesV CM) rfl rfl b1 row22 ?_ ?_ (bytesV_one _) ?_); (rw [bytesV_size, hcl.out]); (rw [bytesV_size]; decide); intro w6 d12 o6; rw [splice_all _ _ (by rw [hcl.out]; rfl)] at d12)
                | fail)
              refine bodyPost_ret (results_blk rfl _ _ _ (bytesV CM) 22 16 rfl d12 row22 (by rw [bytesV_size, hcl.out])) rfl ?_
              rw [HCM.out]
              exact ⟨rfl, below_only hB o6 (by omega)⟩
end Go.Proofs.Ytdgmahgidmjniaa
