/-
  The trellis, walks: the reference's Branches and Previous; the statement TrellisBranches.
-/
import Derived.Test.YtkcccoialmineaaTreW
import Derived.Deep.RegionHeld3
namespace Go.Proofs.Ytkcccoialmineaa
open Go.RowKit
attribute [-go_sem] Instr.build

def brs (k : Nat) : List Value := (List.range k).flatMap brn
theorem brs_succ (k : Nat) : brs (k + 1) = brs k ++ brn k := by
  unfold brs; rw [List.range_succ, List.flatMap_append]; simp
theorem brs_length (k : Nat) : (brs k).length = k * 4 := by
  have := flat_len (List.range k)
  simpa [brs] using this

set_option maxHeartbeats 2000000 in
theorem rbranches_any (w : World) : Calls Try.prog 23 #[] w fun e w' => ∃ v, e = .returned v ∧ w'.ownsRow w.heap.size 50 4 v 16 (brs 16) ∧ Below w.heap.size w w' := by
  obtain ⟨i0, hi, hz0, hz1, hz2⟩ := info_parts info50
  go_enter Try.func23, Try.ntmps23
  go_wp2
  go_loopw [1, 2] (fun v t wr => ∃ k : Nat, k ≤ 8 ∧ t = .int .i64 k ∧ wr.ownsRow w.heap.size 50 4 v (2 * k) (brs (2 * k)) ∧ Below w.heap.size w wr) (fun _ t _ => 8 - (intOf t).toNat)
  case atStart => exact ⟨0, by omega, rfl, World.ownsRow_nil _ _ _ _, Below.refl _ _⟩
  case round =>
    obtain ⟨k, hk, rfl, hown, hB⟩ := hrel
    by_cases hlt : k < 8
    · have hltI : (k : Int) < 8 := by omega
      go_wp2
      go_loopw [1, 3] (fun v t wr => ∃ j : Nat, j ≤ 2 ∧ t = .int .i64 j ∧ wr.ownsRow w.heap.size 50 4 v (2 * k + j) (brs (2 * k + j)) ∧ Below w.heap.size w wr) (fun _ t _ => 2 - (intOf t).toNat)
      case atStart => exact ⟨0, by omega, rfl, hown, hB⟩
      case round =>
        clear hown hB
        obtain ⟨j, hj, rfl, hown, hB⟩ := hrel
        by_cases hlt2 : j < 2
        · have hlt2I : (j : Int) < 2 := by omega
          have hs := brs_succ (2 * k + j)
          have hbr : brn (2 * k + j) = [.int .i64 (k : Int), .int .i64 (j : Int), .int .i64 (pr k j : Nat), .int .i64 (nx k j : Nat)] := by
            unfold brn
            rw [show (2 * k + j) / 2 = k by omega, show (2 * k + j) % 2 = j by omega]
          rw [hbr] at hs
          have hsz := hB.size
          have HS := Lib.hid hs
          have hbd := fun a b c d w => build50 a b c d w
          clear hs hbr
          go_wp2_with (first
            | (go_at_call 16; (with_reducible refine (rstep_ok k j hlt hlt2 _).mono ?_); rintro e w' ⟨rfl, hw⟩; subst w')
            | (at_builtin; refine wpList_append_own _ rfl (.tmp 20) (.tmp 26) 47 rfl w.heap.size 50 i0 (.agg #[.int .i64 0, .int .i64 0, .int .i64 0, .int .i64 0]) 4 32 Try.underlying47 hi hz0 hz1 hz2 rfl (by decide) _ (2 * k + j) (brs (2 * k + j)) rfl (hown.alloc _) ⟨wr.heap.size, 0, none⟩ 1 1 [.int .i64 (k : Int), .int .i64 (j : Int), .int .i64 (pr k j : Nat), .int .i64 (nx k j : Nat)] rfl rfl ?_ ?_ ?_ ?_ ?_ ?_; (exact rows4 _); (exact ones4 _ _ _ _); (unfold maxLen; omega); (omega); (exact le_alloc' hsz _); intro v7 w7 hown7 hg7 _; replace hB := (hB.alloc hsz _).grown hg7 (le_alloc' hsz _) (own_ge hown); rw [← HS.out] at hown7)
            | fail)
          have rel : ∃ j' : Nat, j' ≤ 2 ∧ Value.int .i64 ((j : Int) + 1) = .int .i64 j' ∧ w7.ownsRow w.heap.size 50 4 v7 (2 * k + j') (brs (2 * k + j')) ∧ Below w.heap.size w w7 := ⟨j + 1, by omega, by go_num, hown7, hB⟩
          refine ⟨?_, by simp [intOf]; omega⟩
          first
            | exact rel
            | ((repeat apply Exists.intro); exact ⟨rel, rfl⟩)
        · obtain rfl : j = 2 := by omega
          go_wp2
          refine ⟨?_, by simp [intOf]; omega⟩
          first
            | exact ⟨k + 1, by omega, by go_num, hown, hB⟩
            | ((repeat apply Exists.intro); exact ⟨⟨k + 1, by omega, by go_num, hown, hB⟩, rfl⟩)
    · obtain rfl : k = 8 := by omega
      go_wp2
      go_ret
      exact ⟨_, rfl, hown, hB⟩

theorem lt8 {p : Nat → Prop} (h : p 0 ∧ p 1 ∧ p 2 ∧ p 3 ∧ p 4 ∧ p 5 ∧ p 6 ∧ p 7) (k : Nat) (hk : k < 8) : p k := by
  obtain ⟨h0, h1, h2, h3, h4, h5, h6, h7⟩ := h
  match k, hk with
  | 0, _ => exact h0
  | 1, _ => exact h1
  | 2, _ => exact h2
  | 3, _ => exact h3
  | 4, _ => exact h4
  | 5, _ => exact h5
  | 6, _ => exact h6
  | 7, _ => exact h7
  | n + 8, h => exact absurd h (by omega)
theorem sel_le : ∀ (s : Fin 8) (i : Fin 17), (sel s.val i.val).length ≤ 2 := by decide +kernel
/-- Eight cells: the branches among the first i that lead to s, then zeros. -/
def padB (s i : Nat) : List Value := (sel s i).flatMap brn ++ List.replicate (8 - (sel s i).length * 4) (.int .i64 0)
theorem padB_length (s i : Nat) (hs : s < 8) (hi : i ≤ 16) : (padB s i).length = 8 := by
  have := sel_le ⟨s, hs⟩ ⟨i, by omega⟩
  simp only [padB, List.length_append, List.length_replicate, flat_len]
  simp only [] at this
  omega
theorem splice_list : ∀ (vs : List Value) (o : Nat) (l : List Value), o + vs.length ≤ l.length → splice l.toArray o vs = (l.take o ++ vs ++ l.drop (o + vs.length)).toArray
  | [], o, l, _ => by simp [splice]
  | x :: m, o, l, h => by
    have h' : o + (m.length + 1) ≤ l.length := by simpa using h
    rw [splice, List.setIfInBounds_toArray, splice_list m (o + 1) (l.set o x) (by simp; omega)]
    congr 1
    rw [List.take_set, List.take_succ_eq_append_getElem (by omega), List.set_append_right _ _ (by simp; omega), List.drop_set_of_lt (by omega)]
    have e : min o l.length = o := by omega
    simp [e, Nat.add_assoc, Nat.add_comm 1]
theorem splice_v8 (C V : Array Value) (hC : C.size = 8) (hV : V.size = 8) : splice C 0 V.toList = V := by
  obtain ⟨c⟩ := C
  obtain ⟨v⟩ := V
  have hc : c.length = 8 := hC
  have hv : v.length = 8 := hV
  rw [splice_list v 0 c (by omega)]
  simp [hc, hv]
theorem arr_whole (V : Array Value) (n : Nat) (h : V.size = n) : V.extract 0 (0 + n) = V := by
  subst h; simp
theorem padB_put (s i : Nat) (hs : s < 8) (hi : i < 16) (he : nx (i / 2) (i % 2) = s) : splice (padB s i).toArray ((sel s i).length * 4) (brn i) = (padB s (i + 1)).toArray ∧ (sel s i).length ≤ 1 ∧ sel s (i + 1) = sel s i ++ [i] := by
  have h1 : sel s (i + 1) = sel s i ++ [i] := by rw [sel_succ, if_pos (by simpa using he)]
  have h2 := sel_le ⟨s, hs⟩ ⟨i + 1, by omega⟩
  simp only [h1, List.length_append, List.length_cons, List.length_nil] at h2
  have hb : (brn i).length = 4 := rfl
  refine ⟨?_, by omega, h1⟩
  have hl := padB_length s i hs (by omega)
  rw [splice_list _ _ _ (by omega)]
  congr 1
  unfold padB
  rw [h1, List.flatMap_append, List.take_append_of_le_length (by rw [flat_len]; exact Nat.le_refl _), List.take_of_length_le (by rw [flat_len]; exact Nat.le_refl _), List.drop_append, List.drop_eq_nil_of_le (by rw [flat_len]; omega), List.nil_append, List.drop_replicate, flat_len]
  congr 1
  simp [hb]
  omega
theorem padB_end (s : Nat) (hs : s < 8) : (padB s 16).toArray = prevV s := by
  have h := sel_two ⟨s, hs⟩
  simp only [] at h
  unfold padB prevV
  rw [h]
  simp
theorem z51_pad (s : Nat) : (padB s 0).toArray = Z51 := rfl
theorem brs_get (i j : Nat) (hi : i < 16) (hj : j < 4) : (brs 16)[i * 4 + j]? = (brn i)[j]? := by
  have : ∀ n, i < n → (brs n)[i * 4 + j]? = (brn i)[j]? := by
    intro n hn
    induction n with
    | zero => omega
    | succ n ih =>
      rw [brs_succ]
      by_cases h : i < n
      · rw [List.getElem?_append_left (by rw [brs_length]; omega)]
        exact ih h
      · obtain rfl : i = n := by omega
        rw [List.getElem?_append_right (by rw [brs_length]; omega), brs_length]
        congr 1
        omega
  exact this 16 hi

theorem cur_get (cur : Array Value) (ht : cur.toList.take (16 * 4) = brs 16) (k : Nat) (hk : k < 16) : cur.extract (k * 4) (k * 4 + 4) = (brn k).toArray := by
  have hl : (brs 16).length = 64 := brs_length 16
  have hc : 64 ≤ cur.toList.length := by rw [← ht, List.length_take] at hl; omega
  have hcs : 64 ≤ cur.size := by simpa using hc
  apply Array.ext_getElem?
  intro j
  by_cases hj : j < 4
  · have e : cur[k * 4 + j]? = (brn k)[j]? := by
      rw [← Array.getElem?_toList, ← List.getElem?_take_of_lt (show k * 4 + j < 16 * 4 by omega), ht, brs_get k j hk hj]
    rw [Array.getElem?_extract, if_pos (by omega), e]
    simp
  · rw [Array.getElem?_eq_none (by simp; omega), Array.getElem?_eq_none (by simp [brn]; omega)]
theorem cur_size (cur : Array Value) (ht : cur.toList.take (16 * 4) = brs 16) : 64 ≤ cur.size := by
  have hl : (brs 16).length = 64 := brs_length 16
  have hc : 64 ≤ cur.toList.length := by rw [← ht, List.length_take] at hl; omega
  simpa using hc
theorem padB_size (s i : Nat) (hs : s < 8) (hi : i ≤ 16) : (padB s i).toArray.size = 8 := by
  rw [List.size_toArray]; exact padB_length s i hs hi

set_option maxHeartbeats 2000000 in
theorem rprev_any (s : Nat) (hs : s < 8) (w : World) : Calls Try.prog 25 #[.int .i64 s] w fun e w' => e = .returned (.agg (prevV s)) ∧ Below w.heap.size w w' := by
  have z1 : ∀ w, (zeroValue 51).run Try.prog w = .ok (.agg Z51) w := (zero_of_info zero51).1
  obtain ⟨W, hW⟩ : ∃ W, W = (w.alloc (.cells Z51 51)).alloc (.cells Z51 51) := ⟨_, rfl⟩
  have b0 : Blk W w.heap.size Z51 51 := by rw [hW]; exact (Blk.new' rfl).alloc _
  have b1 : Blk W (w.heap.size + 1) (padB s 0).toArray 51 := by rw [hW]; exact Blk.new' (by simp)
  have hB : Below w.heap.size w W := by rw [hW]; exact ((Below.refl _ _).alloc (Nat.le_refl _) _).alloc (by simp) _
  have HW := Lib.hid hW
  clear hW
  go_enter Try.func25, Try.ntmps25
  go_wp2_with (go_at_call 23; rw [← HW.out]; (with_reducible refine (rbranches_any _).mono ?_); rintro e w2 ⟨v, rfl, hown, hb1⟩; obtain ⟨_, ⟨rfl, hbad⟩ | ⟨q, cap, cur, rfl, hqw, hh, hl, hm, hcs, ht⟩⟩ := hown; (exfalso; cases hbad); have hqne := Lib.hid (show w.heap.size + 1 < q from Nat.lt_of_lt_of_le b1.lt hqw); clear hqw; replace b0 := b0.below hb1 b0.lt; replace b1 := b1.below hb1 b1.lt; replace hB := bnext hB hb1; clear hb1)
  have hq : Blk w2 q cur 50 := hh
  have hget := Lib.hid (cur_get cur ht)
  have hcz := Lib.hid (cur_size cur ht)
  clear hh hl hm hcs ht z1
  go_loopw [4, 6] (fun c t wr => ∃ i : Nat, i ≤ 16 ∧ t = .int .i64 i ∧ c = .int .i64 (sel s i).length ∧ Blk wr w.heap.size Z51 51 ∧ Blk wr (w.heap.size + 1) (padB s i).toArray 51 ∧ Blk wr q cur 50 ∧ Below w.heap.size w wr) (fun _ t _ => 16 - (intOf t).toNat)
  case atStart => exact ⟨0, by omega, rfl, rfl, b0, b1, hq, hB⟩
  case round =>
    clear b0 b1 hq hB
    obtain ⟨k, hk, rfl, rfl, b0, b1, hq, hB⟩ := hrel
    by_cases hlt : k < 16
    · have hltI : (k : Int) < 16 := by omega
      have hk4 := hget.out k hlt
      obtain ⟨a, ha⟩ : ∃ a : Int, a = (k / 2 : Nat) := ⟨_, rfl⟩
      obtain ⟨b, hb⟩ : ∃ a : Int, a = (k % 2 : Nat) := ⟨_, rfl⟩
      obtain ⟨p, hp⟩ : ∃ a : Int, a = (pr (k / 2) (k % 2) : Nat) := ⟨_, rfl⟩
      obtain ⟨n, hn⟩ : ∃ a : Int, a = (nx (k / 2) (k % 2) : Nat) := ⟨_, rfl⟩
      have hbr : (brn k) = [.int .i64 a, .int .i64 b, .int .i64 p, .int .i64 n] := by rw [ha, hb, hp, hn]; rfl
      rw [hbr] at hk4
      have c3 : wr.cell? ⟨q, k * 4 + 3, none⟩ = some (.int .i64 n) := by
        rw [hq.cell]
        have e : (cur.extract (k * 4) (k * 4 + 4))[3]? = some (.int .i64 n) := by rw [hk4]; rfl
        rw [Array.getElem?_extract, if_pos (by have := hcz.out; omega)] at e
        exact e
      have hpz := Lib.hid (padB_size s k hs hk)
      have HK := Lib.hid hk4
      have HBR := Lib.hid hbr
      clear ha hb hp hk4 hbr
      by_cases hqn : n = (s : Int)
      · have hnx : nx (k / 2) (k % 2) = s := by omega
        obtain ⟨e1, e2, e3⟩ := padB_put s k hs hlt hnx
        have hqb : (n == (s : Int)) = true := by simpa using hqn
        have E1 := Lib.hid e1
        have E3 := Lib.hid e3
        obtain ⟨c, hc⟩ : ∃ c, c = (sel s k).length := ⟨_, rfl⟩
        rw [← hc] at e2 ⊢
        have HC := Lib.hid hc
        have e2I : (c : Int) < 2 := by omega
        clear hn hqn hnx e1 e3 hc
        go_wp2_with (first
          | ((with_reducible refine wpList_load_blk rfl 50 (.tmp 24) rfl q (k * 4) 4 rfl hq row50 ?_ #[.int .i64 a, .int .i64 b, .int .i64 p, .int .i64 n] ?_ ?_); (have := hcz.out; omega); (exact HK.out))
          | ((with_reducible refine wpList_store_blk rfl 50 (.tmp 26) (.tmp 25) rfl (w.heap.size + 1) (c * 4) 4 #[.int .i64 a, .int .i64 b, .int .i64 p, .int .i64 n] rfl rfl b1 row50 ?_ ?_ (all4 _ _ _ _) ?_); (rfl); (rw [hpz.out]; omega); intro w5 h5 o5)
          | fail)
        rw [← HBR.out, HC.out, E1.out] at h5
        exact ⟨⟨k + 1, by omega, by go_num, by rw [E3.out, List.length_append, ← HC.out]; rfl, b0.only o5 (by omega), h5, hq.only o5 (by have := hqne.out; omega), below_only hB o5 (Nat.le_succ _)⟩, by simp [intOf]; omega⟩
      · have hqb : (n == (s : Int)) = false := by simpa using hqn
        have e3 : sel s (k + 1) = sel s k := by rw [sel_succ, if_neg (by simp; omega), List.append_nil]
        have e4 : padB s (k + 1) = padB s k := by unfold padB; rw [e3]
        have E3 := Lib.hid e3
        have E4 := Lib.hid e4
        clear hn hqn e3 e4
        go_wp2
        exact ⟨⟨k + 1, by omega, by go_num, by rw [E3.out], b0, by rw [E4.out]; exact b1, hq, hB⟩, by simp [intOf]; omega⟩
    · obtain rfl : k = 16 := by omega
      have hps := Lib.hid (prevV_size s hs)
      rw [padB_end s hs] at b1
      go_wp2_with (first
        | ((with_reducible refine wpList_load_blk rfl 51 (.tmp 3) rfl (w.heap.size + 1) 0 8 rfl b1 row51 ?_ (prevV s) ?_ ?_); (rw [hps.out]; exact Nat.le_refl _); (exact arr_whole _ _ hps.out))
        | ((with_reducible refine wpList_store_blk rfl 51 (.tmp 2) (.tmp 29) rfl w.heap.size 0 8 (prevV s) rfl rfl b0 row51 ?_ ?_ (prev_ones _) ?_); (exact hps.out); (exact Nat.le_refl 8); intro w5 hb5 ho5; rw [splice_v8 _ _ rfl hps.out] at hb5))
      refine bodyPost_ret (results_blk rfl _ _ _ (prevV s) 51 8 rfl hb5 row51 hps.out) rfl ?_
      exact ⟨rfl, below_only hB ho5 (Nat.le_refl _)⟩
end Go.Proofs.Ytkcccoialmineaa
