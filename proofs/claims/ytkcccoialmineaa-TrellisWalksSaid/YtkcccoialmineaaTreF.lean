/-
  The trellis, walks: comparing two slices, joining, Word.
-/
import Derived.Test.YtkcccoialmineaaTreD
import Derived.Test.YtkcccoialmineaaTreE
import Derived.Test.YtkcccoialmineaaApp
namespace Go.Proofs.Ytkcccoialmineaa
open Go.RowKit

theorem same_any (l m : List UInt8) (v u : Value) (w : World) (hv : Bsl w v l) (hu : Bsl w u m) :
    Calls Try.prog 21 #[v, u] w fun e w' => e = .returned (.bool (decide (l = m))) ∧ w' = w := by
  obtain ⟨a, cap, rfl, h1, h2, h3, h4⟩ := hv
  obtain ⟨b, cap', rfl, k1, k2, k3, k4⟩ := hu
  have e1 := byt_string w 36 9 5 a cap l Try.underlying36 Try.underlying5 Try.underlying9 h3 h4
  have e2 := byt_string w 36 9 5 b cap' m Try.underlying36 Try.underlying5 Try.underlying9 k3 k4
  obtain ⟨r, hr⟩ : ∃ r, r = decide (l = m) := ⟨_, rfl⟩
  have h5 : ((⟨l.toArray⟩ : ByteArray).toList == (⟨m.toArray⟩ : ByteArray).toList) = r := by rw [hr, ByteArray.toList_eq, ByteArray.toList_eq]; rw [Bool.eq_iff_iff]; simp
  rw [← hr]
  obtain ⟨x, hx⟩ : ∃ x : ByteArray, x = ⟨l.toArray⟩ := ⟨_, rfl⟩
  obtain ⟨y, hy⟩ : ∃ x : ByteArray, x = ⟨m.toArray⟩ := ⟨_, rfl⟩
  rw [← hx] at e1 h5
  rw [← hy] at e2 h5
  clear hx hy hr
  go_enter Try.func21, Try.ntmps21
  go_wp2
  go_ret
  exact ⟨rfl, rfl⟩

/-- The first k of several lists, one behind the other. -/
def cat (L : List (List UInt8)) (k : Nat) : List UInt8 := (L.take k).flatten
theorem cat_succ (L : List (List UInt8)) (k : Nat) (h : k < L.length) : cat L (k + 1) = cat L k ++ L.getD k [] := by
  unfold cat
  rw [List.take_succ_eq_append_getElem h, List.flatten_append]
  congr 1
  simp [h]
theorem cat_len (L : List (List UInt8)) (N : Nat) (hN : ∀ i, (L.getD i []).length ≤ N) (k : Nat) (hk : k ≤ L.length) : (cat L k).length ≤ k * N := by
  induction k with
  | zero => simp [cat]
  | succ k ih =>
    have := ih (by omega)
    have := hN k
    rw [cat_succ L k (by omega), List.length_append, Nat.succ_mul]
    omega

set_option maxRecDepth 100000 in
set_option maxHeartbeats 1000000 in
theorem joined_any (L : List (List UInt8)) (hL : L.length ≤ 1000) (hN : ∀ i, (L.getD i []).length ≤ 100000) (vals : Nat → Value) (g : Nat) (c : Nat) (w : World) (hg : g < w.heap.size)
    (hc : ∀ i, i < L.length → w.cell? ⟨g, i, none⟩ = some (vals i)) (hv : ∀ i, i < L.length → Bsl w (vals i) (L.getD i [])) :
    Calls Try.prog 37 #[.slice (some ⟨g, 0, none⟩) L.length c] w fun e w' => ∃ v, e = .returned v ∧ Bsl w' v (cat L L.length) ∧ Below w.heap.size w w' := by
  obtain ⟨i0, hi, hz0, hz1, hz2⟩ := info_parts info5
  go_enter Try.func37, Try.ntmps37
  go_wp2
  go_loopw [2, 7] (fun v t wr => ∃ (k : Nat), k ≤ L.length ∧ t = .int .i64 k ∧ wr.ownsRow w.heap.size 5 1 v (cat L k).length ((cat L k).map B) ∧ Below w.heap.size w wr) (fun _ t _ => L.length - (intOf t).toNat)
  case atStart => exact ⟨0, by omega, rfl, World.ownsRow_nil _ _ _ _, Below.refl _ _⟩
  case round =>
    obtain ⟨k, hk, rfl, hown, hB⟩ := hrel
    have hcl := cat_len L 100000 hN k hk
    by_cases hlt : k < L.length
    · have c0 := (hB.cell (p := ⟨g, k, none⟩) hg).trans (hc k hlt)
      have hV := (hv k hlt).below hB
      have hS := cat_succ L k hlt
      have hn := hN k
      obtain ⟨m, hm⟩ : ∃ m, m = L.getD k [] := ⟨_, rfl⟩
      rw [← hm] at hV hS hn
      obtain ⟨l, hl⟩ : ∃ m, m = cat L k := ⟨_, rfl⟩
      rw [← hl] at hown hS hcl
      have HS := Lib.hid hS
      obtain ⟨a, cap, hvk, h1, h2, h3, h4⟩ := hV
      rw [hvk] at c0
      clear hS hm hl hvk
      have hsz := hB.size
      have hsum := Lib.hid (show l.length + m.length ≤ 100000000000 by have h100 : k * 100000 ≤ 1000 * 100000 := Nat.mul_le_mul_right _ (by omega); omega)
      have H2 := Lib.hid h2
      have H0 := Lib.hid (show a = none → m.length = 0 from fun e => by have := h3 e; omega)
      clear h3
      have HN := Lib.hid hN
      clear hcl hn h2 hN
      go_wp2_with (first
        | (at_builtin; refine wpList_append_bytes rfl (.tmp 11) (.tmp 17) 36 rfl w.heap.size 5 i0 Try.underlying36 hi hz0 hz1 hz2 _ l rfl hown a m m.length rfl H0.out h4 hsum.out hsz ?_; intro v5 w5 hown5 hg5; rw [← HS.out] at hown5; have hB5 := hB.grown hg5 hsz (own_ge hown); clear hown hg5))
      all_goals exact ⟨⟨k + 1, by omega, by go_num, hown5, hB5⟩, by simp [intOf]; omega⟩
    · obtain rfl : k = L.length := by omega
      go_wp2
      go_ret
      exact ⟨_, rfl, bsl_own hown, hB⟩

theorem joined4 (l0 l1 l2 l3 : List UInt8) (v0 v1 v2 v3 : Value) (g : Nat) (c : Nat) (w : World) (hb : Blk w g #[v0, v1, v2, v3] 36) (h0 : Bsl w v0 l0) (h1 : Bsl w v1 l1) (h2 : Bsl w v2 l2) (h3 : Bsl w v3 l3)
    (n0 : l0.length ≤ 100000) (n1 : l1.length ≤ 100000) (n2 : l2.length ≤ 100000) (n3 : l3.length ≤ 100000) :
    Calls Try.prog 37 #[.slice (some ⟨g, 0, none⟩) 4 c] w fun e w' => ∃ v, e = .returned v ∧ Bsl w' v (l0 ++ l1 ++ l2 ++ l3) ∧ Below w.heap.size w w' := by
  refine (joined_any [l0, l1, l2, l3] (by simp) (fun i => ?_) (fun i => #[v0, v1, v2, v3].getD i undef) g c w hb.lt (fun i hi => ?_) (fun i hi => ?_)).mono ?_
  · match i with
    | 0 => exact n0
    | 1 => exact n1
    | 2 => exact n2
    | 3 => exact n3
    | n + 4 => simp
  · rw [hb.cell]
    match i, hi with
    | 0, _ | 1, _ | 2, _ | 3, _ => rfl
  · match i, hi with
    | 0, _ => exact h0
    | 1, _ => exact h1
    | 2, _ => exact h2
    | 3, _ => exact h3
  · rintro e w' ⟨v, rfl, h, hB⟩
    refine ⟨v, rfl, ?_, hB⟩
    have e : cat [l0, l1, l2, l3] 4 = l0 ++ l1 ++ l2 ++ l3 := by simp [cat]
    rw [← e]; exact h
theorem bsl_row {w : World} {b : Nat} {l : List UInt8} {t : TypeId} (h : Blk w b (bytesV l) t) (hl : l.length ≤ maxLen) : Bsl w (.slice (some ⟨b, 0, none⟩) l.length l.length) l :=
  ⟨_, _, rfl, Nat.le_refl _, hl, (fun h => nomatch h), fun _ => ⟨b, 0, rfl, h.lt, fun i hi => by rw [Nat.zero_add]; exact h.gd i hi⟩⟩
theorem word_err (l : List UInt8) (h : okb l = false) (v : Value) (w : World) (hv : Bsl w v l) (hlen : l.length ≤ 10000) :
    Calls Try.prog 19 #[v] w fun e w' => e = .returned (.tuple #[.slice none 0 0, .int .i64 3]) ∧ w' = w := by
  obtain ⟨a, cap, rfl, h1, h2, h3, h4⟩ := hv
  go_enter Try.func19, Try.ntmps19
  go_wp2_with (go_at_call 17; (with_reducible refine (encode_err l h a cap _ h4 (by omega)).mono ?_); rintro e w' ⟨rfl, rfl⟩)
  go_ret2
  exact ⟨rfl, rfl⟩

set_option maxHeartbeats 1000000 in
theorem word_ok (l : List UInt8) (h : okb l = true) (v : Value) (w : World) (hv : Bsl w v l) (hlen : l.length ≤ 10000) :
    Calls Try.prog 19 #[v] w fun e w' => ∃ v', e = .returned (.tuple #[v', .int .i64 0]) ∧ Bsl w' v' (wrd l) ∧ Below w.heap.size w w' := by
  obtain ⟨a, cap, rfl, h1, h2, h3, h4⟩ := hv
  have z1 : ∀ w, (zeroValue 25).run Try.prog w = .ok (.agg (bytesV Z3)) w := (zero_of_info zero25).1
  obtain ⟨s, hs⟩ : ∃ s, s = stt 0 l := ⟨_, rfl⟩
  have hs8 : s < 8 := by rw [hs]; exact stt_lt 0 (by decide) l
  have HS := Lib.hid hs
  clear hs
  have H2 := Lib.hid h2
  clear h2
  go_enter Try.func19, Try.ntmps19
  go_wp2_with (first
    | (go_at_call 17; (with_reducible refine (encode_ok l h a cap _ h4 hlen).mono ?_); rintro e w2 ⟨v2, rfl, hp, hB⟩; rw [← HS.out])
    | (go_at_call 11; (with_reducible refine (tail_ok s hs8 _).mono ?_); rintro e w3 ⟨rfl, hb1⟩; replace hp := hp.below hb1; replace hB := bnext hB hb1; clear hb1)
    | ((with_reducible refine wpList_store_blk rfl 25 (.tmp 7) (.tmp 22) rfl w3.heap.size 0 3 (bytesV (tU s)) rfl rfl ((Blk.new' rfl).alloc _) row25 ?_ ?_ (bytesV_one _) ?_); (rfl); (exact Nat.le_refl 3); intro w4 h40 o4; rw [splice_all Z3 (tU s) rfl] at h40; have h48 := (Blk.new (w3.alloc (.cells (bytesV Z3) 25)) (bytesV Z3) 25).only o4 (by simp); have hC : Below w3.heap.size w3 w4 := below_only (((Below.refl _ _).alloc (Nat.le_refl _) _).alloc (by simp) _) o4 (Nat.le_refl _))
    | ((with_reducible refine wpList_store_blk rfl 25 (.tmp 8) (.tmp 23) rfl (w3.heap.size + 1) 0 3 (bytesV (tZ s)) rfl rfl (by simpa using h48) row25 ?_ ?_ (bytesV_one _) ?_); (rfl); (exact Nat.le_refl 3); intro w5 h58 o5; rw [splice_all Z3 (tZ s) rfl] at h58; have h57 := h40.only o5 (by omega); replace hC := below_only hC o5 (Nat.le_succ _)))
  replace hp := hp.below hC
  have hB5 := bnext hB hC
  have hl5 : Bsl w5 (.slice a l.length cap) l := ⟨a, cap, rfl, h1, H2.out, h3, h4.cells hB5⟩
  have hU := bsl_row h57 (show 3 ≤ maxLen by decide)
  have hZ := bsl_row h58 (show 3 ≤ maxLen by decide)
  have hpl := Lib.hid (par_length 0 l)
  have HLEN := Lib.hid hlen
  obtain ⟨a2, cap2, rfl, q1, q2, q3, q4⟩ := hp
  have hp5 : Bsl w5 (.slice a2 (par 0 l).length cap2) (par 0 l) := ⟨a2, cap2, rfl, q1, q2, q3, q4⟩
  clear q1 q2 q3 q4 h1 h3 h4 hlen
  go_region_held3 (fun _ => True) (exact trivial)
    (first
      | (go_at_call 37; (with_reducible refine (joined4 l (par 0 l) (tU s) (tZ s) _ _ _ _ w5.heap.size 4 _ (Blk.new' rfl).drew ?_ ?_ ?_ ?_ ?_ ?_ ?_ ?_).mono ?_); (exact hl5.below ((Below.refl _ _).alloc (Nat.le_refl _) _).drew); (exact hp5.below ((Below.refl _ _).alloc (Nat.le_refl _) _).drew); (exact hU.below ((Below.refl _ _).alloc (Nat.le_refl _) _).drew); (exact hZ.below ((Below.refl _ _).alloc (Nat.le_refl _) _).drew); (have := HLEN.out; omega); (rw [hpl.out]; have := HLEN.out; omega); (rw [tU_length]; decide); (rw [tZ_length]; decide); rintro e w6 ⟨v6, rfl, hv6, hb6⟩))
  go_wp2
  go_ret2
  refine ⟨v6, rfl, ?_, bnext (bnext hB5 ((Below.refl _ _).alloc (Nat.le_refl _) _).drew) hb6⟩
  unfold wrd
  rw [← HS.out]
  exact hv6
end Go.Proofs.Ytkcccoialmineaa