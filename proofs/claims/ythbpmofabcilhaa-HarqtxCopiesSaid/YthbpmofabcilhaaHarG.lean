/-
  A transmitting process, walks: Send.
-/
import Derived.Test.YthbpmofabcilhaaHarF
set_option linter.unusedSimpArgs false
set_option linter.unusedVariables false
namespace Go.Proofs.Ythbpmofabcilhaa
open Go.RowKit
attribute [-go_sem] Instr.build

theorem row3 : (Try.prog.info? 3).map (·.size) = some 1 := by kernel_rfl
theorem splice_get : ∀ (vs : List Value) (o : Nat) (C : Array Value) (i : Nat), (splice C o vs)[i]? = if o ≤ i ∧ i < o + vs.length ∧ i < C.size then vs[i - o]? else C[i]?
  | [], o, C, i => by rw [splice, if_neg (by simp; omega)]
  | v :: r, o, C, i => by
    rw [splice, splice_get r (o + 1) _ i]
    simp only [Array.size_setIfInBounds, List.length_cons]
    by_cases h1 : o + 1 ≤ i ∧ i < o + 1 + r.length ∧ i < C.size
    · rw [if_pos h1, if_pos (by omega)]
      obtain ⟨j, hj⟩ : ∃ j, i - o = j + 1 := ⟨i - o - 1, by omega⟩
      rw [hj, List.getElem?_cons_succ, show i - (o + 1) = j by omega]
    · rw [if_neg h1, Array.getElem?_setIfInBounds]
      by_cases h2 : o = i
      · subst h2
        rw [if_pos rfl]
        by_cases h3 : o < C.size
        · rw [if_pos h3, if_pos (by omega)]; simp
        · rw [if_neg h3, if_neg (by omega)]; simp; omega
      · rw [if_neg h2, if_neg (by omega)]
theorem splice_full (C V : Array Value) (h : C.size = V.size) : splice C 0 V.toList = V := by
  apply Array.ext_getElem?
  intro i
  rw [splice_get]
  by_cases h1 : i < V.size
  · rw [if_pos (by simp; omega)]; simp
  · rw [if_neg (by simp; omega), Array.getElem?_eq_none (by omega), Array.getElem?_eq_none (by omega)]
theorem trV_one {u : Value} (n : Nat) (h : u.oneCell' = true) : (trV u n).all (·.oneCell') = true := by
  rw [Array.all_eq_true_iff_forall_mem]
  intro v hv
  simp only [trV, List.mem_toArray, List.mem_cons, List.not_mem_nil, or_false] at hv
  rcases hv with rfl | rfl | rfl | rfl
  · exact h
  · rfl
  · rfl
  · rfl
theorem trZ_one : trZ.all (·.oneCell') = true := by kernel_rfl
theorem build32z (w : World) : (Instr.build 32 #[]).run Try.prog w = .ok (.agg trZ) w := run_build w 32 _ _ (by kernel_rfl)

def nowF (m : Hq) (t : Int) : Nat := max m.now t.toNat
def m1F (m : Hq) (t : Int) : Hq := { m with now := nowF m t }
theorem cells_now {v : Value} {m : Hq} {t Z : Int} (h : Z = (nowF m t : Nat)) : (cellsH v m).setIfInBounds 4 (.int .i64 Z) = cellsH v (m1F m t) := by subst h; rfl
theorem nowF_le (m : Hq) (t : Int) (h : t < 1073741824) (k : m.now ≤ 1073741824) : nowF m t ≤ 1073741824 := by unfold nowF; omega

set_option maxHeartbeats 400000 in
theorem send_arg (b : Nat) (v : Value) (m : Hq) (t : Int) (w : World) (hP : HP w b v m) (hl0 : m.lim ≠ 0) (ht : ¬ (0 ≤ t ∧ t < 1073741824)) :
    Calls Try.prog 12 #[.pointer (some ⟨b, 0, none⟩), .int .i64 t] w fun e w' => e = .returned (.tuple #[.agg trZ, .int .i64 2]) ∧ HP w' b v m ∧ Kept b v v w w' := by
  have hd : decide (m.lim = 0) = false := by simpa using hl0
  have z1 : ∀ w, (zeroValue 32).run Try.prog w = .ok (.agg trZ) w := (zero_of_info zero32).1
  have hbz := build32z
  have b1 : Blk (w.alloc (.cells trZ 32)) w.heap.size trZ 32 := Blk.new' rfl
  have hB : Below w.heap.size w (w.alloc (.cells trZ 32)) := (Below.refl _ _).alloc (Nat.le_refl _) _
  have h' := hP.below hB
  have hf := decide_eq_false ht
  clear ht
  go_enter Try.func12, Try.ntmps12
  go_wp2_with (first
    | (go_at_call 25; (with_reducible refine (none_any b v m _ h'.1).mono ?_); rintro e w' ⟨rfl, hw⟩; subst w'; rw [hd])
    | (go_at_call 30; (with_reducible refine (timed_any t _).mono ?_); rintro e w' ⟨rfl, hw⟩; subst w'; rw [hf])
    | ((with_reducible refine wpList_store_blk rfl 32 (.tmp 4) (.tmp 15) rfl w.heap.size 0 4 trZ rfl rfl b1 row32 ?_ ?_ trZ_one ?_); (rfl); (exact Nat.le_refl 4); intro w4 hb4 ho4; rw [splice_full _ _ rfl] at hb4))
  refine bodyPost_ret (results_blk_tmp rfl _ _ w.heap.size trZ 32 4 _ rfl rfl hb4 row32 rfl) rfl ?_
  have hb2 := below_only hB ho4 (Nat.le_refl _)
  exact ⟨rfl, hP.below hb2, Kept.below hb2⟩

set_option maxHeartbeats 400000 in
theorem send_state (b : Nat) (v : Value) (m : Hq) (t : Int) (w : World) (hP : HP w b v m) (hl0 : m.lim ≠ 0) (ht : 0 ≤ t ∧ t < 1073741824) (hst : m.st ≠ 1) :
    Calls Try.prog 12 #[.pointer (some ⟨b, 0, none⟩), .int .i64 t] w fun e w' => e = .returned (.tuple #[.agg trZ, .int .i64 8]) ∧ HP w' b v (m1F m t) ∧ Kept b v v w w' := by
  have hd : decide (m.lim = 0) = false := by simpa using hl0
  have z1 : ∀ w, (zeroValue 32).run Try.prog w = .ok (.agg trZ) w := (zero_of_info zero32).1
  have hbz := build32z
  have b1 : Blk (w.alloc (.cells trZ 32)) w.heap.size trZ 32 := Blk.new' rfl
  have hB : Below w.heap.size w (w.alloc (.cells trZ 32)) := (Below.refl _ _).alloc (Nat.le_refl _) _
  have h' := hP.below hB
  have hf := decide_eq_true ht
  have hC := Lib.hid (show (if m.st = 1 then (0 : Int) else 8) = 8 by rw [if_neg hst])
  have c4 : (w.alloc (.cells trZ 32)).cell? ⟨b, 4, none⟩ = some (.int .i64 m.now) := h'.1.cell 4
  have f4 := h'.1.frozen 4
  have hlt := hP.1.lt
  have C3 := Lib.hid (show ∀ x, ((w.setCell ⟨b, 4, none⟩ x).alloc (.cells trZ 32)).cell? ⟨b, 3, none⟩ = some (.int .i64 m.st) from fun x => ((hP.1.set 4 x).alloc _).cell 3)
  have B1 := Lib.hid (show ∀ x, Blk ((w.setCell ⟨b, 4, none⟩ x).alloc (.cells trZ 32)) w.heap.size trZ 32 from fun x => Blk.new' (by simp))
  have ht0 := ht.1
  clear hst ht b1
  go_enter Try.func12, Try.ntmps12
  go_wp2_with (first
    | (go_at_call 25; (with_reducible refine (none_any b v m _ h'.1).mono ?_); rintro e w' ⟨rfl, hw⟩; subst w'; rw [hd])
    | (go_at_call 30; (with_reducible refine (timed_any t _).mono ?_); rintro e w' ⟨rfl, hw⟩; subst w'; rw [hf])
    | (go_at_call 27; (with_reducible refine (allowed_c b m.st 1 _ ?_ _ (C3.out _)).mono ?_); (rfl); rintro e w' ⟨rfl, hw⟩; subst w'; rw [hC.out])
    | ((with_reducible refine wpList_store_blk rfl 32 (.tmp 4) (.tmp 29) rfl w.heap.size 0 4 trZ rfl rfl (B1.out _) row32 ?_ ?_ trZ_one ?_); (rfl); (exact Nat.le_refl 4); intro w4 hb4 ho4; rw [splice_full _ _ rfl] at hb4))
  all_goals
    refine bodyPost_ret (results_blk_tmp rfl _ _ w.heap.size trZ 32 4 _ rfl rfl hb4 row32 rfl) rfl ?_
    have k1 := ((hP.1.set 4 _).alloc _).only ho4 (by omega)
    rw [cells_now (t := t) (by unfold nowF; omega)] at k1
    exact ⟨rfl, ⟨k1, own_only_ge (own_only hP.2 (Only.setCell w 4 _) (own_ne_blk hP.2 hP.1 (by decide))) ho4 (by simp)⟩, ((((But.refl _ _ _).only (Only.setCell w 4 _) (.inl rfl)).alloc (by simp) _).only ho4 (.inr (Nat.le_refl _))), .inl rfl⟩
set_option maxHeartbeats 1000000 in
theorem send_ok (b : Nat) (v : Value) (m : Hq) (t : Int) (w : World) (hP : HP w b v m) (hl0 : m.lim ≠ 0) (ht : 0 ≤ t ∧ t < 1073741824) (hst : m.st = 1) (hlen : m.blk.length ≤ 1000000) :
    Calls Try.prog 12 #[.pointer (some ⟨b, 0, none⟩), .int .i64 t] w fun e w' => ∃ u, e = .returned (.tuple #[.agg (trV u m.num), .int .i64 0]) ∧ w'.ownsRow w.heap.size 5 1 u m.blk.length (m.blk.map B) ∧ HP w' b v { m with st := 2, now := nowF m t, sent := nowF m t } ∧ Kept b v v w w' := by
  have hd : decide (m.lim = 0) = false := by simpa using hl0
  have z1 : ∀ w, (zeroValue 32).run Try.prog w = .ok (.agg trZ) w := (zero_of_info zero32).1
  have hbz := build32z
  have hB : Below w.heap.size w (w.alloc (.cells trZ 32)) := (Below.refl _ _).alloc (Nat.le_refl _) _
  have h' := hP.below hB
  have hf := decide_eq_true ht
  have hC := Lib.hid (show (if m.st = 1 then (0 : Int) else 8) = 0 by rw [if_pos hst])
  have c4 : (w.alloc (.cells trZ 32)).cell? ⟨b, 4, none⟩ = some (.int .i64 m.now) := h'.1.cell 4
  have b1 : Blk (w.alloc (.cells trZ 32)) w.heap.size trZ 32 := Blk.new' rfl
  have hlt := hP.1.lt
  have ht0 := ht.1
  have H3 := Lib.hid row3
  clear hst ht
  go_enter Try.func12, Try.ntmps12
  go_wp2_with (first
    | (go_at_call 25; (with_reducible refine (none_any b v m _ h'.1).mono ?_); rintro e w' ⟨rfl, hw⟩; subst w'; rw [hd])
    | (go_at_call 30; (with_reducible refine (timed_any t _).mono ?_); rintro e w' ⟨rfl, hw⟩; subst w'; rw [hf])
    | ((with_reducible refine wpList_store_int rfl 3 (.tmp 24) (.tmp 22) rfl b 4 .i64 _ rfl rfl h'.1 H3.out ?_ ?_); (exact (by decide : 4 < 6)); intro w5 hb5 ho5; rw [cells_now (t := t) (by unfold nowF; omega)] at hb5; have hB5 := ((But.refl b w.heap.size w).alloc (Nat.le_refl _) (.cells trZ 32)).only ho5 (.inl rfl); have own5 := own_only h'.2 ho5 (own_ne_blk h'.2 h'.1 (by decide)); have t5 := b1.only ho5 (by omega); have c0 : w5.cell? ⟨b, 0, none⟩ = some v := hb5.cell 0; have c1 : w5.cell? ⟨b, 1, none⟩ = some (.int .i64 m.num) := hb5.cell 1; have c3 : w5.cell? ⟨b, 3, none⟩ = some (.int .i64 m.st) := hb5.cell 3; have c4 : w5.cell? ⟨b, 4, none⟩ = some (.int .i64 (nowF m t)) := hb5.cell 4; have c5 : w5.cell? ⟨b, 5, none⟩ = some (.int .i64 m.sent) := hb5.cell 5; have g3 := hb5.frozen 3; have g5 := hb5.frozen 5; have HO5 := Lib.hid ho5; clear ho5)
    | (go_at_call 27; (with_reducible refine (allowed_c b m.st 1 _ ?_ _ c3).mono ?_); (rfl); rintro e w' ⟨rfl, hw⟩; subst w'; rw [hC.out])
    | (go_at_call 31; (with_reducible refine (transmission_any v m.blk m.num _ ?_ hlen).mono ?_); (exact bsl_own (own_only (own_only own5 (Only.setCell w5 3 _) (own_ne_blk own5 hb5 (by decide))) (Only.setCell _ 5 _) (own_ne_blk own5 hb5 (by decide)))); rintro e w8 ⟨u, rfl, hu, hb8⟩; obtain ⟨uA, uk, uc, rfl⟩ := own_form hu; have t8 := ((t5.set_other (p := ⟨b, 3, none⟩) (by simp; omega) (.int .i64 2)).set_other (p := ⟨b, 5, none⟩) (by simp; omega) (.int .i64 (nowF m t))).below hb8 (by simpa using t5.lt); have HU := Lib.hid hu; have HB8 := Lib.hid hb8; clear hu hb8; have T8 := Lib.hid t8; have d0 : w8.cell? ⟨w.heap.size, 0, none⟩ = some (.slice none 0 0) := t8.cell 0; have d1 : w8.cell? ⟨w.heap.size, 1, none⟩ = some (.int .i64 0) := t8.cell 1; have d2 : w8.cell? ⟨w.heap.size, 2, none⟩ = some (.int .i64 0) := t8.cell 2; have d3 : w8.cell? ⟨w.heap.size, 3, none⟩ = some (.bool false) := t8.cell 3; have f0 := t8.frozen 0; have f1 := t8.frozen 1; have f2 := t8.frozen 2; have f3 := t8.frozen 3; unfold trV))
  all_goals
    have hb9 := put4 (v0 := .slice uA uk uc) (v1 := .int .i64 (verF m.num)) (v2 := .int .i64 m.num) (v3 := .bool (decide (m.num = 0))) T8.out
    refine bodyPost_ret (results_blk_tmp rfl _ _ w.heap.size (trV (.slice uA uk uc) m.num) 32 4 _ rfl rfl hb9 row32 rfl) rfl ?_
    have ho9 := Only.setCells w.heap.size [.slice uA uk uc, .int .i64 (verF m.num), .int .i64 m.num, .bool (decide (m.num = 0))] 0 w8
    have hs5 : w5.heap.size = w.heap.size + 1 := by have := HO5.out.size; simpa using this
    have k7 : Blk ((w5.setCell ⟨b, 3, none⟩ (.int .i64 2)).setCell ⟨b, 5, none⟩ (.int .i64 (nowF m t))) b (cellsH v { m with st := 2, now := nowF m t, sent := nowF m t }) 64 := (hb5.set 3 _).set 5 _
    have o7 := own_only (own_only own5 (Only.setCell w5 3 (.int .i64 2)) (own_ne_blk own5 hb5 (by decide))) (Only.setCell _ 5 (.int .i64 (nowF m t))) (own_ne_blk own5 hb5 (by decide))
    have k9 := (k7.below HB8.out k7.lt).only ho9 (by omega)
    have B7 := (hB5.only (Only.setCell w5 3 (.int .i64 2)) (.inl rfl)).only (Only.setCell _ 5 (.int .i64 (nowF m t))) (.inl rfl)
    have hs7 : w.heap.size ≤ ((w5.setCell ⟨b, 3, none⟩ (.int .i64 2)).setCell ⟨b, 5, none⟩ (.int .i64 (nowF m t))).heap.size := by simp [hs5]
    exact ⟨_, rfl, own_only (own_base HU.out hs7) ho9 (own_ne_blk HU.out T8.out (by decide)), ⟨k9, own_only (own_below o7 HB8.out) ho9 (own_ne_blk (own_below o7 HB8.out) T8.out (by decide))⟩, (B7.below HB8.out hs7).only ho9 (.inr (Nat.le_refl _)), .inl rfl⟩
end Go.Proofs.Ythbpmofabcilhaa
