/-
  Bit strings, walks: Xor and Distance of strings that are no bits; the reference's Xor and Weight; the statement BitstrXor.
-/
import Derived.Test.YtflmbghbgmkdeaaBitU
import Derived.Deep.RegionHeld3
set_option linter.unusedSimpArgs false
set_option linter.unusedVariables false
namespace Go.Proofs.Ytflmbghbgmkdeaa
open Go.RowKit

theorem wp_append_bytes {P : Program} {w : World} {o : Oper} {a : Act} {K : Act → World → Prop} {Q : Exit → Act → World → Prop} (s x : Operand) (t : TypeId)
    (ho : o.op = .call { callee := .builtin .append, args := #[s, x], argTypes := #[t, t] })
    (base : Nat) (e : TypeId) (i : TypeInfo) (ht : P.underlying t = some (.slice e)) (hi : P.info? e = some i) (hz : i.zero = some (.int .u8 0)) (hsize : i.size = 1) (hby : i.bytes = 1)
    (v : Value) (l : List UInt8) (hs : a.eval s = v) (hown : w.ownsRow base e 1 v l.length (l.map B))
    (ad : Addr) (m : List UInt8) (c : Nat) (hx : a.eval x = .slice (some ad) m.length c) (hb : Byt w (some ad) m) (hlen : l.length + m.length ≤ 100000000000) (hbase : base ≤ w.heap.size)
    (h : ∀ v' w', w'.ownsRow base e 1 v' (l ++ m).length ((l ++ m).map B) → w.grownBy w' v.ownBlock → K (a.put o.dst v') w') : o.wp P a w K Q := by
  refine wp_append_own w s x t ho base e i (.int .u8 0) 1 1 ht hi hz hsize hby rfl (by decide) v l.length (l.map B) hs hown ad m.length c (m.map B) hx (by simp) (fun j u hj => ?_) (B_one m) (by unfold maxLen; omega) (by omega) hbase
      (fun v' w' h1 h2 _ => h v' w' (by rw [List.length_append, List.map_append]; exact h1) h2)
  have hj' : j < m.length := by
    have := (List.getElem?_eq_some_iff.1 hj).1
    simpa using this
  obtain ⟨b, o, e, _, hc⟩ := hb (by omega)
  simp only [Option.some.injEq] at e
  subst e
  have h1 := hc j hj'
  rw [List.getElem?_map, List.getElem?_eq_getElem hj', Option.map_some, Option.some.injEq] at hj
  subst hj
  rw [Go.WideShapes.add_plain]
  simpa [gd, hj', B] using h1
theorem byt_one {w : World} {p : Nat} {t : TypeId} (h : p < 256) : Byt (w.alloc (.cells #[.int .u8 (p : Int)] t)) (some ⟨w.heap.size, 0, none⟩) [UInt8.ofNat p] := by
  intro _
  refine ⟨w.heap.size, 0, rfl, by simp, fun i hi => ?_⟩
  have : i = 0 := by simpa using hi
  subst this
  have h1 := (Blk.new w #[.int .u8 (p : Int)] t).cell 0
  have e : gd [UInt8.ofNat p] 0 = UInt8.ofNat p := rfl
  rw [e, UInt8.toNat_ofNat', Nat.mod_eq_of_lt h]
  exact h1
theorem cell_alloc {w : World} {b o : Nat} {s} {v : Value} (h : w.cell? ⟨b, o, s⟩ = some v) (x : Obj) : (w.alloc x).cell? ⟨b, o, s⟩ = some v := by
  have := ((Below.refl w.heap.size w).alloc (Nat.le_refl _) x).cell (p := ⟨b, o, s⟩) (cell_lt h)
  exact this.trans h
theorem kept2 {w : World} {b o b' o' : Nat} {s s'} {v v' : Value} {x : Obj} (h : w.cell? ⟨b, o, s⟩ = some v ∧ w.cell? ⟨b', o', s'⟩ = some v') : (w.alloc x).cell? ⟨b, o, s⟩ = some v ∧ (w.alloc x).cell? ⟨b', o', s'⟩ = some v' := ⟨cell_alloc h.1 x, cell_alloc h.2 x⟩
theorem own_nil (w : World) (base : Nat) : w.ownsRow base 5 1 (.slice none 0 0) ([] : List UInt8).length (([] : List UInt8).map B) := ⟨rfl, .inl ⟨rfl, rfl⟩⟩

set_option maxHeartbeats 400000 in
theorem valid2f (x : List UInt8) (v u : Value) (g c : Nat) (w : World) (hg : Blk w g #[v, u] 23) (hv : Bsl w v x) (hx : x.length ≤ 100000) (hok : okb x = false) :
    Calls Try.prog 34 #[.slice (some ⟨g, 0, none⟩) 2 c] w fun e w' => e = .returned (.bool false) ∧ w' = w := by
  obtain ⟨a, cap, rfl, h1, h2, h3, h4⟩ := hv
  have c0 : w.cell? ⟨g, 0, none⟩ = some (.slice a x.length cap) := hg.cell 0
  have HX := Lib.hid hok
  clear h2 h3 hok
  go_enter Try.func34, Try.ntmps34
  go_wp2
  refine wp_loop_rounds 3 ?_
  rw [rounds_succ]
  go_wp2_with (go_at_call 41; (with_reducible refine (contains_any x a cap _ h4 hx).mono ?_); rintro e w' ⟨rfl, hw⟩; subst w'; rw [HX.out, Bool.not_false])
  go_ret
  exact ⟨rfl, rfl⟩
theorem valid2_any (x y : List UInt8) (v u : Value) (g c : Nat) (w : World) (hg : Blk w g #[v, u] 23) (hv : Bsl w v x) (hu : Bsl w u y) (hx : x.length ≤ 100000) (hy : y.length ≤ 100000) :
    Calls Try.prog 34 #[.slice (some ⟨g, 0, none⟩) 2 c] w fun e w' => e = .returned (.bool (okb x && okb y)) ∧ w' = w := by
  cases hok : okb x with
  | true => rw [Bool.true_and]; exact valid2 x y v u g c w hg hv hu hx hy hok
  | false => rw [Bool.false_and]; exact valid2f x v u g c w hg hv hx hok

theorem xor_err (x y : List UInt8) (v u : Value) (w : World) (hv : Bsl w v x) (hu : Bsl w u y) (hl : x.length = y.length) (hok : (okb x && okb y) = false) (hlen : x.length ≤ 10000) :
    Calls Try.prog 17 #[v, u] w fun e w' => e = .returned (.tuple #[.slice none 0 0, .int .i64 3]) ∧ Below w.heap.size w w' := by
  have hv0 := hv
  have hu0 := hu
  obtain ⟨a, cap, rfl, h1, h2, h3, h4⟩ := hv
  obtain ⟨b, cap', rfl, k1, k2, k3, k4⟩ := hu
  rw [← hl] at hu0 k1 ⊢
  obtain ⟨W, hW⟩ : ∃ W, W = (w.alloc (.cells #[.slice a x.length cap] 23)).alloc (.cells #[.slice b x.length cap'] 23) := ⟨_, rfl⟩
  have b0 : Blk W w.heap.size #[.slice a x.length cap] 23 := by rw [hW]; exact (Blk.new' rfl).alloc _
  have b1 : Blk W (w.heap.size + 1) #[.slice b x.length cap'] 23 := by rw [hW]; exact Blk.new' (by simp)
  have hB : Below w.heap.size w W := by rw [hW]; exact ((Below.refl _ _).alloc (Nat.le_refl _) _).alloc (by simp) _
  have HW := Lib.hid hW
  have HSZ := Lib.hid (show w.heap.size + 1 + 1 = W.heap.size by rw [hW]; simp)
  have HL := Lib.hid hl
  have HX := Lib.hid hok
  have V0 := hv0.below hB
  have V1 := hu0.below hB
  have d0 : (W.alloc (.cells #[.slice a x.length cap, .slice b x.length cap'] 23)).cell? ⟨w.heap.size, 0, none⟩ = some (.slice a x.length cap) := (b0.alloc _).cell 0
  have c0 : W.cell? ⟨w.heap.size, 0, none⟩ = some (.slice a x.length cap) := b0.cell 0
  have c1 : W.cell? ⟨w.heap.size + 1, 0, none⟩ = some (.slice b x.length cap') := b1.cell 0
  clear hW b0 b1 h2 h3 h4 k2 k3 k4 hl hok hv0 hu0
  go_enter Try.func17, Try.ntmps17
  go_wp2_with (first
    | (go_at_call 34; rw [← HW.out]; (with_reducible refine (valid2_any x y _ _ (w.heap.size + 1 + 1) _ _ (Blk.new' HSZ.out) (V0.below ((Below.refl _ _).alloc (Nat.le_refl _) _)) (V1.below ((Below.refl _ _).alloc (Nat.le_refl _) _)) ?_ ?_).mono ?_); (omega); (rw [← HL.out]; omega); rintro e w' ⟨rfl, hw⟩; subst w'; rw [HX.out])
    | fail)
  go_ret2
  exact ⟨rfl, hB.alloc hB.size _⟩
theorem distance_err (x y : List UInt8) (v u : Value) (w : World) (hv : Bsl w v x) (hu : Bsl w u y) (hl : x.length = y.length) (hok : (okb x && okb y) = false) (hlen : x.length ≤ 10000) :
    Calls Try.prog 19 #[v, u] w fun e w' => e = .returned (.tuple #[.int .i64 0, .int .i64 3]) ∧ Below w.heap.size w w' := by
  go_enter Try.func19, Try.ntmps19
  go_wp2_with (first
    | (go_at_call 17; (with_reducible refine (xor_err x y _ _ _ hv hu hl hok hlen).mono ?_); rintro e w1 ⟨rfl, hB⟩)
    | (go_at_call 21; (with_reducible refine (weight_any [] _ _ (bsl_nil _) (by simp)).mono ?_); rintro e w' ⟨rfl, hw⟩; subst w'))
  go_ret2
  exact ⟨rfl, hB⟩

/-- What Xor and Distance answer. -/
def xoL (x y : List UInt8) : List UInt8 := if x.length ≠ y.length then [] else if okb x && okb y then xorL x y else []
def xoE (x y : List UInt8) : Int := if x.length ≠ y.length then 2 else if okb x && okb y then 0 else 3
theorem xor_any (x y : List UInt8) (v u : Value) (w : World) (hv : Bsl w v x) (hu : Bsl w u y) (hlen : x.length ≤ 10000) :
    Calls Try.prog 17 #[v, u] w fun e w' => ∃ r, e = .returned (.tuple #[r, .int .i64 (xoE x y)]) ∧ Bsl w' r (xoL x y) ∧ Below w.heap.size w w' := by
  unfold xoE xoL
  by_cases hl : x.length ≠ y.length
  · rw [if_pos hl, if_pos hl]
    refine (xor_len x y v u w hv hu hl).mono ?_
    rintro e w' ⟨rfl, hB⟩
    exact ⟨_, rfl, bsl_nil _, hB⟩
  · rw [if_neg hl, if_neg hl]
    have hl' : x.length = y.length := by omega
    cases hok : okb x && okb y with
    | true =>
      rw [if_pos rfl, if_pos rfl]
      rw [Bool.and_eq_true] at hok
      exact xor_ok x y v u w hv hu hl' hok.1 hok.2 hlen
    | false =>
      rw [if_neg (by simp), if_neg (by simp)]
      refine (xor_err x y v u w hv hu hl' hok hlen).mono ?_
      rintro e w' ⟨rfl, hB⟩
      exact ⟨_, rfl, bsl_nil _, hB⟩
theorem distance_any (x y : List UInt8) (v u : Value) (w : World) (hv : Bsl w v x) (hu : Bsl w u y) (hlen : x.length ≤ 10000) :
    Calls Try.prog 19 #[v, u] w fun e w' => e = .returned (.tuple #[.int .i64 (wgt (xoL x y)), .int .i64 (xoE x y)]) ∧ Below w.heap.size w w' := by
  unfold xoE xoL
  by_cases hl : x.length ≠ y.length
  · rw [if_pos hl, if_pos hl]
    exact distance_len x y v u w hv hu hl
  · rw [if_neg hl, if_neg hl]
    have hl' : x.length = y.length := by omega
    cases hok : okb x && okb y with
    | true =>
      rw [if_pos rfl, if_pos rfl]
      rw [Bool.and_eq_true] at hok
      rw [wgt_xor x y hl' hok.1 hok.2]
      exact distance_ok x y v u w hv hu hl' hok.1 hok.2 hlen
    | false =>
      rw [if_neg (by simp), if_neg (by simp)]
      exact distance_err x y v u w hv hu hl' hok hlen

theorem rxor_len (x y : List UInt8) (v u : Value) (w : World) (hv : Bsl w v x) (hu : Bsl w u y) (hl : x.length ≠ y.length) :
    Calls Try.prog 18 #[v, u] w fun e w' => e = .returned (.tuple #[.slice none 0 0, .int .i64 2]) ∧ Below w.heap.size w w' := by
  obtain ⟨a, cap, rfl, h1, h2, h3, h4⟩ := hv
  obtain ⟨b, cap', rfl, k1, k2, k3, k4⟩ := hu
  have hI : ((x.length : Int) != (y.length : Int)) = true := by simp only [bne_iff_ne]; omega
  clear h2 h3 h4 k2 k3 k4
  go_enter Try.func18, Try.ntmps18
  go_wp2
  go_ret2
  exact ⟨rfl, Below.refl _ _⟩
theorem rxor_err (x y : List UInt8) (v u : Value) (w : World) (hv : Bsl w v x) (hu : Bsl w u y) (hl : x.length = y.length) (hok : (okb x && okb y) = false) (hlen : x.length ≤ 10000) :
    Calls Try.prog 18 #[v, u] w fun e w' => e = .returned (.tuple #[.slice none 0 0, .int .i64 3]) ∧ Below w.heap.size w w' := by
  have hv0 := hv
  have hu0 := hu
  obtain ⟨a, cap, rfl, h1, h2, h3, h4⟩ := hv
  obtain ⟨b, cap', rfl, k1, k2, k3, k4⟩ := hu
  have hly : y.length ≤ 10000 := by omega
  rw [← hl] at hu0 k1 ⊢
  clear h2 h3 h4 k2 k3 k4
  cases hox : okb x with
  | false =>
    have HX := Lib.hid hox
    clear hox hok hl
    go_enter Try.func18, Try.ntmps18
    go_wp2_with (go_at_call 28; (with_reducible refine (rvalid_any x _ _ hv0 ?_).mono ?_); (omega); rintro e w' ⟨rfl, hw⟩; subst w'; rw [HX.out])
    go_ret2
    exact ⟨rfl, Below.refl _ _⟩
  | true =>
    have HX := Lib.hid hox
    rw [hox, Bool.true_and] at hok
    have HY := Lib.hid hok
    clear hox hok hl
    go_enter Try.func18, Try.ntmps18
    go_wp2_with (first
      | (go_at_call 28; (with_reducible refine (rvalid_any x _ _ hv0 ?_).mono ?_); (omega); rintro e w' ⟨rfl, hw⟩; subst w'; rw [HX.out])
      | (go_at_call 28; (with_reducible refine (rvalid_any y _ _ hu0 ?_).mono ?_); (omega); rintro e w' ⟨rfl, hw⟩; subst w'; rw [HY.out]))
    go_ret2
    exact ⟨rfl, Below.refl _ _⟩

set_option maxHeartbeats 800000 in
theorem rxor_ok (x y : List UInt8) (v u : Value) (w : World) (hv : Bsl w v x) (hu : Bsl w u y) (hl : x.length = y.length) (hx : okb x = true) (hy : okb y = true) (hlen : x.length ≤ 10000) :
    Calls Try.prog 18 #[v, u] w fun e w' => ∃ r, e = .returned (.tuple #[r, .int .i64 0]) ∧ Bsl w' r (xorL x y) ∧ Below w.heap.size w w' := by
  obtain ⟨i0, hi, hz0, hz1, hz2⟩ := info_parts info5
  have hv0 := hv
  have hu0 := hu
  obtain ⟨a, cap, rfl, h1, h2, h3, h4⟩ := hv
  obtain ⟨b, cap', rfl, k1, k2, k3, k4⟩ := hu
  have hly : y.length ≤ 10000 := by omega
  rw [← hl] at hu0 k1 ⊢
  have HX := Lib.hid hx
  have HY := Lib.hid hy
  have HL := Lib.hid hl
  clear h2 h3 k2 k3 hl hx hy
  go_enter Try.func18, Try.ntmps18
  go_wp2_with (first
    | (go_at_call 28; (with_reducible refine (rvalid_any x _ _ hv0 ?_).mono ?_); (omega); rintro e w' ⟨rfl, hw⟩; subst w'; rw [HX.out])
    | (go_at_call 28; (with_reducible refine (rvalid_any y _ _ hu0 ?_).mono ?_); (omega); rintro e w' ⟨rfl, hw⟩; subst w'; rw [HY.out]))
  go_loopw [6, 7] (fun r t wr => ∃ k : Nat, k ≤ x.length ∧ t = .int .i64 k ∧ wr.ownsRow w.heap.size 5 1 r (xorL (x.take k) (y.take k)).length ((xorL (x.take k) (y.take k)).map B) ∧ Below w.heap.size w wr) (fun _ t _ => x.length - (intOf t).toNat)
  case atStart => exact ⟨0, by omega, rfl, own_nil _ _, Below.refl _ _⟩
  case round =>
    obtain ⟨k, hk, rfl, hown, hB⟩ := hrel
    by_cases hlt : k < x.length
    · have hlty : k < y.length := by rw [← HL.out]; exact hlt
      obtain ⟨p, o, rfl, hpl, hp⟩ := h4 (by omega)
      obtain ⟨q, o', rfl, hql, hq⟩ := k4 (by omega)
      have hT := xorL_take x y k hlt hlty
      have hlen2 : (xorL (x.take k) (y.take k)).length ≤ 10000 := by simp [xorL]; omega
      obtain ⟨M, hM⟩ : ∃ M, M = xorL (x.take k) (y.take k) := ⟨_, rfl⟩
      rw [← hM] at hT hlen2 hown
      have cA : ∀ w', Below w.heap.size w w' → w'.cell? ⟨p, o + k, none⟩ = some (.int .u8 (gd x k).toNat) := fun w' h => (h.cell hpl).trans (hp k hlt)
      have cB : ∀ w', Below w.heap.size w w' → w'.cell? ⟨q, o' + k, none⟩ = some (.int .u8 (gd y k).toNat) := fun w' h => (h.cell hql).trans (hq k hlty)
      obtain ⟨X, hX⟩ : ∃ X : Int, X = (gd x k).toNat := ⟨_, rfl⟩
      obtain ⟨Y, hY⟩ : ∃ X : Int, X = (gd y k).toNat := ⟨_, rfl⟩
      rw [← hX] at cA
      rw [← hY] at cB
      have hcase : ∃ z : Nat, z < 2 ∧ gd x k ^^^ gd y k = UInt8.ofNat z ∧ ((X = 0 ∧ Y = 0 ∧ z = 0) ∨ (X = 0 ∧ Y = 1 ∧ z = 1) ∨ (X = 1 ∧ Y = 0 ∧ z = 1) ∨ (X = 1 ∧ Y = 1 ∧ z = 0)) := by
        rcases bit_cases (okb_get x HX.out k) with e | e <;> rcases bit_cases (okb_get y HY.out k) with f | f <;> rw [e] at hX <;> rw [f] at hY <;> rw [e, f]
        · exact ⟨0, by omega, rfl, .inl ⟨hX, hY, rfl⟩⟩
        · exact ⟨1, by omega, rfl, .inr (.inl ⟨hX, hY, rfl⟩)⟩
        · exact ⟨1, by omega, rfl, .inr (.inr (.inl ⟨hX, hY, rfl⟩))⟩
        · exact ⟨0, by omega, rfl, .inr (.inr (.inr ⟨hX, hY, rfl⟩))⟩
      obtain ⟨z, hz, hxz, hcase⟩ := hcase
      rw [hxz] at hT
      have HT := Lib.hid hT
      have HCA := Lib.hid cA
      have HCB := Lib.hid cB
      have s0 : wr.drew.cell? ⟨p, o + k, none⟩ = some (.int .u8 X) ∧ wr.drew.cell? ⟨q, o' + k, none⟩ = some (.int .u8 Y) := ⟨cA _ hB.drew, cB _ hB.drew⟩
      clear hT hM hX hY hxz hp hq cA cB
      rcases hcase with ⟨rfl, rfl, rfl⟩ | ⟨rfl, rfl, rfl⟩ | ⟨rfl, rfl, rfl⟩ | ⟨rfl, rfl, rfl⟩
      · go_wp2_with fail
        go_region_held3 (fun w' => w'.cell? ⟨p, o + k, none⟩ = some (.int .u8 0) ∧ w'.cell? ⟨q, o' + k, none⟩ = some (.int .u8 0)) (first | assumption | exact kept2 (by assumption))
          (first
            | (rw [if_pos (by rfl)]; refine wp_append_bytes (.tmp 27) (.tmp 38) 23 rfl w.heap.size 5 i0 Try.underlying23 hi hz0 hz1 hz2 _ _ rfl (hown.drew.alloc _) ⟨wr.heap.size, 0, none⟩ [UInt8.ofNat 0] 1 rfl (byt_one (w := wr.drew) (p := 0) (by omega)) ?_ ?_ ?_; (simp; omega); (exact le_alloc hB.size _); intro v8 w8 o8 g8; have hB8 := (hB.drew.alloc hB.size _).grown g8 (le_alloc hB.size _) (own_ge hown); have s8 := And.intro (HCA.out w8 hB8) (HCB.out w8 hB8)))
        rw [← HT.out] at o8
        go_wp2
        exact ⟨⟨k + 1, by omega, by go_num, o8, hB8⟩, by simp [intOf]; omega⟩
      · go_wp2_with fail
        go_region_held3 (fun w' => w'.cell? ⟨p, o + k, none⟩ = some (.int .u8 0) ∧ w'.cell? ⟨q, o' + k, none⟩ = some (.int .u8 1)) (first | assumption | exact kept2 (by assumption))
          (first
            | (rw [if_pos (by rfl)]; refine wp_append_bytes (.tmp 27) (.tmp 38) 23 rfl w.heap.size 5 i0 Try.underlying23 hi hz0 hz1 hz2 _ _ rfl (hown.drew.alloc _) ⟨wr.heap.size, 0, none⟩ [UInt8.ofNat 1] 1 rfl (byt_one (w := wr.drew) (p := 1) (by omega)) ?_ ?_ ?_; (simp; omega); (exact le_alloc hB.size _); intro v8 w8 o8 g8; have hB8 := (hB.drew.alloc hB.size _).grown g8 (le_alloc hB.size _) (own_ge hown); have s8 := And.intro (HCA.out w8 hB8) (HCB.out w8 hB8)))
        rw [← HT.out] at o8
        go_wp2
        exact ⟨⟨k + 1, by omega, by go_num, o8, hB8⟩, by simp [intOf]; omega⟩
      · go_wp2_with fail
        go_region_held3 (fun w' => w'.cell? ⟨p, o + k, none⟩ = some (.int .u8 1) ∧ w'.cell? ⟨q, o' + k, none⟩ = some (.int .u8 0)) (first | assumption | exact kept2 (by assumption))
          (first
            | (rw [if_pos (by rfl)]; refine wp_append_bytes (.tmp 27) (.tmp 38) 23 rfl w.heap.size 5 i0 Try.underlying23 hi hz0 hz1 hz2 _ _ rfl (hown.drew.alloc _) ⟨wr.heap.size, 0, none⟩ [UInt8.ofNat 1] 1 rfl (byt_one (w := wr.drew) (p := 1) (by omega)) ?_ ?_ ?_; (simp; omega); (exact le_alloc hB.size _); intro v8 w8 o8 g8; have hB8 := (hB.drew.alloc hB.size _).grown g8 (le_alloc hB.size _) (own_ge hown); have s8 := And.intro (HCA.out w8 hB8) (HCB.out w8 hB8)))
        rw [← HT.out] at o8
        go_wp2
        exact ⟨⟨k + 1, by omega, by go_num, o8, hB8⟩, by simp [intOf]; omega⟩
      · go_wp2_with fail
        go_region_held3 (fun w' => w'.cell? ⟨p, o + k, none⟩ = some (.int .u8 1) ∧ w'.cell? ⟨q, o' + k, none⟩ = some (.int .u8 1)) (first | assumption | exact kept2 (by assumption))
          (first
            | (rw [if_pos (by rfl)]; refine wp_append_bytes (.tmp 27) (.tmp 38) 23 rfl w.heap.size 5 i0 Try.underlying23 hi hz0 hz1 hz2 _ _ rfl (hown.drew.alloc _) ⟨wr.heap.size, 0, none⟩ [UInt8.ofNat 0] 1 rfl (byt_one (w := wr.drew) (p := 0) (by omega)) ?_ ?_ ?_; (simp; omega); (exact le_alloc hB.size _); intro v8 w8 o8 g8; have hB8 := (hB.drew.alloc hB.size _).grown g8 (le_alloc hB.size _) (own_ge hown); have s8 := And.intro (HCA.out w8 hB8) (HCB.out w8 hB8)))
        rw [← HT.out] at o8
        go_wp2
        exact ⟨⟨k + 1, by omega, by go_num, o8, hB8⟩, by simp [intOf]; omega⟩
    · obtain rfl : k = x.length := by omega
      rw [List.take_length, show List.take x.length y = y by rw [HL.out, List.take_length]] at hown
      go_wp2
      go_ret2
      exact ⟨_, rfl, bsl_own hown, hB⟩

theorem rxor_any (x y : List UInt8) (v u : Value) (w : World) (hv : Bsl w v x) (hu : Bsl w u y) (hlen : x.length ≤ 10000) :
    Calls Try.prog 18 #[v, u] w fun e w' => ∃ r, e = .returned (.tuple #[r, .int .i64 (xoE x y)]) ∧ Bsl w' r (xoL x y) ∧ Below w.heap.size w w' := by
  unfold xoE xoL
  by_cases hl : x.length ≠ y.length
  · rw [if_pos hl, if_pos hl]
    refine (rxor_len x y v u w hv hu hl).mono ?_
    rintro e w' ⟨rfl, hB⟩
    exact ⟨_, rfl, bsl_nil _, hB⟩
  · rw [if_neg hl, if_neg hl]
    have hl' : x.length = y.length := by omega
    cases hok : okb x && okb y with
    | true =>
      rw [if_pos rfl, if_pos rfl]
      rw [Bool.and_eq_true] at hok
      exact rxor_ok x y v u w hv hu hl' hok.1 hok.2 hlen
    | false =>
      rw [if_neg (by simp), if_neg (by simp)]
      refine (rxor_err x y v u w hv hu hl' hok hlen).mono ?_
      rintro e w' ⟨rfl, hB⟩
      exact ⟨_, rfl, bsl_nil _, hB⟩

theorem rweight_any (l : List UInt8) (v : Value) (w : World) (hv : Bsl w v l) (hlen : l.length ≤ 100000) :
    Calls Try.prog 20 #[v] w fun e w' => e = .returned (.int .i64 (wgt l)) ∧ w' = w := by
  obtain ⟨a, cap, rfl, h1, h2, h3, h4⟩ := hv
  clear h2 h3
  go_enter Try.func20, Try.ntmps20
  go_wp2
  go_loopw [3, 4] (fun n t wr => ∃ k : Nat, k ≤ l.length ∧ t = .int .i64 k ∧ n = .int .i64 (wgt (l.take k)) ∧ wr = w) (fun _ t _ => l.length - (intOf t).toNat)
  case atStart => exact ⟨0, by omega, rfl, rfl, rfl⟩
  case round =>
    obtain ⟨k, hk, rfl, rfl, rfl⟩ := hrel
    by_cases hlt : k < l.length
    · obtain ⟨b, o, rfl, hbl, hc⟩ := h4 (by omega)
      have c0 := hc k hlt
      have hW := wgt_take l k hlt
      have hle : wgt (l.take k) ≤ 100000 := Nat.le_trans (wgt_le _) (by simp; omega)
      obtain ⟨N, hN⟩ : ∃ N, N = wgt (l.take k) := ⟨_, rfl⟩
      rw [← hN] at hW hle ⊢
      by_cases h1' : gd l k = 1
      · rw [h1'] at c0 hW
        rw [if_pos rfl] at hW
        have HW := Lib.hid hW
        clear hW hN hc
        go_wp2
        exact ⟨⟨k + 1, by omega, by go_num, by rw [HW.out]; go_num, trivial⟩, by simp [intOf]; omega⟩
      · rw [if_neg h1'] at hW
        have hne : ¬ (gd l k).toNat = 1 := fun h => h1' (UInt8.toNat_inj.1 h)
        obtain ⟨x, hx⟩ : ∃ x, x = (gd l k).toNat := ⟨_, rfl⟩
        rw [← hx] at c0 hne
        have hI : ((x : Int) == 1) = false := by simp only [beq_eq_false_iff_ne]; omega
        have HW := Lib.hid hW
        clear hW hN hc hx
        go_wp2
        exact ⟨⟨k + 1, by omega, by go_num, by rw [HW.out]; rfl, trivial⟩, by simp [intOf]; omega⟩
    · obtain rfl : k = l.length := by omega
      rw [List.take_length]
      go_wp2
      go_ret
      exact ⟨rfl, rfl⟩

set_option maxRecDepth 100000 in
set_option maxHeartbeats 2000000 in
theorem walk_BitstrXor (v0 : Value) (x : List UInt8) (v1 : Value) (y : List UInt8) (w : World) (h0 : Bsl w v0 x) (h1 : Bsl w v1 y) :
    Calls Try.prog 4 #[v0, v1] w fun e w' => e = .returned (.bool true) ∧ Below w.heap.size w w' := by
  have H0 := h0
  have H1 := h1
  obtain ⟨a0, cap0, rfl, p1, _⟩ := h0
  obtain ⟨a1, cap1, rfl, q1, _⟩ := h1
  obtain ⟨L, hL⟩ : ∃ L, L = xoL x y := ⟨_, rfl⟩
  obtain ⟨E, hE⟩ : ∃ L, L = xoE x y := ⟨_, rfl⟩
  have hLl : x.length ≤ 1000 → L.length ≤ 100000 := by
    intro h
    rw [hL, xoL]
    by_cases hl : x.length ≠ y.length
    · rw [if_pos hl]; simp
    · rw [if_neg hl]
      by_cases hk : (okb x && okb y) = true
      · rw [if_pos hk]; simp [xorL]; omega
      · rw [if_neg hk]; simp
  have HL := Lib.hid hL
  have HE := Lib.hid hE
  have HLL := Lib.hid hLl
  clear hL hE hLl p1 q1
  by_cases hx : 1000 < x.length
  · have hh : (1000 : Int) < (x.length : Int) := by omega
    clear H0 H1
    go_enter Try.func4, Try.ntmps4
    go_wp2_with (go_at_call 10; (with_reducible refine (works_any _).mono ?_); rintro e w9 ⟨rfl, hB⟩)
    go_ret
    exact ⟨rfl, hB⟩
  · have hh : ¬ (1000 : Int) < (x.length : Int) := by omega
    by_cases hy : 1000 < y.length
    · have hh2 : (1000 : Int) < (y.length : Int) := by omega
      clear H0 H1
      go_enter Try.func4, Try.ntmps4
      go_wp2_with (go_at_call 10; (with_reducible refine (works_any _).mono ?_); rintro e w9 ⟨rfl, hB⟩)
      go_ret
      exact ⟨rfl, hB⟩
    · have hh2 : ¬ (1000 : Int) < (y.length : Int) := by omega
      go_enter Try.func4, Try.ntmps4
      go_wp2_with (first
        | (go_at_call 17; (with_reducible refine (xor_any x y _ _ _ H0 H1 ?_).mono ?_); (omega); rintro e w1 ⟨v5, rfl, h5, hB⟩; rw [← HL.out] at h5; rw [← HE.out]; replace H0 := H0.below hB; replace H1 := H1.below hB)
        | (go_at_call 18; (with_reducible refine (rxor_any x y _ _ _ H0 H1 ?_).mono ?_); (omega); rintro e w2 ⟨v7, rfl, h7, hb⟩; rw [← HL.out] at h7; rw [← HE.out]; replace H0 := H0.below hb; replace H1 := H1.below hb; replace h5 := h5.below hb; replace hB := bnext hB hb; clear hb)
        | (go_at_call 19; (with_reducible refine (distance_any x y _ _ _ H0 H1 ?_).mono ?_); (omega); rintro e w3 ⟨rfl, hb⟩; rw [← HL.out, ← HE.out]; replace H0 := H0.below hb; replace h5 := h5.below hb; replace h7 := h7.below hb; replace hB := bnext hB hb; clear hb)
        | (go_at_call 15; (with_reducible refine (same_any L L _ _ _ h5 h7).mono ?_); rintro e w' ⟨rfl, hw'⟩; subst w'; rw [decide_self])
        | (go_at_call 16; (with_reducible refine (num_any _ _).mono ?_); rintro e w' ⟨rfl, hw'⟩; subst w')
        | (go_at_call 20; (with_reducible refine (rweight_any L _ _ h7 (HLL.out (by omega))).mono ?_); rintro e w' ⟨rfl, hw'⟩; subst w')
        | (go_at_call 20; (with_reducible refine (rweight_any x _ _ H0 ?_).mono ?_); (omega); rintro e w' ⟨rfl, hw'⟩; subst w')
        | (go_at_call 21; (with_reducible refine (weight_any x _ _ H0 ?_).mono ?_); (omega); rintro e w' ⟨rfl, hw'⟩; subst w')
        | (go_at_call 10; (with_reducible refine (works_any _).mono ?_); rintro e w4 ⟨rfl, hb⟩; replace hB := bnext hB hb; clear hb)
        | fail)
      go_ret
      exact ⟨rfl, hB⟩
end Go.Proofs.Ytflmbghbgmkdeaa
