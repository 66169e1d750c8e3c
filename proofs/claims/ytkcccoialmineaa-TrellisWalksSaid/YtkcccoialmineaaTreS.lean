/-
  The trellis, walks: the reference's Word; the statement TrellisEncodes.
-/
import Derived.Test.YtkcccoialmineaaTreR
import Derived.Test.YtkcccoialmineaaTreX
import Derived.Test.YtkcccoialmineaaHeld
import Derived.Deep.RegionHeld3
namespace Go.Proofs.Ytkcccoialmineaa
open Go.RowKit
attribute [-go_sem] Instr.build

theorem own_empty (w : World) (base : Nat) (hb : base ≤ w.heap.size) : (w.alloc (.cells #[] 5)).ownsRow base 5 1 (.slice (some ⟨w.heap.size, 0, none⟩) 0 0) ([] : List UInt8).length (([] : List UInt8).map B) :=
  World.ownsRow_made w #[] 0 hb (Nat.zero_le _) rfl

theorem wp_append_bytes {P : Program} {w : World} {o : Oper} {a : Act} {K : Act → World → Prop} {Q : Exit → Act → World → Prop} (s x : Operand) (t : TypeId)
    (ho : o.op = .call { callee := .builtin .append, args := #[s, x], argTypes := #[t, t] })
    (base : Nat) (e : TypeId) (i : TypeInfo) (ht : P.underlying t = some (.slice e)) (hi : P.info? e = some i) (hz : i.zero = some (.int .u8 0)) (hsize : i.size = 1) (hby : i.bytes = 1)
    (v : Value) (l : List UInt8) (hs : a.eval s = v) (hown : w.ownsRow base e 1 v l.length (l.map B))
    (ad : Addr) (m : List UInt8) (c : Nat) (hx : a.eval x = .slice (some ad) m.length c) (hb : Byt w (some ad) m) (hlen : l.length + m.length ≤ 100000000000) (hbase : base ≤ w.heap.size)
    (h : ∀ v' w', w'.ownsRow base e 1 v' (l ++ m).length ((l ++ m).map B) → w.grownBy w' v.ownBlock → K (a.put o.dst v') w') : o.wp P a w K Q := by
  refine wp_append_own w s x t ho base e i (.int .u8 0) 1 1 ht hi hz hsize hby rfl (by decide) v l.length (l.map B) hs hown ad m.length c (m.map B) hx (by simp) (fun j u hj => ?_) (B_one m) (by unfold maxLen; omega) (by omega) hbase
      (fun v' w' h1 h2 _ => h v' w' (by rw [List.length_append, List.map_append]; exact h1) h2)
  have hj' : j < m.length := by
    have := (List.getElem?_eq_some_iff.1 hj).1
    simpa using this
  obtain ⟨b, o, e, _, hc⟩ := hb (by omega)
  simp only [Option.some.injEq] at e
  subst e
  have h1 := hc j hj'
  rw [List.getElem?_map, List.getElem?_eq_getElem hj', Option.map_some, Option.some.injEq] at hj
  subst hj
  rw [Go.WideShapes.add_plain]
  simpa [gd, hj', B] using h1
theorem ite_go {b : Bool} {A C : Prop} (hb : b = true) (h : A) : if b = true then A else C := by rw [if_pos hb]; exact h
theorem byt_of {w : World} {b n c : Nat} {l : List UInt8} (h : Bsl w (.slice (some ⟨b, 0, none⟩) n c) l) : Byt w (some ⟨b, 0, none⟩) l := by
  obtain ⟨a, cap, e, _, _, _, k⟩ := h
  simp only [Value.slice.injEq] at e
  rw [e.1]; exact k

theorem rword_err (l : List UInt8) (h : okb l = false) (v : Value) (w : World) (hv : Bsl w v l) (hlen : l.length ≤ 10000) :
    Calls Try.prog 20 #[v] w fun e w' => e = .returned (.tuple #[.slice none 0 0, .int .i64 3]) ∧ Below w.heap.size w w' := by
  go_enter Try.func20, Try.ntmps20
  go_wp2_with (go_at_call 18; (with_reducible refine (rencode_err l h _ _ hv hlen).mono ?_); rintro e w' ⟨rfl, hB⟩)
  go_ret2
  exact ⟨rfl, hB⟩

set_option maxHeartbeats 2000000 in
theorem rword_ok (l : List UInt8) (h : okb l = true) (v : Value) (w : World) (hv : Bsl w v l) (hlen : l.length ≤ 10000) :
    Calls Try.prog 20 #[v] w fun e w' => ∃ v', e = .returned (.tuple #[v', .int .i64 0]) ∧ Bsl w' v' (wrd l) ∧ Below w.heap.size w w' := by
  obtain ⟨i0, hi, hz0, hz1, hz2⟩ := info_parts info5
  obtain ⟨a, cap, rfl, h1, h2, h3, h4⟩ := hv
  have z1 : ∀ w, (zeroValue 25).run Try.prog w = .ok (.agg (bytesV Z3)) w := (zero_of_info zero25).1
  obtain ⟨s, hs⟩ : ∃ s, s = stt 0 l := ⟨_, rfl⟩
  have hs8 : s < 8 := by rw [hs]; exact stt_lt 0 (by decide) l
  have HS := Lib.hid hs
  have hv0 : Bsl w (.slice a l.length cap) l := ⟨a, cap, rfl, h1, h2, h3, h4⟩
  have H2 := Lib.hid h2
  have H3 := Lib.hid h3
  have HPL := Lib.hid (par_length 0 l)
  have HW := Lib.hid (show wrd l = l ++ par 0 l ++ tU s ++ tZ s by rw [hs]; rfl)
  clear hs h2 h3
  go_enter Try.func20, Try.ntmps20
  go_wp2_with (first
    | (go_at_call 18; (with_reducible refine (rencode_ok l h _ _ hv0 hlen).mono ?_); rintro e w2 ⟨v2, rfl, hp, hB⟩; rw [← HS.out])
    | (go_at_call 14; (with_reducible refine (rtail_ok s hs8 _).mono ?_); rintro e w3 ⟨rfl, hb1⟩; replace hp := hp.below hb1; replace hB := bnext hB hb1; clear hb1)
    | ((with_reducible refine wpList_store_blk rfl 25 (.tmp 7) (.tmp 22) rfl w3.heap.size 0 3 (bytesV (tU s)) rfl rfl ((Blk.new' rfl).alloc _) row25 ?_ ?_ (bytesV_one _) ?_); (rfl); (exact Nat.le_refl 3); intro w4 h40 o4; rw [splice_all Z3 (tU s) rfl] at h40; have h48 := (Blk.new (w3.alloc (.cells (bytesV Z3) 25)) (bytesV Z3) 25).only o4 (by simp); have hC : Below w3.heap.size w3 w4 := below_only (((Below.refl _ _).alloc (Nat.le_refl _) _).alloc (by simp) _) o4 (Nat.le_refl _))
    | ((with_reducible refine wpList_store_blk rfl 25 (.tmp 8) (.tmp 23) rfl (w3.heap.size + 1) 0 3 (bytesV (tZ s)) rfl rfl (by simpa using h48) row25 ?_ ?_ (bytesV_one _) ?_); (rfl); (exact Nat.le_refl 3); intro w5 h58 o5; rw [splice_all Z3 (tZ s) rfl] at h58; have h57 := h40.only o5 (by omega); replace hC := below_only hC o5 (Nat.le_succ _); replace hp := hp.below hC; replace hB := bnext hB hC; have hU := bsl_row h57 (show 3 ≤ maxLen by decide); have hZ := bsl_row h58 (show 3 ≤ maxLen by decide); have ha := h4.cells hB; obtain ⟨a2, c2, rfl, q1, q2, q3, q4⟩ := hp; have Q2 := Lib.hid q2; have Q3 := Lib.hid q3; have hsz5 := hB.size; clear q2 q3 hC h40 h48 o4 o5)
    | (at_builtin; refine wpList_append_bytes rfl (.tmp 24) (.tmp 25) 36 rfl w5.heap.size 5 i0 Try.underlying36 hi hz0 hz1 hz2 _ [] rfl (own_empty w5 w5.heap.size (Nat.le_refl _)) a l cap rfl H3.out (ha.cells ((Below.refl _ _).alloc (Nat.le_refl _) _)) ?_ ?_ ?_; (simp; omega); (simp); intro v6 w6 o6 g6; have hE : Below w5.heap.size w5 w6 := ((Below.refl _ _).alloc (Nat.le_refl _) _).grown g6 (by simp) (own_ge (own_empty w5 w5.heap.size (Nat.le_refl _))); rw [List.nil_append] at o6)
    | (at_builtin; refine wpList_append_bytes rfl (.tmp 26) (.tmp 27) 36 rfl w5.heap.size 5 i0 Try.underlying36 hi hz0 hz1 hz2 _ l rfl o6 a2 (par 0 l) c2 rfl Q3.out (q4.cells hE) ?_ hE.size ?_; (rw [HPL.out]; omega); intro v7 w7 o7 g7; replace hE := hE.grown g7 hE.size (own_ge o6))
    | fail)
  have hUa := hU.below hE
  have hZa := hZ.below hE
  have o7' := o7.drew
  have hsz7 : w5.heap.size ≤ w7.drew.heap.size := hE.size
  refine wp_region_held_drew (S := fun _ => True) (by kernel_rfl) trivial (fun hHeld => ?_)
  refine wpAnyH_take (i := 0) rfl (by kernel_rfl) (by kernel_rfl) (by kernel_rfl) (fun _ _ _ h => h) (yieldsIf_move rfl _ rfl v7 rfl) trivial ?_
  refine wpAnyH_take (i := 1) rfl (by kernel_rfl) (by kernel_rfl) (by kernel_rfl) (fun _ _ _ h => h) (v := .slice (some ⟨w3.heap.size, 0, none⟩) 3 3) (.inl ⟨rfl, fun w _ => by kernel_rfl⟩) trivial ?_
  refine wpAnyH_take (i := 3) rfl (by kernel_rfl) (by kernel_rfl) (by kernel_rfl) (fun _ _ _ h => h) (v := .slice (some ⟨w3.heap.size + 1, 0, none⟩) 3 3) (.inl ⟨rfl, fun w _ => by kernel_rfl⟩) trivial ?_
  refine wpAnyH_one 2 rfl (by kernel_rfl) (fun K' hK' => ?_)
  refine ite_go rfl ?_
  refine wp_append_bytes (.tmp 29) (.tmp 30) 36 rfl w5.heap.size 5 i0 Try.underlying36 hi hz0 hz1 hz2 v7 _ rfl o7' ⟨w3.heap.size, 0, none⟩ (tU s) 3 rfl ((byt_of hUa).cells (Below.refl _ _).drew) ?_ hsz7 ?_
  · rw [List.length_append, HPL.out, tU_length]; omega
  intro v8 w8 o8 g8
  replace hE := hE.drew.grown g8 hsz7 (own_ge o7')
  refine hK'.out _ _ trivial ?_; clear hK' K'; try simp only [Act.put, List.setIfInBounds_toArray, List.set_cons_zero, List.set_cons_succ]
  refine wpAnyH_one 4 rfl (by kernel_rfl) (fun K' hK' => ?_)
  refine ite_go rfl ?_
  refine wp_append_bytes (.tmp 31) (.tmp 32) 36 rfl w5.heap.size 5 i0 Try.underlying36 hi hz0 hz1 hz2 v8 _ rfl o8 ⟨w3.heap.size + 1, 0, none⟩ (tZ s) 3 rfl (byt_of (hZ.below hE)) ?_ hE.size ?_
  · rw [List.length_append, List.length_append, HPL.out, tU_length, tZ_length]; omega
  intro v9 w9 o9 g9
  replace hE := hE.grown g9 hE.size (own_ge o8)
  refine hK'.out _ _ trivial ?_; clear hK' K'; try simp only [Act.put, List.setIfInBounds_toArray, List.set_cons_zero, List.set_cons_succ]
  refine wpAnyH_one 5 rfl (by kernel_rfl) (fun K' hK' => ?_)
  go_simp
  refine hK'.out _ _ trivial ?_; clear hK' K'; try simp only [Act.put, List.setIfInBounds_toArray, List.set_cons_zero, List.set_cons_succ]
  refine wpAnyH_one 6 rfl (by kernel_rfl) (fun K' hK' => ?_)
  go_simp
  refine hK'.out _ _ trivial ?_; clear hK' K'; try simp only [Act.put, List.setIfInBounds_toArray, List.set_cons_zero, List.set_cons_succ]
  refine wpAnyH_done (by kernel_rfl) ?_ _
  go_wp2
  go_ret2
  refine ⟨v9, rfl, ?_, bnext hB hE⟩
  rw [HW.out]
  exact bsl_own o9

theorem bsl_nil (w : World) : Bsl w (.slice none 0 0) [] := ⟨none, 0, rfl, Nat.le_refl _, Nat.zero_le _, fun _ => rfl, Byt.nil _ _⟩
theorem encodeErrB (l : List UInt8) (h : okb l = false) (v : Value) (w : World) (hv : Bsl w v l) (hlen : l.length ≤ 100000) :
    Calls Try.prog 17 #[v] w fun e w' => e = .returned (.tuple #[.slice none 0 0, .int .i64 0, .int .i64 3]) ∧ w' = w := by
  obtain ⟨a, cap, rfl, h1, h2, h3, h4⟩ := hv
  exact encode_err l h a cap w h4 hlen

set_option maxRecDepth 100000 in
set_option maxHeartbeats 4000000 in
theorem walk_TrellisEncodes (v0 : Value) (l0 : List UInt8) (w : World) (h0 : Bsl w v0 l0) :
    Calls Try.prog 4 #[v0] w fun e w' => e = .returned (.bool true) ∧ Below w.heap.size w w' := by
  obtain ⟨i0, hi, hz0, hz1, hz2⟩ := info_parts info5
  obtain ⟨a0, cap0, rfl, p1, p2, p3, p4⟩ := h0
  have hv0 : Bsl w (.slice a0 l0.length cap0) l0 := ⟨a0, cap0, rfl, p1, p2, p3, p4⟩
  have H3 := Lib.hid p3
  clear p2 p3
  by_cases h1000 : 1000 < l0.length
  · have hh : (1000 : Int) < (l0.length : Int) := by omega
    go_enter Try.func4, Try.ntmps4
    go_wp2_with (go_at_call 13; (with_reducible refine (works_any _).mono ?_); rintro e w9 ⟨rfl, hB⟩)
    go_ret
    exact ⟨rfl, hB⟩
  · have hh : ¬ (1000 : Int) < (l0.length : Int) := by omega
    cases hok : okb l0 with
    | true =>
      go_enter Try.func4, Try.ntmps4
      go_wp2_with (first
        | (at_builtin; refine wpList_append_bytes rfl (.tmp 18) (.tmp 19) 36 rfl w.heap.size 5 i0 Try.underlying36 hi hz0 hz1 hz2 _ [] rfl (own_empty w w.heap.size (Nat.le_refl _)) a0 l0 cap0 rfl H3.out (p4.cells ((Below.refl _ _).alloc (Nat.le_refl _) _)) ?_ ?_ ?_; (simp; omega); (simp); intro v3 w1 o3 g3; have hB : Below w.heap.size w w1 := ((Below.refl _ _).alloc (Nat.le_refl _) _).grown g3 (by simp) (own_ge (own_empty w w.heap.size (Nat.le_refl _))); rw [List.nil_append] at o3; have h3 := bsl_own o3; have h0 := hv0.below hB; clear o3 g3)
        | (go_at_call 17; (with_reducible refine (encodeB l0 hok _ _ h3 ?_).mono ?_); (omega); rintro e w2 ⟨v4, rfl, h4, hb⟩; replace h3 := h3.below hb; replace h0 := h0.below hb; replace hB := bnext hB hb; clear hb)
        | (go_at_call 18; (with_reducible refine (rencode_ok l0 hok _ _ h0 ?_).mono ?_); (omega); rintro e w3 ⟨v7, rfl, h7, hb⟩; replace h3 := h3.below hb; replace h0 := h0.below hb; replace h4 := h4.below hb; replace hB := bnext hB hb; clear hb)
        | (go_at_call 19; (with_reducible refine (word_ok l0 hok _ _ h3 ?_).mono ?_); (omega); rintro e w4 ⟨v10, rfl, h10, hb⟩; replace h3 := h3.below hb; replace h0 := h0.below hb; replace h4 := h4.below hb; replace h7 := h7.below hb; replace hB := bnext hB hb; clear hb)
        | (go_at_call 20; (with_reducible refine (rword_ok l0 hok _ _ h0 ?_).mono ?_); (omega); rintro e w5 ⟨v12, rfl, h12, hb⟩; replace h3 := h3.below hb; replace h0 := h0.below hb; replace h4 := h4.below hb; replace h7 := h7.below hb; replace h10 := h10.below hb; replace hB := bnext hB hb; clear hb)
        | (go_at_call 21; (with_reducible refine (same_any (par 0 l0) (par 0 l0) _ _ _ h4 h7).mono ?_); rintro e w' ⟨rfl, hw⟩; subst w'; rw [decide_self])
        | (go_at_call 21; (with_reducible refine (same_any (wrd l0) (wrd l0) _ _ _ h10 h12).mono ?_); rintro e w' ⟨rfl, hw⟩; subst w'; rw [decide_self])
        | (go_at_call 21; (with_reducible refine (same_any l0 l0 _ _ _ h3 h0).mono ?_); rintro e w' ⟨rfl, hw⟩; subst w'; rw [decide_self])
        | (go_at_call 15; (with_reducible refine (num_any _ _).mono ?_); rintro e w' ⟨rfl, hw⟩; subst w')
        | (go_at_call 13; (with_reducible refine (works_any _).mono ?_); rintro e w9 ⟨rfl, hb1⟩; replace hB := bnext hB hb1; clear hb1)
        | fail)
      go_ret
      exact ⟨rfl, hB⟩
    | false =>
      go_enter Try.func4, Try.ntmps4
      go_wp2_with (first
        | (at_builtin; refine wpList_append_bytes rfl (.tmp 18) (.tmp 19) 36 rfl w.heap.size 5 i0 Try.underlying36 hi hz0 hz1 hz2 _ [] rfl (own_empty w w.heap.size (Nat.le_refl _)) a0 l0 cap0 rfl H3.out (p4.cells ((Below.refl _ _).alloc (Nat.le_refl _) _)) ?_ ?_ ?_; (simp; omega); (simp); intro v3 w1 o3 g3; have hB : Below w.heap.size w w1 := ((Below.refl _ _).alloc (Nat.le_refl _) _).grown g3 (by simp) (own_ge (own_empty w w.heap.size (Nat.le_refl _))); rw [List.nil_append] at o3; have h3 := bsl_own o3; have h0 := hv0.below hB; clear o3 g3)
        | (go_at_call 17; (with_reducible refine (encodeErrB l0 hok _ _ h3 ?_).mono ?_); (omega); rintro e w' ⟨rfl, hw⟩; subst w')
        | (go_at_call 18; (with_reducible refine (rencode_err l0 hok _ _ h0 ?_).mono ?_); (omega); rintro e w3 ⟨rfl, hb⟩; replace h3 := h3.below hb; replace h0 := h0.below hb; replace hB := bnext hB hb; clear hb)
        | (go_at_call 19; (with_reducible refine (word_err l0 hok _ _ h3 ?_).mono ?_); (omega); rintro e w' ⟨rfl, hw⟩; subst w')
        | (go_at_call 20; (with_reducible refine (rword_err l0 hok _ _ h0 ?_).mono ?_); (omega); rintro e w5 ⟨rfl, hb⟩; replace h3 := h3.below hb; replace h0 := h0.below hb; replace hB := bnext hB hb; clear hb)
        | (go_at_call 21; (with_reducible refine (same_any [] [] _ _ _ (bsl_nil _) (bsl_nil _)).mono ?_); rintro e w' ⟨rfl, hw⟩; subst w'; rw [decide_self])
        | (go_at_call 21; (with_reducible refine (same_any l0 l0 _ _ _ h3 h0).mono ?_); rintro e w' ⟨rfl, hw⟩; subst w'; rw [decide_self])
        | (go_at_call 15; (with_reducible refine (num_any _ _).mono ?_); rintro e w' ⟨rfl, hw⟩; subst w')
        | (go_at_call 13; (with_reducible refine (works_any _).mono ?_); rintro e w9 ⟨rfl, hb1⟩; replace hB := bnext hB hb1; clear hb1)
        | fail)
      go_ret
      exact ⟨rfl, hB⟩
end Go.Proofs.Ytkcccoialmineaa
