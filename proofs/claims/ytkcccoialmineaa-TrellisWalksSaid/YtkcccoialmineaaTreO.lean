/-
  The trellis, walks over states: the law.
-/
import Derived.Test.YtkcccoialmineaaTreV
set_option linter.unusedSimpArgs false
set_option linter.unusedVariables false
namespace Go.Proofs.Ytkcccoialmineaa
open Go.RowKit
attribute [-go_sem] Instr.build
attribute [local go_sem] Oper.semAt_some

section
attribute [-go_sem] Oper.semAt_some
theorem run_loadVar_bool (w : World) (b : Nat) (x : Bool) (hc : w.cell? ⟨b, 0, none⟩ = some (.bool x)) : (loadVar 4 ⟨b, 0, none⟩).run Try.prog w = .ok (.bool x) w := by
  go_simp
theorem results_bool {fn : Func} {p : Tmp} (h : fn.results = #[.cell p 4]) (tmps : Array Value) (w : World) (b : Nat) (x : Bool) (hp : tmps.getD p undef = .pointer (some ⟨b, 0, none⟩)) (hc : w.cell? ⟨b, 0, none⟩ = some (.bool x)) :
    (results fn tmps).run Try.prog w = .ok (.bool x) w := by
  have hp' : tmps[p]?.getD undef = .pointer (some ⟨b, 0, none⟩) := by simpa using hp
  have e1 := run_loadVar_bool w b x hc
  simp [results, h, hp', asAddr, e1]
theorem walks_long (v : Value) (l : List UInt8) (many : Int) (w : World) (hv : Bsl w v l) (hl : 300 < l.length) :
    Calls Try.prog 9 #[v, .int .i64 many] w fun e w' => e = .returned (.bool true) ∧ Below w.heap.size w w' := by
  obtain ⟨a, cap, rfl, _, _, _, _⟩ := hv
  have hk := works_any
  obtain ⟨q, hq⟩ : ∃ q, q = l.length := ⟨_, rfl⟩
  rw [← hq] at hl ⊢
  clear hq
  have hB0 : Below w.heap.size w ((w.alloc (.cells #[.int .i64 many] 3)).alloc (.cells #[.bool false] 4)) := ((Below.refl _ _).alloc (Nat.le_refl _) _).alloc (by simp) _
  have k0 : Blk ((w.alloc (.cells #[.int .i64 many] 3)).alloc (.cells #[.bool false] 4)) (w.heap.size + 1) #[.bool false] 4 := Blk.new' (by simp)
  go_enter Try.func9, Try.ntmps9
  go_wp2_with (first
    | (go_at_call 13; (with_reducible refine (hk _).mono ?_); rintro e w9 ⟨rfl, hw9⟩; have hB9 := bnext hB0 hw9; have k9 := k0.below hw9 k0.lt; have c9 := k9.cell 0; have f9 := k9.frozen 0)
    | fail)
  refine bodyPost_ret (results_bool rfl _ _ (w.heap.size + 1) true rfl ?_) rfl ?_
  · exact (k9.set 0 _).cell 0
  · exact ⟨rfl, hB9.setCell (p := ⟨w.heap.size + 1, 0, none⟩) (Nat.le_succ _) _⟩
end
/-- A row of bytes that the law may write over. -/
structure Scr (w : World) (oA : Option Addr) (q base : Nat) : Prop where
  all : 0 < q → ∃ og Cc, oA = some ⟨og, 0, none⟩ ∧ base ≤ og ∧ Blk w og Cc 5 ∧ ∀ j, j < q → ∃ n : Int, Cc[j]? = some (.int .u8 n)
theorem own_scr {w : World} {base : Nat} {v : Value} {l : List UInt8} (h : w.ownsRow base 5 1 v l.length (l.map B)) : ∃ oA oc, v = .slice oA l.length oc ∧ (oA = none → oc = 0) ∧ Byt w oA l ∧ Scr w oA l.length base ∧ (∀ og o, oA = some ⟨og, o, none⟩ → base ≤ og ∧ og < w.heap.size) := by
  have hb := bsl_own h
  obtain ⟨_, ⟨rfl, h1⟩ | ⟨g, cap, cur, rfl, hg, hh, hl, hm, hs, ht⟩⟩ := h
  · exact ⟨none, 0, by rw [h1], fun _ => rfl, by
      obtain ⟨a, c, e, _, _, _, hy⟩ := hb
      rw [h1] at e
      simp only [Value.slice.injEq] at e
      rw [← e.1] at hy; exact hy, ⟨fun h0 => by omega⟩, fun _ _ e => nomatch e⟩
  · refine ⟨_, cap, rfl, (fun e => nomatch e), ?_, ⟨fun _ => ⟨g, cur, rfl, hg, hh, fun j hj => ?_⟩⟩, fun og o e => ?_⟩
    · obtain ⟨a, c, e, _, _, _, hy⟩ := hb
      simp only [Value.slice.injEq] at e
      rw [← e.1] at hy; exact hy
    · rw [Nat.mul_one] at ht
      refine ⟨(gd l j).toNat, ?_⟩
      rw [← Array.getElem?_toList, ← List.getElem?_take_of_lt hj, ht]
      simp [gd, hj, B]
    · simp only [Option.some.injEq, Addr.mk.injEq] at e
      have := lt_of_block hh
      omega
theorem Scr.set {w : World} {og base q : Nat} {Cc : Array Value} (hq : ∀ j, j < q → ∃ n : Int, Cc[j]? = some (.int .u8 n)) (hb : base ≤ og) (hk : Blk w og Cc 5) (i : Nat) (x : Int) : Scr (w.setCell ⟨og, i, none⟩ (.int .u8 x)) (some ⟨og, 0, none⟩) q base := ⟨fun _ =>
  ⟨og, _, rfl, hb, hk.set i _, fun j hj => by
    rw [Array.getElem?_setIfInBounds]
    obtain ⟨n, hn⟩ := hq j hj
    split
    · split
      · exact ⟨x, rfl⟩
      · rename_i h1 h2
        subst h1
        rw [Array.getElem?_eq_none (by omega)] at hn
        cases hn
    · exact ⟨n, hn⟩⟩⟩
set_option maxRecDepth 100000 in
set_option maxHeartbeats 4000000 in
theorem walks_main (v : Value) (l : List UInt8) (many : Int) (w : World) (hv : Bsl w v l) (hl : l.length ≤ 300) :
    Calls Try.prog 9 #[v, .int .i64 many] w fun e w' => e = .returned (.bool true) ∧ Below w.heap.size w w' := by
  obtain ⟨i0, hi, hz0, hz1, hz2⟩ := info_parts info5
  have hvv := hv
  obtain ⟨a, cap, rfl, h1, h2, h3, h4⟩ := hv
  have hk := works_any
  have hfn := func_nil
  obtain ⟨q, hq⟩ : ∃ q, q = l.length := ⟨_, rfl⟩
  obtain ⟨W0, hW0⟩ : ∃ W0, W0 = (w.alloc (.cells #[.int .i64 many] 3)).alloc (.cells #[.bool false] 4) := ⟨_, rfl⟩
  have hB0 : Below w.heap.size w W0 := by rw [hW0]; exact ((Below.refl _ _).alloc (Nat.le_refl _) _).alloc (by simp) _
  have k3 : Blk W0 w.heap.size #[.int .i64 many] 3 := by rw [hW0]; exact (Blk.new' rfl).alloc _
  have k4 : Blk W0 (w.heap.size + 1) #[.bool false] 4 := by rw [hW0]; exact Blk.new' (by simp)
  obtain ⟨N, hvl⟩ := vld_ex l
  have hrr := fun w v (h : Bsl w v l) => rwalk_two l v w N hvl h (by omega)
  have hru := fun w a cap (h1 : Byt w a l) (h2 : a = none → cap = 0) => walkf_any l a cap w h1 h2 (by omega)
  obtain ⟨R, hR⟩ : ∃ R, R = wkL l N := ⟨_, rfl⟩
  have HR := Lib.hid hR
  have HN : RowKit.Hid (N = R.length) := Lib.hid (by rw [hR, wkL_length])
  have HVL := Lib.hid hvl
  clear hR hvl
  rw [← hq] at hl hru ⊢
  have HQ := Lib.hid hq
  have HV : RowKit.Hid (Bsl w (.slice a q cap) l) := Lib.hid (by rw [hq]; exact hvv)
  have hs0 : W0.heap.size = w.heap.size + 1 + 1 := by rw [hW0]; simp
  have hoE : (W0.alloc (.cells #[] 5)).ownsRow (w.heap.size + 1 + 1) 5 1 (.slice (some ⟨w.heap.size + 1 + 1, 0, none⟩) 0 0) ([] : List UInt8).length (([] : List UInt8).map B) := by
    have := own_empty W0 (w.heap.size + 1 + 1) (by omega)
    rw [hs0] at this
    exact this
  have H3 := Lib.hid h3
  have hE : Below w.heap.size w (W0.alloc (.cells #[] 5)) := hB0.alloc hB0.size _
  have H4 := Lib.hid (h4.cells hE)
  have k3e := k3.alloc (.cells #[] 5)
  have k4e := k4.alloc (.cells #[] 5)
  clear hq hvv h1 h2 h3 h4
  refine (callsIn_wide (n := 3)).1 ?_
  refine callsIn_of_wp_marks Try.func9 rfl trivial ?_ rfl
  generalize hQ : bodyPostM Fence.wide 3 Try.prog _ _ = Q
  replace hQ := Lib.hid hQ
  simp only [Try.ntmps9, List.size_toArray, List.length_cons, List.length_nil, Nat.reduceAdd, Nat.reduceSub, Array.replicate_succ, Array.replicate_zero, List.push_toArray, List.append_toArray, List.nil_append, List.cons_append]
  refine (wpIn_wide).2 ?_
  go_wp2_with (first
    | (at_builtin; go_loud (rw [← hW0]; refine wpList_append_bytes rfl (.tmp 19) (.tmp 20) 36 rfl (w.heap.size + 1 + 1) 5 i0 Try.underlying36 hi hz0 hz1 hz2 _ [] rfl hoE a l cap (by rw [← HQ.out]; rfl) H3.out H4.out ?_ ?_ ?_; (have := HQ.out; simp; omega); (rw [World.size_alloc, hs0]; omega); intro v' w1 hown hg; rw [List.nil_append] at hown; have hB1 := hE.grown hg hE.size (fun k hk => Nat.le_trans (Nat.le_add_right _ 2) (own_ge hoE k hk)); have k31 := k3e.grown hg (fun e => by have : w.heap.size = w.heap.size + 1 + 1 := Option.some.inj e; omega); have k41 := k4e.grown hg (fun e => Nat.succ_ne_self _ (Option.some.inj e).symm); obtain ⟨oa, oc, rfl, hoy, hon, hog⟩ := own_parts hown; rw [← HQ.out]; have HO := Lib.hid hown; have HOY := Lib.hid hoy; have HON := Lib.hid hon; have HOG := Lib.hid hog; have HB1 := Lib.hid hB1; clear hown hoy hon hog hB1 hg))
    | (go_at_call 27; go_loud ((with_reducible refine (hrr _ _ (HV.out.below HB1.out)).mono ?_); rintro e w2 ⟨r1, r2, ok, rfl, ht, hB2⟩; obtain ⟨nA, nc, rfl, hnA⟩ := row_form ht.ns; obtain ⟨cA, cc, rfl, hcA⟩ := row_form ht.cs; have HNA := Lib.hid hnA; have HCA := Lib.hid hcA; have HOY2 := Lib.hid (HOY.out.cells hB2); clear hnA hcA; have HT := Lib.hid ht; have HB2 := Lib.hid hB2; clear ht hB2))
    | (go_at_call 28; go_loud (have hB3 : Below w2.heap.size w2 ((w2.alloc (.cells #[.slice nA N nc] 56)).alloc (.cells #[.slice cA N cc] 36)) := ((Below.refl _ _).alloc (Nat.le_refl _) _).alloc (by simp) _; (with_reducible refine (hru _ _ _ (HOY2.out.cells hB3) HON.out).mono ?_); rintro e w4 ⟨k1, ca, ccap, rfl, hk1, hcy, hcg, hk1g, hB4⟩; have HB3 := Lib.hid hB3; have HK1 := Lib.hid hk1; have HCY := Lib.hid hcy; have HCG := Lib.hid hcg; have HB4 := Lib.hid hB4; clear hB3 hk1 hcy hcg hB4))
    | fail)
  have hsc1 : Scr w1 oa q (w.heap.size + 1 + 1) := by
    obtain ⟨oA, oc', e, _, _, hs, _⟩ := own_scr HO.out
    simp only [Value.slice.injEq] at e
    rw [e.1, HQ.out]; exact hs
  have hBa : Below w1.heap.size w1 w4 := bnext (bnext HB2.out HB3.out) HB4.out
  have hsc : Scr w4 oa q (w.heap.size + 1 + 1) := ⟨fun h0 => by
    obtain ⟨og, Cc, e, p1, p2, p3⟩ := hsc1.all h0
    exact ⟨og, Cc, e, p1, p2.below hBa p2.lt, p3⟩⟩
  have hB4' : Below w.heap.size w w4 := bnext HB1.out hBa
  have HK4 : Keeps w4.heap.size (notRow oa) w4 w4 := Keeps.refl _ _ _
  clear hsc1
  go_loopw [10] (fun t wr => ∃ k : Nat, k ≤ q ∧ t = .int .i64 k ∧ Scr wr oa q (w.heap.size + 1 + 1) ∧ Below w.heap.size w wr ∧ Keeps w4.heap.size (notRow oa) w4 wr) (fun t _ => q - (intOf t).toNat)
  case atStart => exact ⟨0, by omega, rfl, hsc, hB4', HK4⟩
  case round =>
    clear HK4 hB4'
    obtain ⟨k, hkT, rfl, hS, hB, hK⟩ := hrel
    by_cases hlt : k < q
    · obtain ⟨og0, C0, e0, _, hc0, _⟩ := hsc.all (by omega)
      have hlt0 := hc0.lt
      obtain ⟨og, Cc, rfl, hob, hcc, hcn⟩ := hS.all (by omega)
      obtain rfl : og = og0 := by simpa using e0
      obtain ⟨nn, hn2⟩ := hcn k hlt
      have c0 := (hcc.cell k).trans hn2
      have f0 := hcc.frozen k
      have HN2 := Lib.hid (fun x => Scr.set (base := w.heap.size + 1 + 1) hcn hob hcc k x)
      clear hcn hn2 hS hcc hc0 hsc
      go_wp2
      exact ⟨⟨k + 1, by omega, by go_num, HN2.out _, hB.setCell (p := ⟨og, k, none⟩) (show w.heap.size ≤ og by omega) _, hK.setCell k _ hlt0 (fun h => h 0 rfl)⟩, by simp [intOf]; omega⟩
    · obtain rfl : q = k := by omega
      clear hS
      have hog : ∀ b o, oa = some ⟨b, o, none⟩ → w.heap.size + 1 + 1 ≤ b ∧ b < w1.heap.size := HOG.out
      have hw21 := HB2.out.size
      have hw32 := HB3.out.size
      have hw43 := HB4.out.size
      have hs3 : ((w2.alloc (.cells #[.slice nA N nc] 56)).alloc (.cells #[.slice cA N cc] 36)).heap.size = w2.heap.size + 2 := by simp
      have hT4 := HT.out
      have hF4 : LawF w4 w.heap.size w2.heap.size many R nA cA N nc cc := by
        have hb34 : Below w2.heap.size w2 w4 := bnext HB3.out HB4.out
        have q6 : Blk ((w2.alloc (.cells #[.slice nA N nc] 56)).alloc (.cells #[.slice cA N cc] 36)) w2.heap.size #[.slice nA N nc] 56 := (Blk.new' rfl).alloc _
        have q7 : Blk ((w2.alloc (.cells #[.slice nA N nc] 56)).alloc (.cells #[.slice cA N cc] 36)) (w2.heap.size + 1) #[.slice cA N cc] 36 := Blk.new' (by simp)
        refine ⟨k31.below hBa k31.lt, k41.below hBa k41.lt, q6.below HB4.out q6.lt, q7.below HB4.out q7.lt, fun i x hx => ?_⟩
        · obtain ⟨g, g', e, e', p1, p2, p1', p2', c, c'⟩ := two_get hT4 HVL.out.1 (by rw [← HR.out]; exact hx)
          have hsz := hb34.size
          exact ⟨g, g', e, e', by omega, by omega, (hb34.cell (p := ⟨g, i, none⟩) p2).trans c, (hb34.cell (p := ⟨g', i, none⟩) p2').trans c'⟩
      have hnr : ∀ k, (k < w.heap.size + 1 + 1 ∨ w1.heap.size ≤ k) → notRow oa k := fun k hk o e => by
        have := hog k o e; omega
      have hF5 : LawF wr w.heap.size w2.heap.size many R nA cA N nc cc := by
        refine hF4.keeps hK (hnr _ (by omega)) (hnr _ (by omega)) (hnr _ (by omega)) (hnr _ (by omega)) (fun g hg => hnr _ (.inr ?_))
        rcases hg with rfl | rfl
        · exact (hT4.ns.lt g rfl).1
        · exact (hT4.cs.lt g rfl).1
      have hk15 : Blk wr k1 #[.slice ca l.length ccap] 36 := by
        rw [← HQ.out]
        exact HK1.out.keeps hK (.inr (hnr _ (by omega)))
      have hcy5 : Byt wr ca l := byt_keeps HCY.out hK (fun b o e => .inr (hnr _ (by have := HCG.out b o e; omega)))
      have hseq := walk_seq 2 l N HVL.out ca ccap k1 wr (by have := HQ.out; omega) hk15 hcy5 (fun b o e => by have := HCG.out b o e; have := hK.size; omega)
      have hkx : ∀ k, rowK k1 ca k → k < wr.heap.size := by
        have := hk15.lt
        rintro k (rfl | ⟨o, e⟩)
        · exact this
        · have := HCG.out k o e; have := hK.size; omega
      have hNx : ∀ (pre : List (Nat × Nat)) (x : Nat × Nat), (pre.length < N ∧ pre = wkL l pre.length ∧ x = wkAt l pre.length) → R[pre.length]? = some x ∧ pre.length < N ∧ x.2 < 2 := fun pre x h => by
        rw [HR.out]; exact ⟨by rw [h.2.2]; exact wkL_get l N _ h.1, h.1, by rw [h.2.2]; exact pr_lt _ _⟩
      rw [← HR.out] at hseq
      have hF := Lib.hid hF5
      have HX := Lib.hid hNx
      have hN5 : N ≤ 300 := by
        have := HVL.out.1
        rw [← HQ.out] at this
        omega
      clear hF5 hF4 hT4 hNx hk15 hcy5 hnr hog hw21 hw32 hw43 hs3 hBa hK hsc k31 k41 HK1 HCY HCG HB1 HB2 HB3 HB4 HOY HOY2 HON HOG HT HO HV H3 H4 hE k3 k4 k3e k4e hrr hru hoE hB0 hs0 hW0 hfn HNA HCA
      go_wp2
      refine wp_loop_rounds 3 ?_
      rw [rounds_succ]
      go_wp2
      obtain ⟨W5, hW5⟩ : ∃ W5, W5 = (wr.alloc (Obj.cells #[Value.int IntKind.i64 0] 3)).alloc (Obj.cells #[Value.int IntKind.i64 0] 3) := ⟨_, rfl⟩
      rw [← hW5]
      have hb5 : Below wr.heap.size wr W5 := by rw [hW5]; exact ((Below.refl _ _).alloc (Nat.le_refl _) _).alloc (by simp) _
      have e10 : Blk W5 wr.heap.size #[.int .i64 0] 3 := by rw [hW5]; exact (Blk.new' rfl).alloc _
      have e11 : Blk W5 (wr.heap.size + 1) #[.int .i64 0] 3 := by rw [hW5]; exact Blk.new' (by simp)
      have hs5 : W5.heap.size = wr.heap.size + 2 := by rw [hW5]; simp
      clear hW5
      have hwr := hB.size
      refine wp_rangeFunc_cut (P := Try.prog) (p := 46) (p' := 47) (q := 13) (q' := 14) (e := fun x : Nat × Nat => .int .i64 x.1) (e' := fun x : Nat × Nat => .int .i64 x.2) (K := rowK k1 ca)
        (R := fun pre x => pre.length < N ∧ pre = wkL l pre.length ∧ x = wkAt l pre.length) (S := fun xs => xs = R) (w0 := wr) (lb := #[.pointer (some ⟨k1, 0, none⟩)]) (gf := 42) rfl cf42 hseq hb5 (fun k hk => by have := hkx k hk; omega)
        (InT wr wr.heap.size (wr.heap.size + 1) 0 N (fun k => k = 0 ∨ (k : Int) < many)) (EndT wr wr.heap.size (wr.heap.size + 1) 0 (firstK N many))
        (fun s A A' h k => h.same k (by omega) (by omega) (by omega)) (fun A A' h k => h.same k (by omega) (by omega) (by omega)) ?ends0 ⟨hb5, e10, e11, Nat.zero_le _, .inl rfl⟩ ?assign0 ?body0 ?fin0
      case ends0 =>
        rintro xs A rfl h
        refine ⟨h.blw, h.t10, ?_⟩
        rw [firstK_done (by have := h.go; rw [HN.out]; exact this), HN.out]
        exact h.t11
      case assign0 =>
        intro l' x A C hC
        simp only [setTwo, List.setIfInBounds_toArray, List.set_cons_zero, List.set_cons_succ] at hC ⊢
        gi_wp2
        exact hC
      case body0 =>
        rintro r pre x A hsz hI hR
        obtain ⟨hx, hlt, hx2⟩ := HX.out pre x hR
        have hF6 := hF.out.below hI.blw (Nat.le_refl _)
        obtain ⟨g, g', rfl, rfl, l1, l2, cn, cc'⟩ := hF6.rows _ _ hx
        have c3 := hF6.c3.cell 0
        have c6 := hF6.c6.cell 0
        have c7 := hF6.c7.cell 0
        have c10 := hI.t10.cell 0
        have c11 := hI.t11.cell 0
        have f11 := hI.t11.frozen 0
        simp only [List.getElem?_toArray, List.getElem?_cons_zero] at c3 c6 c7 c10 c11
        have hlen2 : (pre ++ [x]).length = pre.length + 1 := by simp
        have hIt := Lib.hid hI
        clear hI hx hF6 hR hseq
        generalize hpl : pre.length = k at *
        simp only [setTwo, List.setIfInBounds_toArray, List.set_cons_zero, List.set_cons_succ]
        have hend : Keeps W5.heap.size (rowK k1 ca) A (A.setCell ⟨wr.heap.size + 1, 0, none⟩ (.int .i64 ((k : Int) + 1))) := (Keeps.refl _ _ _).setCell 0 _ (by omega) (fun h => by have := hkx _ h; omega)
        have hci : (k : Int) < N := by omega
        have hw2 : IntKind.i64.wrap (x.2 : Int) = (x.2 : Int) := IntWalk.i64_in _ (by omega)
        have hw1 : IntKind.i64.wrap ((k : Int) + 1) = (k : Int) + 1 := IntWalk.i64_in _ (by omega)
        have hbl : Below wr.heap.size wr (A.setCell ⟨wr.heap.size + 1, 0, none⟩ (.int .i64 ((k : Int) + 1))) := hIt.out.blw.setCell (p := ⟨wr.heap.size + 1, 0, none⟩) (Nat.le_succ _) _
        have h10 : Blk (A.setCell ⟨wr.heap.size + 1, 0, none⟩ (.int .i64 ((k : Int) + 1))) wr.heap.size #[.int .i64 0] 3 := hIt.out.t10.set_other (by simp) _
        have h11 : Blk (A.setCell ⟨wr.heap.size + 1, 0, none⟩ (.int .i64 ((k : Int) + 1))) (wr.heap.size + 1) #[.int .i64 ((k : Int) + 1)] 3 := hIt.out.t11.set 0 _
        have hgo := hIt.out.go
        rw [hpl] at hgo
        have HG := Lib.hid hgo
        replace hpl := Lib.hid hpl
        replace hlen2 := Lib.hid hlen2
        clear hIt hgo
        by_cases hm : many ≤ (k : Int) + 1
        · have HE : EndT wr wr.heap.size (wr.heap.size + 1) 0 (firstK N many) (A.setCell ⟨wr.heap.size + 1, 0, none⟩ (.int .i64 ((k : Int) + 1))) := by
            refine ⟨hbl, h10, ?_⟩
            rw [firstK_stop (k := k + 1) (by omega) (by have := HG.out; omega) (by omega)]
            exact h11
          replace HE := Lib.hid HE
          clear hbl h10 h11
          gi_wp2
          exact ⟨by first | exact hend | (rw [hs5] at hend; exact hend), rfl, HE.out⟩
        · have HE : InT wr wr.heap.size (wr.heap.size + 1) 0 N (fun k => k = 0 ∨ (k : Int) < many) (pre ++ [x]) (A.setCell ⟨wr.heap.size + 1, 0, none⟩ (.int .i64 ((k : Int) + 1))) := by
            refine ⟨hbl, h10, ?_, ?_, ?_⟩
            · rw [hlen2.out]; exact h11
            · rw [hlen2.out]; omega
            · rw [hlen2.out]; exact .inr (by omega)
          replace HE := Lib.hid HE
          clear hbl h10 h11
          gi_wp2
          exact ⟨by first | exact hend | (rw [hs5] at hend; exact hend), HE.out⟩
      case fin0 =>
        intro D W hD hE hK
        have hF6 := hF.out.below hE.blw (Nat.le_refl _)
        have c3 := hF6.c3.cell 0
        have c6 := hF6.c6.cell 0
        have c10 := hE.t10.cell 0
        have c11 := hE.t11.cell 0
        simp only [List.getElem?_toArray, List.getElem?_cons_zero] at c3 c6 c10 c11
        obtain ⟨M, hmx⟩ : ∃ M : Int, (if 1 < many then many else 1) = M := ⟨_, rfl⟩
        have hmn : (if M < (N : Int) then M else (N : Int)) = firstK N many := by
          rw [← hmx]; unfold firstK; (repeat' split) <;> omega
        have hE' := Lib.hid hE
        have hK' := Lib.hid hK
        replace hseq := Lib.hid hseq
        clear hE hK hF6
        go_wp2
        rw [rounds_succ]
        go_wp2
        have hE := hE'.out
        have hK := hK'.out
        obtain ⟨W6, hW6⟩ : ∃ W6, W6 = (W.alloc (Obj.cells #[Value.int IntKind.i64 1] 3)).alloc (Obj.cells #[Value.int IntKind.i64 0] 3) := ⟨_, rfl⟩
        rw [← hW6]
        have hb6 : Below W.heap.size W W6 := by rw [hW6]; exact ((Below.refl _ _).alloc (Nat.le_refl _) _).alloc (by simp) _
        have e106 : Blk W6 W.heap.size #[.int .i64 1] 3 := by rw [hW6]; exact (Blk.new' rfl).alloc _
        have e116 : Blk W6 (W.heap.size + 1) #[.int .i64 0] 3 := by rw [hW6]; exact Blk.new' (by simp)
        have hs6 : W6.heap.size = W.heap.size + 2 := by rw [hW6]; simp
        clear hW6
        have hWr := hE.blw.size
        have hF7 := Lib.hid (hF.out.below hE.blw (Nat.le_refl _))
        have hDW : D < W.heap.size := (Array.getElem?_eq_some_iff.1 hK).1
        have hw0 : w.heap.size + 1 < wr.heap.size := hF.out.c4.lt
        clear hF c3 c6 c10 c11 hE' e10 e11
        refine wp_rangeFunc_cut (P := Try.prog) (p := 46) (p' := 47) (q := 13) (q' := 14) (e := fun x : Nat × Nat => .int .i64 x.1) (e' := fun x : Nat × Nat => .int .i64 x.2) (K := rowK k1 ca)
          (R := fun pre x => pre.length < N ∧ pre = wkL l pre.length ∧ x = wkAt l pre.length) (S := fun xs => xs = R) (w0 := wr) (lb := #[.pointer (some ⟨k1, 0, none⟩)]) (gf := 42) rfl cf42 hseq.out (hE.blw.trans (hb6.mono hWr)) (fun k hk => by have := hkx k hk; omega)
          (InT W W.heap.size (W.heap.size + 1) 1 N (fun _ => True)) (EndT W W.heap.size (W.heap.size + 1) 1 N)
          (fun s A A' h k => h.same k (by omega) (by omega) (by omega)) (fun A A' h k => h.same k (by omega) (by omega) (by omega)) ?ends1 ⟨hb6, e106, e116, Nat.zero_le _, trivial⟩ ?assign1 ?body1 ?fin1
        case ends1 =>
          rintro xs A rfl h
          refine ⟨h.blw, h.t10, ?_⟩
          rw [HN.out]
          exact h.t11
        case assign1 =>
          intro l' x A C hC
          simp only [setTwo, List.setIfInBounds_toArray, List.set_cons_zero, List.set_cons_succ] at hC ⊢
          gi_wp2
          exact hC
        case body1 =>
          rintro r pre x A hsz hI hR
          obtain ⟨hx, hlt, hx2⟩ := HX.out pre x hR
          have hF6 := hF7.out.below hI.blw (Nat.le_refl _)
          obtain ⟨g, g', rfl, rfl, l1, l2, cn, cc'⟩ := hF6.rows _ _ hx
          have c3 := hF6.c3.cell 0
          have c6 := hF6.c6.cell 0
          have c7 := hF6.c7.cell 0
          have c10 := hI.t10.cell 0
          have c11 := hI.t11.cell 0
          have f11 := hI.t11.frozen 0
          simp only [List.getElem?_toArray, List.getElem?_cons_zero] at c3 c6 c7 c10 c11
          have hlen2 : (pre ++ [x]).length = pre.length + 1 := by simp
          have hIt := Lib.hid hI
          clear hI hx hF6 hR hseq
          generalize hpl : pre.length = k at *
          simp only [setTwo, List.setIfInBounds_toArray, List.set_cons_zero, List.set_cons_succ]
          have hend : Keeps W6.heap.size (rowK k1 ca) A (A.setCell ⟨W.heap.size + 1, 0, none⟩ (.int .i64 ((k : Int) + 1))) := (Keeps.refl _ _ _).setCell 0 _ (by omega) (fun h => by have := hkx _ h; omega)
          have hci : (k : Int) < N := by omega
          have hw2 : IntKind.i64.wrap (x.2 : Int) = (x.2 : Int) := IntWalk.i64_in _ (by omega)
          have hw1 : IntKind.i64.wrap ((k : Int) + 1) = (k : Int) + 1 := IntWalk.i64_in _ (by omega)
          have HE : InT W W.heap.size (W.heap.size + 1) 1 N (fun _ => True) (pre ++ [x]) (A.setCell ⟨W.heap.size + 1, 0, none⟩ (.int .i64 ((k : Int) + 1))) := by
            refine ⟨hIt.out.blw.setCell (p := ⟨W.heap.size + 1, 0, none⟩) (Nat.le_succ _) _, hIt.out.t10.set_other (by simp) _, ?_, ?_, trivial⟩
            · rw [hlen2]; exact hIt.out.t11.set 0 _
            · rw [hlen2]; omega
          replace HE := Lib.hid HE
          replace hpl := Lib.hid hpl
          replace hlen2 := Lib.hid hlen2
          clear hIt hmx hmn
          gi_wp2
          exact ⟨by first | exact hend | (rw [hs6] at hend; exact hend), HE.out⟩
        case fin1 =>
          intro D2 W2 hD2 hE2 hK2
          have hF6 := hF7.out.below hE2.blw (Nat.le_refl _)
          have c6 := hF6.c6.cell 0
          have c10 := hE2.t10.cell 0
          have c11 := hE2.t11.cell 0
          simp only [List.getElem?_toArray, List.getElem?_cons_zero] at c6 c10 c11
          have hKK : W2.heap[D]? = some (.deferred (some [])) := (hE2.blw.block _ hDW).trans hK
          have hD2W : D2 < W2.heap.size := (Array.getElem?_eq_some_iff.1 hK2).1
          have hDD2 := hE2.blw.size
          have hbw : Below w.heap.size w W2 := (hB.trans (hE.blw.mono hwr)).trans (hE2.blw.mono (by omega))
          have hE2' := Lib.hid hE2
          have hK2' := Lib.hid hK2
          have hKK' := Lib.hid hKK
          have hF8 := Lib.hid hF6
          have hbw' := Lib.hid hbw
          clear hE2 hK2 hKK hF6 hmx hmn hE hK hb5 hb6 hbw
          go_wp2
          rw [rounds_succ]
          go_wp2_with (first
            | (go_at_call 13; go_loud ((with_reducible refine (hk _).mono ?_); rintro e w9 ⟨rfl, hw9⟩; have hb9 := bnext ((Below.refl W2.heap.size W2).alloc (Nat.le_refl _) _) hw9; have k49 := hF8.out.c4.below hb9 hF8.out.c4.lt; have c49 := k49.cell 0; have f49 := k49.frozen 0; simp only [List.getElem?_toArray, List.getElem?_cons_zero] at c49))
            | fail)
          rw [← hQ.out]
          have hsz9 := hb9.size
          have q2 : (w9.setCell ⟨w.heap.size + 1, 0, none⟩ (.bool true)).heap[D2]? = some (.deferred (some [])) := by
            rw [(Only.setCell (b := w.heap.size + 1) w9 0 (.bool true)).block D2 (by omega), hb9.block D2 hD2W]; exact hK2'.out
          have q1 : ((w9.setCell ⟨w.heap.size + 1, 0, none⟩ (.bool true)).putObj D2 (.deferred none)).heap[D]? = some (.deferred (some [])) := by
            rw [World.putObj_heap_other (by omega), (Only.setCell (b := w.heap.size + 1) w9 0 (.bool true)).block D (by omega), hb9.block D (by omega)]; exact hKK'.out
          refine ⟨by simp, .inl ⟨_, _, rfl, run_takeDeferred q2, by simp, .inl ⟨_, _, rfl, run_takeDeferred q1, ?_⟩⟩⟩
          have kf := (((k49.set 0 (.bool true)).below (below_put (B := w.heap.size + 2) _ D2 (.deferred none) (by omega)) (by omega))).below (below_put (B := w.heap.size + 2) _ D (.deferred none) (by omega)) (by omega)
          refine ⟨_, results_bool rfl _ _ (w.heap.size + 1) true rfl (kf.cell 0), rfl, ?_⟩
          have hx := hbw'.out.trans (hb9.mono (by have := hbw'.out.size; omega))
          exact ((hx.setCell (p := ⟨w.heap.size + 1, 0, none⟩) (Nat.le_succ _) (.bool true)).trans (below_put _ D2 _ (by omega))).trans (below_put _ D _ (by omega))
theorem walk_TrellisWalks (v : Value) (l : List UInt8) (many : Int) (_hm : (Lit.int .i64 many).wf = true) (w : World) (hv : Bsl w v l) :
    Calls Try.prog 9 #[v, .int .i64 many] w fun e w' => e = .returned (.bool true) ∧ Below w.heap.size w w' := by
  by_cases hl : l.length ≤ 300
  · exact walks_main v l many w hv hl
  · exact walks_long v l many w hv (by omega)
end Go.Proofs.Ytkcccoialmineaa
