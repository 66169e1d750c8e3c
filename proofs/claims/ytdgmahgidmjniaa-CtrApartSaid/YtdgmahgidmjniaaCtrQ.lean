/-
  Counter mode: the statement CtrApart, valid parameters.
-/
import Derived.Test.YtdgmahgidmjniaaCtrP
namespace Go.Proofs.Ytdgmahgidmjniaa
open Go.RowKit
attribute [-go_sem] Instr.build

theorem range_bsl {w : World} {g n cap : Nat} {X : List UInt8} (h : Bsl w (.slice (some ⟨g, 0, none⟩) n cap) X) (o : Nat) (E : List UInt8) (hE : (X.drop o).take E.length = E) (ho : o + E.length ≤ X.length) (h0 : 0 < X.length) : w.rangeAt g o (bytesV E).toList := by
  obtain ⟨a, c, e, h1, h2, h3, h4⟩ := h
  simp only [Value.slice.injEq] at e
  obtain ⟨rfl, hn, rfl⟩ := e
  obtain ⟨b, o', e, hb, hc⟩ := h4 h0
  simp only [Option.some.injEq, Addr.mk.injEq, and_true] at e
  obtain ⟨rfl, rfl⟩ := e
  intro j v hv
  rw [Array.getElem?_toList, bytesV_get] at hv
  have hj : j < E.length := by
    apply Decidable.byContradiction
    intro hn
    rw [List.getElem?_eq_none (by omega)] at hv
    cases hv
  have := hc (o + j) (by omega)
  rw [Nat.zero_add] at this
  rw [this]
  have hg : gd X (o + j) = gd E j := by
    rw [← hE, gd_take _ _ _ hj, gd_drop]
  rw [hg]
  rw [List.getElem?_eq_getElem hj, Option.map_some, Option.some.injEq] at hv
  rw [← hv]
  simp [gd, hj, B]
theorem bsl_from {w : World} {g n cap : Nat} {X : List UInt8} (h : Bsl w (.slice (some ⟨g, 0, none⟩) n cap) X) (o m : Nat) (hm : n = o + m) (h0 : 0 < m) : Bsl w (.slice (some ⟨g, o, none⟩) m (cap - o)) (X.drop o) := by
  obtain ⟨a, c, e, h1, h2, h3, h4⟩ := h
  simp only [Value.slice.injEq] at e
  obtain ⟨rfl, hn, rfl⟩ := e
  obtain ⟨b, o', e, hb, hc⟩ := h4 (by omega)
  simp only [Option.some.injEq, Addr.mk.injEq, and_true] at e
  obtain ⟨rfl, rfl⟩ := e
  have hl : (X.drop o).length = m := by rw [List.length_drop]; omega
  refine ⟨some ⟨g, o, none⟩, cap - o, by rw [hl], by rw [hl]; omega, by omega, (fun h => nomatch h), fun _ => ⟨g, o, rfl, hb, fun i hi => ?_⟩⟩
  have := hc (o + i) (by omega)
  rw [Nat.zero_add] at this
  rw [this, gd_drop]
theorem own_some {w : World} {base n : Nat} {v : Value} {X : List UInt8} (h : w.ownsRow base 5 1 v n (X.map B)) (hn : n = X.length) (h0 : 0 < n) : ∃ g cap, v = .slice (some ⟨g, 0, none⟩) n cap ∧ n ≤ cap ∧ Bsl w (.slice (some ⟨g, 0, none⟩) n cap) X := by
  subst hn
  have hb := bsl_own h
  obtain ⟨_, ⟨rfl, h1⟩ | ⟨g, cap, cur, rfl, _, _, hl, _⟩⟩ := h
  · omega
  · exact ⟨g, cap, rfl, hl, hb⟩
theorem wpAnyH_takeD {P : Program} {md : Region.Mode} {ops : Array Oper} {Q : Exit → Act → World → Prop} {S : World → Prop} (i : Nat) (d : Option Tmp) {oi : Oper} {v : Value} {fuel : Nat} {listed : Array Bool} {a : Act} {w : World} (hi : ops[i]? = some oi) (hd : oi.dst = d)
    (hs : Region.noSelect ops = true) (hf : Region.free md ops listed i = true) (hr : (Region.ready md ops listed).contains i = true)
    (hQ : ∀ c a w, Q (.panic c) (a.put oi.dst v) w → Q (.panic c) a w) (hy : YieldsIf P ops S oi v a) (hS : S w)
    (h : wpAnyH P md ops Q S fuel (listed.setIfInBounds i true) (a.put d v) w) : wpAnyH P md ops Q S (fuel + 1) listed a w := by
  subst hd; exact wpAnyH_take hi hs hf hr hQ hy hS h
theorem yieldsIf_calc {P : Program} {ops : Array Oper} {S : World → Prop} {op : Oper} {a : Act} {v : Value} (hw : Region.wanted op (yielded ops a.tmps) = true) (h : ∀ w, (execOp a.eval op).run P w = .ok (.value v) w) : YieldsIf P ops S op v a := .inl ⟨hw, fun w _ => h w⟩
set_option maxRecDepth 100000 in
set_option maxHeartbeats 8000000 in
theorem apart_ok (key key' : List UInt8) (hk : key.length = 16) (hk' : key'.length = 16) (c b d c' b' d' : Nat) (hc : c < 2 ^ 32) (hb : b ≤ 31) (hd : d ≤ 1) (hc' : c' < 2 ^ 32) (hb' : b' ≤ 31) (hd' : d' ≤ 1) (i j : Nat) (hi : i ≤ 9) (hj : j ≤ 9) (w : World) :
    Calls Try.prog 17 #[.agg (parV key c b d), .agg (parV key' c' b' d'), .int .u64 i, .int .u64 j] w fun e w' => e = .returned (.bool true) ∧ Below w.heap.size w w' := by
  -- the counter blocks
  have hbl := fun w => block_ok c b d i hc hb hd w
  have hbl' := fun w => block_ok c' b' d' j hc' hb' hd' w
  have hinj := cblk_inj c b d i c' b' d' j hc hb hd (by omega) hc' hb' hd' (by omega)
  obtain ⟨p, hp⟩ : ∃ p, p = 16 * i := ⟨_, rfl⟩
  obtain ⟨q, hq⟩ : ∃ q, q = 16 * j := ⟨_, rfl⟩
  have hks := fun w => keystream_ok key hk c b d hc hb hd (p + 16) (by omega) w
  have hks' := fun w => keystream_ok key hk c' b' d' hc' hb' hd' (q + 16) (by omega) w
  have hdr : (ksU key c b d (p + 16)).drop p = encR (ksL key 160) (cblk c b d i) 10 := by rw [hp, ksU_drop]
  have hdr' : (ksU key c' b' d' (q + 16)).drop q = encR (ksL key 160) (cblk c' b' d' j) 10 := by rw [hq, ksU_drop]
  have heq := encR_inj (ksL key 160) (cblk c b d i) (cblk c' b' d' j) (cblk_length _ _ _ _) (cblk_length _ _ _ _)
  obtain ⟨K, hK⟩ : ∃ K, K = ksL key 160 := ⟨_, rfl⟩
  have hKl := Lib.hid (show K.length = 176 by rw [hK, ksL_length key hk])
  have hnew := fun w => new_any key hk w
  rw [← hK] at hdr hdr' heq hnew
  obtain ⟨T, hT⟩ : ∃ T, T = cblk c b d i := ⟨_, rfl⟩
  obtain ⟨T', hT'⟩ : ∃ T', T' = cblk c' b' d' j := ⟨_, rfl⟩
  have hTl : T.length = 16 := by rw [hT, cblk_length]
  have hTl' : T'.length = 16 := by rw [hT', cblk_length]
  rw [← hT] at hbl hinj hdr heq
  rw [← hT'] at hbl' hinj hdr' heq
  obtain ⟨E, hE⟩ : ∃ E, E = encR K T 10 := ⟨_, rfl⟩
  obtain ⟨E', hE'⟩ : ∃ E', E' = encR K T' 10 := ⟨_, rfl⟩
  have hEl : E.length = 16 := by rw [hE, encR_length]
  have hEl' : E'.length = 16 := by rw [hE', encR_length]
  have henc : ∀ (w : World) (g : Nat), Blk w g (bytesV (cip K)) 59 → Calls Try.prog 40 #[.pointer (some ⟨g, 0, none⟩), .agg (bytesV T)] w fun e w' => e = .returned (.agg (bytesV E)) ∧ Below w.heap.size w w' := fun w g h => by
    rw [hE]; exact encrypt_any K hKl.out T hTl _ w (.inl ⟨g, rfl, h⟩)
  rw [← hE] at hdr heq
  rw [← hE'] at hdr' heq
  obtain ⟨X, hX⟩ : ∃ X, X = ksU key c b d (p + 16) := ⟨_, rfl⟩
  obtain ⟨X', hX'⟩ : ∃ X', X' = ksU key c' b' d' (q + 16) := ⟨_, rfl⟩
  have hXl : X.length = p + 16 := by rw [hX, ksU_length]
  have hXl' : X'.length = q + 16 := by rw [hX', ksU_length]
  rw [← hX] at hks hdr
  rw [← hX'] at hks' hdr'
  have hsame : decide (T = T') = decide (c = c' ∧ b = b' ∧ d = d' ∧ i = j) := by simp only [hinj]
  have hsame2 : decide (E = E') = decide (c = c' ∧ b = b' ∧ d = d' ∧ i = j) := by simp only [heq, hinj]
  obtain ⟨S, hS⟩ : ∃ S : Bool, S = decide (c = c' ∧ b = b' ∧ d = d' ∧ i = j) := ⟨_, rfl⟩
  rw [← hS] at hsame hsame2
  have e1 : ∀ w, (binOp .eql 22 (.agg (bytesV T)) (.agg (bytesV T'))).run Try.prog w = .ok (.bool S) w := fun w => by
    rw [run_eql22 _ _ hTl hTl', hsame]
  have e2 : ∀ w, (binOp .eql 22 (.agg (bytesV E)) (.agg (bytesV E))).run Try.prog w = .ok (.bool true) w := fun w => by
    rw [run_eql22 _ _ hEl hEl, decide_self]
  clear hX hX' hE hE' hT hT' heq hinj hsame hb hb' hd hd' hc hc'
  have hS2 := Lib.hid hsame2
  clear hsame2
  have HS := Lib.hid hS
  clear hS
  have hpi := Lib.hid (show (16 : Int) * i = p by omega)
  have hqi := Lib.hid (show (16 : Int) * j = q by omega)
  have hpc : ((p + 16 : Nat) : Int) = (p : Int) + 16 := by omega
  have hqc : ((q + 16 : Nat) : Int) = (q : Int) + 16 := by omega
  simp only [hpc] at hks
  simp only [hqc] at hks'
  clear hpc hqc
  have hp144 : p ≤ 144 := by omega
  have hq144 : q ≤ 144 := by omega
  replace hp := Lib.hid hp
  replace hq := Lib.hid hq
  obtain ⟨C, hC⟩ : ∃ C, C = parV key c b d := ⟨_, rfl⟩
  obtain ⟨D, hD⟩ : ∃ D, D = parV key' c' b' d' := ⟨_, rfl⟩
  have a0 : PBox ((w.alloc (.cells C 26)).alloc (.cells D 26)) w.heap.size key c b d := ⟨by rw [hC]; exact (Blk.new' rfl).alloc _, hk⟩
  have a1 : PBox ((w.alloc (.cells C 26)).alloc (.cells D 26)) (w.heap.size + 1) key' c' b' d' := ⟨by rw [hD]; exact Blk.new' (by simp), hk'⟩
  have hB : Below w.heap.size w ((w.alloc (.cells C 26)).alloc (.cells D 26)) := ((Below.refl _ _).alloc (Nat.le_refl _) _).alloc (by simp) _
  have hkC := Lib.hid (fun w' (h : PBox w' w.heap.size key c b d) => h.blk)
  have hkx := Lib.hid (parV_key key hk c b d)
  have hksz := Lib.hid (parV_size key hk c b d)
  rw [← hC] at hkx hksz hkC ⊢
  rw [← hD]
  clear hC hD hK
  have z1 : ∀ w, (zeroValue 22).run Try.prog w = .ok (.agg (bytesV Z16)) w := (zero_of_info zero22).1
  obtain ⟨q0, q1, q2⟩ := a0.cells
  obtain ⟨p0, p1, p2⟩ := a1.cells
  have hi' : (i : Int) ≤ 9 := by omega
  have hj' : (j : Int) ≤ 9 := by omega
  replace hTl := Lib.hid hTl
  replace hTl' := Lib.hid hTl'
  go_enter Try.func17, Try.ntmps17
  go_upto_region 7 with (first
    | (go_at_call 27; (with_reducible refine (hbl _).mono ?_); rintro e w1 ⟨rfl, hb1⟩; replace a0 := a0.below hb1; replace a1 := a1.below hb1; replace hB := bnext hB hb1; clear q0 q1 q2 p0 p1 p2 hb1)
    | ((with_reducible refine wpList_store_blk rfl 22 (.tmp 9) (.tmp 35) rfl w1.heap.size 0 16 (bytesV T) rfl rfl (C := bytesV Z16) (t := 22) ?_ row22 ?_ ?_ (bytesV_one _) ?_); (exact Blk.new' rfl); (rw [bytesV_size, hTl.out]); (rw [bytesV_size]; decide); intro w2 g1 ho2; rw [splice_all _ _ (by rw [hTl.out]; rfl)] at g1; have hb2 := below_only ((Below.refl w1.heap.size w1).alloc (Nat.le_refl _) (.cells (bytesV Z16) 22)) ho2 (Nat.le_refl _); replace hB := bnext hB hb2; replace a0 := a0.below hb2; replace a1 := a1.below hb2; clear hb2 ho2; obtain ⟨q0, q1, q2⟩ := a0.cells; obtain ⟨p0, p1, p2⟩ := a1.cells)
    | (go_at_call 27; (with_reducible refine (hbl' _).mono ?_); rintro e w3 ⟨rfl, hb3⟩; replace a0 := a0.below hb3; replace a1 := a1.below hb3; replace hB := bnext hB hb3; replace g1 := g1.below hb3 g1.lt; clear hb3 q0 q1 q2 p0 p1 p2)
    | ((with_reducible refine wpList_store_blk rfl 22 (.tmp 11) (.tmp 46) rfl w3.heap.size 0 16 (bytesV T') rfl rfl (C := bytesV Z16) (t := 22) ?_ row22 ?_ ?_ (bytesV_one _) ?_); (exact Blk.new' rfl); (rw [bytesV_size, hTl'.out]); (rw [bytesV_size]; decide); intro w4 g2 ho2; rw [splice_all _ _ (by rw [hTl'.out]; rfl)] at g2; have hb2 := below_only ((Below.refl w3.heap.size w3).alloc (Nat.le_refl _) (.cells (bytesV Z16) 22)) ho2 (Nat.le_refl _); replace hB := bnext hB hb2; replace a0 := a0.below hb2; replace a1 := a1.below hb2; replace g1 := g1.below hb2 g1.lt; clear hb2 ho2; obtain ⟨q0, q1, q2⟩ := a0.cells; obtain ⟨p0, p1, p2⟩ := a1.cells)
    | fail)
  go_cut [13] (fun s13 wx => s13 = .bool S ∧ wx = w4)
  case first =>
    go_wp2_with fail
    all_goals (go_meet; refine ⟨congrArg Value.bool ?_, rfl⟩; rw [HS.out, Bool.eq_iff_iff]; simp only [beq_iff_eq, decide_eq_true_eq, Bool.false_eq_true, false_iff]; omega)
  case rest =>
    obtain ⟨rfl, rfl⟩ := hcut
    have hpi1 := hpi.out
    have hqi1 := hqi.out
    have hpI : (p : Int) ≤ 144 := by omega
    have hqI : (q : Int) ≤ 144 := by omega
    replace hXl := Lib.hid hXl
    replace hXl' := Lib.hid hXl'
    replace hdr := Lib.hid hdr
    replace hdr' := Lib.hid hdr'
    replace hEl := Lib.hid hEl
    replace hEl' := Lib.hid hEl'
    go_wp2_with (first
      | ((with_reducible refine wpList_load_blk rfl 22 (.tmp 80) rfl w.heap.size 0 16 rfl (hkC.out _ a0) row22 ?_ (bytesV key) hkx.out ?_); (rw [hksz.out]; decide))
      | (go_at_call 48; (with_reducible refine (hks _).mono ?_); rintro e w5 ⟨x, rfl, ho5, hb5⟩; obtain ⟨gx, cx, rfl, hcx, hx⟩ := own_some ho5 (by rw [hXl.out]) (by omega); replace a0 := a0.below hb5; replace a1 := a1.below hb5; replace hB := bnext hB hb5; replace g1 := g1.below hb5 g1.lt; replace g2 := g2.below hb5 g2.lt; clear q0 q1 q2 p0 p1 p2 ho5 hb5; obtain ⟨q0, q1, q2⟩ := a0.cells; obtain ⟨p0, p1, p2⟩ := a1.cells)
      | ((with_reducible refine wpList_load_blk rfl 22 (.tmp 96) rfl w.heap.size 0 16 rfl (hkC.out _ a0) row22 ?_ (bytesV key) hkx.out ?_); (rw [hksz.out]; decide))
      | (go_at_call 48; (with_reducible refine (hks' _).mono ?_); rintro e w6 ⟨y, rfl, ho6, hb6⟩; obtain ⟨gy, cy, rfl, hcy, hy⟩ := own_some ho6 (by rw [hXl'.out]) (by omega); replace hx := hx.below hb6; replace a0 := a0.below hb6; replace a1 := a1.below hb6; replace hB := bnext hB hb6; replace g1 := g1.below hb6 g1.lt; replace g2 := g2.below hb6 g2.lt; clear q0 q1 q2 p0 p1 p2 ho6 hb6)
      | ((with_reducible refine wpList_load_blk rfl 22 (.tmp 135) rfl w.heap.size 0 16 rfl (hkC.out _ a0) row22 ?_ (bytesV key) hkx.out ?_); (rw [hksz.out]; decide))
      | (go_at_call 39; refine (hnew _).mono ?_; rintro e w7 ⟨bC, rfl, hC, hb7⟩; replace hx := hx.below hb7; replace hy := hy.below hb7; replace hB := bnext hB hb7; replace g1 := g1.below hb7 g1.lt; replace g2 := g2.below hb7 g2.lt; clear hb7 a0 a1)
      | fail)
    -- region 13
    -- region 13
    -- region 13
    -- region 13
    -- region 13
    -- region 13
    have hg := guard22'
    have hr : ∀ (w' : World) (g : Nat) (L : List UInt8), L.length = 16 → Blk w' g (bytesV L) 22 → w'.rangeAt g 0 (bytesV L).toList := fun w' g L hL h => by
      have := h.range 0 16
      rwa [bytesV_whole L 16 hL] at this
    have hrx : ∀ w', Bsl w' (.slice (some ⟨gx, 0, none⟩) (p + 16) cx) X → w'.rangeAt gx p (bytesV E).toList := fun w' h =>
      range_bsl h p E (by rw [hdr.out, hEl.out, ← hEl.out]; exact List.take_length) (by rw [hEl.out, hXl.out]; exact Nat.le_refl _) (by rw [hXl.out]; omega)
    have hsx : ∀ w', Bsl w' (.slice (some ⟨gx, 0, none⟩) (p + 16) cx) X → Bsl w' (.slice (some ⟨gx, p, none⟩) 16 (cx - p)) E := fun w' h => by rw [← hdr.out]; exact bsl_from h p 16 rfl (by omega)
    have hsy : ∀ w', Bsl w' (.slice (some ⟨gy, 0, none⟩) (q + 16) cy) X' → Bsl w' (.slice (some ⟨gy, q, none⟩) 16 (cy - q)) E' := fun w' h => by rw [← hdr'.out]; exact bsl_from h q 16 rfl (by omega)
    obtain ⟨Sw, hSw⟩ : ∃ Sw : World → Prop, Sw = fun w' => Blk w' w1.heap.size (bytesV T) 22 ∧ Blk w' w3.heap.size (bytesV T') 22 ∧ Bsl w' (.slice (some ⟨gx, 0, none⟩) (p + 16) cx) X ∧ Bsl w' (.slice (some ⟨gy, 0, none⟩) (q + 16) cy) X' ∧ Blk w' bC (bytesV (cip K)) 59 ∧ Below w.heap.size w w' := ⟨_, rfl⟩
    have s0 : Sw w7.drew := by rw [hSw]; exact ⟨g1.drew, g2.drew, hx.below (Below.refl _ w7).drew, hy.below (Below.refl _ w7).drew, hC.drew, hB.drew⟩
    have a1 : ∀ w', Sw w' → w'.rangeAt w1.heap.size 0 (bytesV T).toList := fun w' h => by rw [hSw] at h; exact hr _ _ _ hTl.out h.1
    have a2 : ∀ w', Sw w' → w'.rangeAt w3.heap.size 0 (bytesV T').toList := fun w' h => by rw [hSw] at h; exact hr _ _ _ hTl'.out h.2.1
    have a3 : ∀ w', Sw w' → w'.rangeAt gx p (bytesV E).toList := fun w' h => by rw [hSw] at h; exact hrx _ h.2.2.1
    have a4 : ∀ w', Sw w' → Blk w' bC (bytesV (cip K)) 59 := fun w' h => by rw [hSw] at h; exact h.2.2.2.2.1
    have a5 : ∀ w', Sw w' → Bsl w' (.slice (some ⟨gx, p, none⟩) 16 (cx - p)) E := fun w' h => by rw [hSw] at h; exact hsx _ h.2.2.1
    have a6 : ∀ w', Sw w' → Bsl w' (.slice (some ⟨gy, q, none⟩) 16 (cy - q)) E' := fun w' h => by rw [hSw] at h; exact hsy _ h.2.2.2.1
    have a8 : ∀ w', Sw w' → Below w.heap.size w w' := fun w' h => by rw [hSw] at h; exact h.2.2.2.2.2
    have a7 : ∀ w' w'', Sw w' → Below w'.heap.size w' w'' → Sw w'' := fun w' w'' h k => by
      rw [hSw] at h ⊢
      exact ⟨h.1.below k h.1.lt, h.2.1.below k h.2.1.lt, h.2.2.1.below k, h.2.2.2.1.below k, h.2.2.2.2.1.below k h.2.2.2.2.1.lt, bnext h.2.2.2.2.2 k⟩
    have r1 : (Try.prog.info? 22).map (·.size) = some (bytesV T).toList.length := by rw [Array.length_toList, bytesV_size, hTl.out]; exact row22.2
    have r2 : (Try.prog.info? 22).map (·.size) = some (bytesV T').toList.length := by rw [Array.length_toList, bytesV_size, hTl'.out]; exact row22.2
    have r3 : (Try.prog.info? 22).map (·.size) = some (bytesV E).toList.length := by rw [Array.length_toList, bytesV_size, hEl.out]; exact row22.2
    have hw1 : IntKind.u64.wrap (p : Int) = p := IntWalk.u64_in _ (by omega)
    have hw2 : IntKind.u64.wrap (q : Int) = q := IntWalk.u64_in _ (by omega)
    have k1 : (0 : Int) ≤ p := by omega
    have k2 : (0 : Int) ≤ q := by omega
    have k3 : (p : Int) ≤ (p : Int) + 16 := by omega
    have k4 : (q : Int) ≤ (q : Int) + 16 := by omega
    have k5 : (p : Int) + 16 ≤ cx := by omega
    have k6 : (q : Int) + 16 ≤ cy := by omega
    have k7 : (p : Int) < cx := by omega
    have k8 : (q : Int) < cy := by omega
    have m1 : p < cx := by omega
    have m2 : q < cy := by omega
    have m3 : ¬ cx = p := by omega
    have m4 : ¬ cy = q := by omega
    have u22 := Try.underlying22
    have hat : ∀ w, (Instr.arrayAt 22 (.slice (some ⟨gx, p, none⟩) 16 (cx - p))).run Try.prog w = .ok (.pointer (some ⟨gx, p, none⟩)) w := fun w => run_arrayAt w 22 5 16 _ _ _ Try.underlying22 (Nat.le_refl _)
    clear hr hrx hsx hsy hks hks' hbl hbl' hnew z1 hSw hx hy hC hB g1 g2
    refine wp_region_held_drew (S := Sw) (by kernel_rfl) s0 (fun hHeld => ?_)
    clear hHeld
    refine wpAnyH_takeD 0 (some 138) rfl rfl (by kernel_rfl) (by kernel_rfl) (by kernel_rfl) (fun _ _ _ h => h) (yieldsIf_load_mid rfl 22 _ rfl w1.heap.size 0 rfl (bytesV T).toList _ a1 Try.underlying22 rfl r1) (by assumption) ?_
    try simp only [Act.put, List.setIfInBounds_toArray, List.set_cons_zero, List.set_cons_succ]
    refine wpAnyH_takeD 1 (some 139) rfl rfl (by kernel_rfl) (by kernel_rfl) (by kernel_rfl) (fun _ _ _ h => h) (yieldsIf_load_mid rfl 22 _ rfl w3.heap.size 0 rfl (bytesV T').toList _ a2 Try.underlying22 rfl r2) (by assumption) ?_
    try simp only [Act.put, List.setIfInBounds_toArray, List.set_cons_zero, List.set_cons_succ]
    refine wpAnyH_takeD 3 (some 141) rfl rfl (by kernel_rfl) (by kernel_rfl) (by kernel_rfl) (fun _ _ _ h => h) (yieldsIf_move rfl _ rfl (.bool S) rfl) (by assumption) ?_
    try simp only [Act.put, List.setIfInBounds_toArray, List.set_cons_zero, List.set_cons_succ]
    refine wpAnyH_one 2 rfl (by kernel_rfl) (fun K' hK' => ?_)
    go_simp
    refine hK'.out _ _ (by assumption) ?_; clear hK' K'; try simp only [Act.put, List.setIfInBounds_toArray, List.set_cons_zero, List.set_cons_succ]
    refine wpAnyH_one 4 rfl (by kernel_rfl) (fun K' hK' => ?_)
    go_simp
    refine hK'.out _ _ (by assumption) ?_; clear hK' K'; try simp only [Act.put, List.setIfInBounds_toArray, List.set_cons_zero, List.set_cons_succ]
    refine wpAnyH_one 5 rfl (by kernel_rfl) (fun K' hK' => ?_)
    go_simp
    refine hK'.out _ _ (by assumption) ?_; clear hK' K'; try simp only [Act.put, List.setIfInBounds_toArray, List.set_cons_zero, List.set_cons_succ]
    refine wpAnyH_one 6 rfl (by kernel_rfl) (fun K' hK' => ?_)
    go_simp
    refine hK'.out _ _ (by assumption) ?_; clear hK' K'; try simp only [Act.put, List.setIfInBounds_toArray, List.set_cons_zero, List.set_cons_succ]
    refine wpAnyH_one 7 rfl (by kernel_rfl) (fun K' hK' => ?_)
    go_simp
    refine hK'.out _ _ (by assumption) ?_; clear hK' K'; try simp only [Act.put, List.setIfInBounds_toArray, List.set_cons_zero, List.set_cons_succ]
    refine wpAnyH_one 8 rfl (by kernel_rfl) (fun K' hK' => ?_)
    go_simp
    refine hK'.out _ _ (by assumption) ?_; clear hK' K'; try simp only [Act.put, List.setIfInBounds_toArray, List.set_cons_zero, List.set_cons_succ]
    refine wpAnyH_one 9 rfl (by kernel_rfl) (fun K' hK' => ?_)
    go_simp
    refine hK'.out _ _ (by assumption) ?_; clear hK' K'; try simp only [Act.put, List.setIfInBounds_toArray, List.set_cons_zero, List.set_cons_succ]
    refine wpAnyH_takeD 10 (some 148) rfl rfl (by kernel_rfl) (by kernel_rfl) (by kernel_rfl) (fun _ _ _ h => h) (yieldsIf_move rfl _ rfl (.slice (some ⟨gx, 0, none⟩) (p + 16) cx) rfl) (by assumption) ?_
    try simp only [Act.put, List.setIfInBounds_toArray, List.set_cons_zero, List.set_cons_succ]
    refine wpAnyH_takeD 11 (some 149) rfl rfl (by kernel_rfl) (by kernel_rfl) (by kernel_rfl) (fun _ _ _ h => h) (yieldsIf_move rfl _ rfl (.int .u64 i) rfl) (by assumption) ?_
    try simp only [Act.put, List.setIfInBounds_toArray, List.set_cons_zero, List.set_cons_succ]
    refine wpAnyH_takeD 12 (some 150) rfl rfl (by kernel_rfl) (by kernel_rfl) (by kernel_rfl) (fun _ _ _ h => h) (yieldsIf_calc (v := .int .u64 p) rfl (fun w => by unfold execOp; go_simp)) (by assumption) ?_
    try simp only [Act.put, List.setIfInBounds_toArray, List.set_cons_zero, List.set_cons_succ]
    refine wpAnyH_takeD 13 (some 151) rfl rfl (by kernel_rfl) (by kernel_rfl) (by kernel_rfl) (fun _ _ _ h => h) (yieldsIf_calc (v := .slice (some ⟨gx, p, none⟩) 16 (cx - p)) rfl (fun w => by unfold execOp; go_simp)) (by assumption) ?_
    try simp only [Act.put, List.setIfInBounds_toArray, List.set_cons_zero, List.set_cons_succ]
    refine wpAnyH_takeD 14 (some 152) rfl rfl (by kernel_rfl) (by kernel_rfl) (by kernel_rfl) (fun _ _ _ h => h) (yieldsIf_calc (v := .pointer (some ⟨gx, p, none⟩)) rfl (fun w => by unfold execOp; go_simp)) (by assumption) ?_
    try simp only [Act.put, List.setIfInBounds_toArray, List.set_cons_zero, List.set_cons_succ]
    refine wpAnyH_takeD 15 (some 153) rfl rfl (by kernel_rfl) (by kernel_rfl) (by kernel_rfl) (fun _ _ _ h => h) (yieldsIf_load_mid rfl 22 _ rfl gx p rfl (bytesV E).toList _ a3 Try.underlying22 rfl r3) (by assumption) ?_
    try simp only [Act.put, List.setIfInBounds_toArray, List.set_cons_zero, List.set_cons_succ]
    refine wpAnyH_takeD 16 (some 154) rfl rfl (by kernel_rfl) (by kernel_rfl) (by kernel_rfl) (fun _ _ _ h => h) (yieldsIf_move rfl _ rfl (.pointer (some ⟨bC, 0, none⟩)) rfl) (by assumption) ?_
    try simp only [Act.put, List.setIfInBounds_toArray, List.set_cons_zero, List.set_cons_succ]
    refine wpAnyH_takeD 17 (some 155) rfl rfl (by kernel_rfl) (by kernel_rfl) (by kernel_rfl) (fun _ _ _ h => h) (yieldsIf_load_mid rfl 22 _ rfl w1.heap.size 0 rfl (bytesV T).toList _ a1 Try.underlying22 rfl r1) (by assumption) ?_
    try simp only [Act.put, List.setIfInBounds_toArray, List.set_cons_zero, List.set_cons_succ]
    refine wpAnyH_one 18 rfl (by kernel_rfl) (fun K' hK' => ?_)
    go_simp
    (go_at_call 40; (with_reducible refine (henc _ _ (a4 _ s0)).mono ?_); rintro e w8 ⟨rfl, hb8⟩; have s1 := a7 _ _ s0 hb8; clear hb8)
    go_wp2
    refine hK'.out _ _ (by assumption) ?_; clear hK' K'; try simp only [Act.put, List.setIfInBounds_toArray, List.set_cons_zero, List.set_cons_succ]
    refine wpAnyH_one 19 rfl (by kernel_rfl) (fun K' hK' => ?_)
    go_simp
    refine hK'.out _ _ (by assumption) ?_; clear hK' K'; try simp only [Act.put, List.setIfInBounds_toArray, List.set_cons_zero, List.set_cons_succ]
    refine wpAnyH_one 20 rfl (by kernel_rfl) (fun K' hK' => ?_)
    go_simp
    refine hK'.out _ _ (by assumption) ?_; clear hK' K'; try simp only [Act.put, List.setIfInBounds_toArray, List.set_cons_zero, List.set_cons_succ]
    refine wpAnyH_one 21 rfl (by kernel_rfl) (fun K' hK' => ?_)
    go_simp
    refine hK'.out _ _ (by assumption) ?_; clear hK' K'; try simp only [Act.put, List.setIfInBounds_toArray, List.set_cons_zero, List.set_cons_succ]
    refine wpAnyH_takeD 22 (some 160) rfl rfl (by kernel_rfl) (by kernel_rfl) (by kernel_rfl) (fun _ _ _ h => h) (yieldsIf_move rfl _ rfl (.slice (some ⟨gx, 0, none⟩) (p + 16) cx) rfl) (by assumption) ?_
    try simp only [Act.put, List.setIfInBounds_toArray, List.set_cons_zero, List.set_cons_succ]
    refine wpAnyH_takeD 23 (some 161) rfl rfl (by kernel_rfl) (by kernel_rfl) (by kernel_rfl) (fun _ _ _ h => h) (yieldsIf_move rfl _ rfl (.int .u64 i) rfl) (by assumption) ?_
    try simp only [Act.put, List.setIfInBounds_toArray, List.set_cons_zero, List.set_cons_succ]
    refine wpAnyH_takeD 24 (some 162) rfl rfl (by kernel_rfl) (by kernel_rfl) (by kernel_rfl) (fun _ _ _ h => h) (yieldsIf_calc (v := .int .u64 p) rfl (fun w => by unfold execOp; go_simp)) (by assumption) ?_
    try simp only [Act.put, List.setIfInBounds_toArray, List.set_cons_zero, List.set_cons_succ]
    refine wpAnyH_takeD 25 (some 163) rfl rfl (by kernel_rfl) (by kernel_rfl) (by kernel_rfl) (fun _ _ _ h => h) (yieldsIf_calc (v := .slice (some ⟨gx, p, none⟩) 16 (cx - p)) rfl (fun w => by unfold execOp; go_simp)) (by assumption) ?_
    try simp only [Act.put, List.setIfInBounds_toArray, List.set_cons_zero, List.set_cons_succ]
    refine wpAnyH_takeD 26 (some 164) rfl rfl (by kernel_rfl) (by kernel_rfl) (by kernel_rfl) (fun _ _ _ h => h) (yieldsIf_move rfl _ rfl (.slice (some ⟨gy, 0, none⟩) (q + 16) cy) rfl) (by assumption) ?_
    try simp only [Act.put, List.setIfInBounds_toArray, List.set_cons_zero, List.set_cons_succ]
    refine wpAnyH_takeD 27 (some 165) rfl rfl (by kernel_rfl) (by kernel_rfl) (by kernel_rfl) (fun _ _ _ h => h) (yieldsIf_move rfl _ rfl (.int .u64 j) rfl) (by assumption) ?_
    try simp only [Act.put, List.setIfInBounds_toArray, List.set_cons_zero, List.set_cons_succ]
    refine wpAnyH_takeD 28 (some 166) rfl rfl (by kernel_rfl) (by kernel_rfl) (by kernel_rfl) (fun _ _ _ h => h) (yieldsIf_calc (v := .int .u64 q) rfl (fun w => by unfold execOp; go_simp)) (by assumption) ?_
    try simp only [Act.put, List.setIfInBounds_toArray, List.set_cons_zero, List.set_cons_succ]
    refine wpAnyH_takeD 29 (some 167) rfl rfl (by kernel_rfl) (by kernel_rfl) (by kernel_rfl) (fun _ _ _ h => h) (yieldsIf_calc (v := .slice (some ⟨gy, q, none⟩) 16 (cy - q)) rfl (fun w => by unfold execOp; go_simp)) (by assumption) ?_
    try simp only [Act.put, List.setIfInBounds_toArray, List.set_cons_zero, List.set_cons_succ]
    refine wpAnyH_takeD 31 (some 169) rfl rfl (by kernel_rfl) (by kernel_rfl) (by kernel_rfl) (fun _ _ _ h => h) (yieldsIf_move rfl _ rfl (.bool S) rfl) (by assumption) ?_
    try simp only [Act.put, List.setIfInBounds_toArray, List.set_cons_zero, List.set_cons_succ]
    refine wpAnyH_one 30 rfl (by kernel_rfl) (fun K' hK' => ?_)
    go_simp
    (go_at_call 44; (with_reducible refine (bsame_any E E' _ _ _ (a5 _ s1) (a6 _ s1) ?_).mono ?_); (rw [hEl.out]; omega); rintro e w9 ⟨rfl, hb9⟩; rw [hS2.out]; have s2 := a7 _ _ s1 hb9; clear hb9)
    go_wp2
    refine hK'.out _ _ (by assumption) ?_; clear hK' K'; try simp only [Act.put, List.setIfInBounds_toArray, List.set_cons_zero, List.set_cons_succ]
    refine wpAnyH_one 32 rfl (by kernel_rfl) (fun K' hK' => ?_)
    go_simp
    refine hK'.out _ _ (by assumption) ?_; clear hK' K'; try simp only [Act.put, List.setIfInBounds_toArray, List.set_cons_zero, List.set_cons_succ]
    refine wpAnyH_one 33 rfl (by kernel_rfl) (fun K' hK' => ?_)
    go_simp
    refine hK'.out _ _ (by assumption) ?_; clear hK' K'; try simp only [Act.put, List.setIfInBounds_toArray, List.set_cons_zero, List.set_cons_succ]
    refine wpAnyH_one 34 rfl (by kernel_rfl) (fun K' hK' => ?_)
    go_simp
    refine hK'.out _ _ (by assumption) ?_; clear hK' K'; try simp only [Act.put, List.setIfInBounds_toArray, List.set_cons_zero, List.set_cons_succ]
    refine wpAnyH_one 35 rfl (by kernel_rfl) (fun K' hK' => ?_)
    go_simp
    (go_at_call 29; refine (known40 _).mono ?_; rintro e wa ⟨rfl, hba⟩; have s3 := a7 _ _ s2 hba; clear hba)
    go_wp2
    refine hK'.out _ _ (by assumption) ?_; clear hK' K'; try simp only [Act.put, List.setIfInBounds_toArray, List.set_cons_zero, List.set_cons_succ]
    refine wpAnyH_one 36 rfl (by kernel_rfl) (fun K' hK' => ?_)
    go_simp
    refine hK'.out _ _ (by assumption) ?_; clear hK' K'; try simp only [Act.put, List.setIfInBounds_toArray, List.set_cons_zero, List.set_cons_succ]
    refine wpAnyH_one 37 rfl (by kernel_rfl) (fun K' hK' => ?_)
    go_simp
    refine hK'.out _ _ (by assumption) ?_; clear hK' K'; try simp only [Act.put, List.setIfInBounds_toArray, List.set_cons_zero, List.set_cons_succ]
    refine wpAnyH_done (by kernel_rfl) ?_ _
    go_wp2
    go_ret
    exact ⟨rfl, a8 _ s3⟩
theorem walk_CtrApart (key : List UInt8) (hk : key.length = 16) (c b d : Int) (wc : (Lit.int .u32 c).wf = true) (key' : List UInt8) (hk' : key'.length = 16) (c' b' d' : Int) (wc' : (Lit.int .u32 c').wf = true) (i : Int) (wi : (Lit.int .u64 i).wf = true) (j : Int) (wj : (Lit.int .u64 j).wf = true) (w : World) :
    Calls Try.prog 17 #[.agg (parV key c b d), .agg (parV key' c' b' d'), .int .u64 i, .int .u64 j] w fun e w' => e = .returned (.bool true) ∧ Below w.heap.size w w' := by
  obtain ⟨c0, c1⟩ := bounds_u32' wc
  obtain ⟨c, rfl⟩ := Int.eq_ofNat_of_zero_le c0
  obtain ⟨c2, c3⟩ := bounds_u32' wc'
  obtain ⟨i0, i1⟩ := bounds_u64' wi
  obtain ⟨i, rfl⟩ := Int.eq_ofNat_of_zero_le i0
  obtain ⟨j0, j1⟩ := bounds_u64' wj
  obtain ⟨j, rfl⟩ := Int.eq_ofNat_of_zero_le j0
  by_cases h : 9 < i ∨ 9 < j
  · exact apart_big _ _ i j (by omega) (by omega) h w
  · rcases cases_par b d with ⟨b, d, rfl, rfl, hb, hd⟩ | hbad
    · rcases cases_par b' d' with ⟨b', d', rfl, rfl, hb', hd'⟩ | hbad
      · obtain ⟨c', rfl⟩ := Int.eq_ofNat_of_zero_le c2
        exact apart_ok key key' hk hk' c b d c' b' d' (by omega) hb hd (by omega) hb' hd' i j (by omega) (by omega) w
      · exact apart_err2 key key' hk hk' c b d c' b' d' (by omega) hb hd i j (by omega) (by omega) hbad w
    · exact apart_err1 key key' hk hk' c b d c' b' d' ⟨c2, c3⟩ i j (by omega) (by omega) hbad w
end Go.Proofs.Ytdgmahgidmjniaa
