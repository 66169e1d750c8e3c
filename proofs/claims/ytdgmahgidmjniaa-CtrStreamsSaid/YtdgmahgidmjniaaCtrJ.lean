/-
  Counter mode: the statement CtrSums.
-/
import Derived.Test.YtdgmahgidmjniaaCtrI
namespace Go.Proofs.Ytdgmahgidmjniaa
open Go.RowKit
attribute [-go_sem] Instr.build

theorem bsl_take {w : World} {a : Option Addr} {cap : Nat} {l : List UInt8} (n : Nat) (h : Bsl w (.slice a l.length cap) l) (hn : n ≤ l.length) : Bsl w (.slice a n cap) (l.take n) := by
  obtain ⟨a', cap', e, h1, h2, h3, h4⟩ := h
  simp only [Value.slice.injEq, true_and] at e
  obtain ⟨rfl, rfl⟩ := e
  have hl : (l.take n).length = n := by simp; omega
  refine ⟨a, cap, by rw [hl], by rw [hl]; omega, h2, h3, fun h0 => ?_⟩
  rw [hl] at h0 ⊢
  obtain ⟨b, o, e, hb, hc⟩ := h4 (by omega)
  refine ⟨b, o, e, hb, fun i hi => ?_⟩
  rw [hc i (by omega)]
  have : gd (l.take n) i = gd l i := by simp [gd, List.getElem?_take_of_lt hi]
  rw [this]
theorem xrL_sums (a b s : List UInt8) (h : a.length ≤ s.length) (hb : b.length ≤ s.length) : xrL (xrL a s) (xrL b s) = xrL a b := by
  unfold xrL
  induction a generalizing b s with
  | nil => simp
  | cons x a ih =>
    cases b with
    | nil => simp
    | cons y b =>
      cases s with
      | nil => simp at h
      | cons z s =>
        simp only [List.zipWith_cons_cons, List.length_cons] at h hb ⊢
        rw [ih b s (by omega) (by omega)]
        congr 1
        unfold x8
        rw [UInt8.xor_assoc, UInt8.xor_comm y z, ← UInt8.xor_assoc z z y, UInt8.xor_self, UInt8.zero_xor]
/-- What a region that loads the parameters reads. -/
structure PRead (w : World) (b : Nat) (key : List UInt8) (c e f : Int) : Prop where
  row : w.rangeAt b 0 (bytesV key).toList
  c16 : w.cell? ⟨b, 16, none⟩ = some (.int .u32 c)
  c17 : w.cell? ⟨b, 17, none⟩ = some (.int .i64 e)
  c18 : w.cell? ⟨b, 18, none⟩ = some (.int .i64 f)
theorem PBox.drew {w : World} {b : Nat} {key : List UInt8} {c e f : Int} (h : PBox w b key c e f) : PBox w.drew b key c e f := ⟨h.blk.drew, h.len⟩
theorem PBox.read {w : World} {b : Nat} {key : List UInt8} {c e f : Int} (h : PBox w b key c e f) : PRead w b key c e f := by
  obtain ⟨h1, h2, h3⟩ := h.cells
  have := h.blk.range 0 16
  rw [parV_key key h.len] at this
  exact ⟨this, h1, h2, h3⟩
set_option maxRecDepth 100000 in
set_option maxHeartbeats 4000000 in
theorem ctrsums_ok (key : List UInt8) (hk : key.length = 16) (c b d : Nat) (hc : c < 2 ^ 32) (hb : b ≤ 31) (hd : d ≤ 1) (v u : Value) (l m : List UInt8) (w : World) (hv : Bsl w v l) (hu : Bsl w u m) (n : Nat) (hn : n = min l.length m.length) (hlen : n ≤ 300) :
    Calls Try.prog 14 #[.agg (parV key c b d), v, u] w fun e w' => e = .returned (.bool true) ∧ Below w.heap.size w w' := by
  obtain ⟨C, hC⟩ : ∃ C, C = parV key c b d := ⟨_, rfl⟩
  have a0 : PBox (w.alloc (.cells C 26)) w.heap.size key c b d := ⟨by rw [hC]; exact Blk.new' rfl, hk⟩
  have hB : Below w.heap.size w (w.alloc (.cells C 26)) := (Below.refl _ _).alloc (Nat.le_refl _) _
  rw [← hC]
  clear hC
  obtain ⟨a, cap, rfl, h1, h2, h3, h4⟩ := hv
  have hv : Bsl w (.slice a l.length cap) l := ⟨a, cap, rfl, h1, h2, h3, h4⟩
  obtain ⟨a', cap', rfl, k1, k2, k3, k4⟩ := hu
  have hu : Bsl w (.slice a' m.length cap') m := ⟨a', cap', rfl, k1, k2, k3, k4⟩
  have hv' := bsl_take n (hv.below hB) (by omega)
  have hu' := bsl_take n (hu.below hB) (by omega)
  have hcap : (n : Int) ≤ cap := by omega
  have hcap' : (n : Int) ≤ cap' := by omega
  have hnm : (if m.length < l.length then (m.length : Int) else l.length) = n := by split <;> omega
  have hnm2 := Lib.hid (show min l.length m.length = n from hn.symm)
  have hni : (n : Int) ≤ 300 := by omega
  clear h1 h2 h3 h4 k1 k2 k3 k4 hv hu
  have hrd := a0.read
  have r22 : (Try.prog.info? 22).map (·.size) = some (bytesV key).toList.length := by rw [Array.length_toList, bytesV_size, hk]; exact row22.2
  have l22 : (bytesV key).toList.length = 16 := by rw [Array.length_toList, bytesV_size, hk]
  have o22 : ∀ v ∈ (bytesV key).toList, v.oneCell' = true := fun v hv => (Array.all_eq_true_iff_forall_mem.1 (bytesV_one key)) v (by simpa using hv)
  have u22 := Try.underlying22
  go_enter Try.func14, Try.ntmps14
  go_wp2
  rw [hnm2.out]
  clear hnm hnm2
  have s0 : (w.alloc (.cells C 26)).drew.rangeAt w.heap.size 0 (bytesV key).toList ∧ (w.alloc (.cells C 26)).drew.cell? ⟨w.heap.size, 16, none⟩ = some (.int .u32 c) ∧ (w.alloc (.cells C 26)).drew.cell? ⟨w.heap.size, 17, none⟩ = some (.int .i64 b) ∧ (w.alloc (.cells C 26)).drew.cell? ⟨w.heap.size, 18, none⟩ = some (.int .i64 d) := ⟨hrd.row, hrd.c16, hrd.c17, hrd.c18⟩
  obtain ⟨l', hl'⟩ : ∃ l', l' = l.take n := ⟨_, rfl⟩
  have hl9 : l'.length = n := by rw [hl']; simp; omega
  rw [← hl'] at hv'
  obtain ⟨m', hm'⟩ : ∃ m', m' = m.take n := ⟨_, rfl⟩
  have hm9 : m'.length = n := by rw [hm']; simp; omega
  rw [← hm'] at hu'
  have hcr : ∀ w, Bsl w (.slice a n cap) l' → Calls Try.prog 43 #[.agg (bytesV key), .int .u32 c, .int .i64 b, .int .i64 d, .slice a n cap] w fun e w' => ∃ v', e = .returned (.tuple #[v', .int .i64 0]) ∧ w'.ownsRow w.heap.size 5 1 v' l'.length ((cryL key c b d l').map B) ∧ Below w.heap.size w w' := fun w h => crypt_ok key hk c b d hc hb hd _ l' w h (by omega)
  replace hv' := hv'.below (Below.refl _ _).drew
  replace hl' := Lib.hid hl'
  replace hm' := Lib.hid hm'
  replace hl9 := Lib.hid hl9
  replace hm9 := Lib.hid hm9
  replace hn := Lib.hid hn
  have hn0 : (0 : Int) ≤ n := by omega
  have hnc : n ≤ cap := by omega
  go_region_held3 (fun w' => w'.rangeAt w.heap.size 0 (bytesV key).toList ∧ w'.cell? ⟨w.heap.size, 16, none⟩ = some (.int .u32 c) ∧ w'.cell? ⟨w.heap.size, 17, none⟩ = some (.int .i64 b) ∧ w'.cell? ⟨w.heap.size, 18, none⟩ = some (.int .i64 d)) (assumption)
    (first
      | (go_at_call 43; (with_reducible refine (hcr _ hv').mono ?_); rintro e w1 ⟨x, rfl, ho1, hb1⟩; have a1 := a0.drew.below hb1; have r1 := a1.read; have s1 : w1.rangeAt w.heap.size 0 (bytesV key).toList ∧ w1.cell? ⟨w.heap.size, 16, none⟩ = some (.int .u32 c) ∧ w1.cell? ⟨w.heap.size, 17, none⟩ = some (.int .i64 b) ∧ w1.cell? ⟨w.heap.size, 18, none⟩ = some (.int .i64 d) := ⟨r1.row, r1.c16, r1.c17, r1.c18⟩)
      | fail)
  have hcr2 : ∀ w, Bsl w (.slice a' n cap') m' → Calls Try.prog 43 #[.agg (bytesV key), .int .u32 c, .int .i64 b, .int .i64 d, .slice a' n cap'] w fun e w' => ∃ v', e = .returned (.tuple #[v', .int .i64 0]) ∧ w'.ownsRow w.heap.size 5 1 v' m'.length ((cryL key c b d m').map B) ∧ Below w.heap.size w w' := fun w h => crypt_ok key hk c b d hc hb hd _ m' w h (by rw [hm9.out]; exact hlen)
  have hx1 : Bsl w1 x (cryL key c b d l') := bsl_own (l := cryL key c b d l') (by rw [cryL_length]; exact ho1)
  have hv2 := hv'.below hb1
  have hu2 := (hu'.below (Below.refl _ _).drew).below hb1
  replace hB := bnext hB.drew hb1
  clear s0 ho1 hb1 hv' hu' hrd a0 hcr
  have t1 : w1.drew.rangeAt w.heap.size 0 (bytesV key).toList ∧ w1.drew.cell? ⟨w.heap.size, 16, none⟩ = some (.int .u32 c) ∧ w1.drew.cell? ⟨w.heap.size, 17, none⟩ = some (.int .i64 b) ∧ w1.drew.cell? ⟨w.heap.size, 18, none⟩ = some (.int .i64 d) := s1
  have hu3 := hu2.below (Below.refl _ _).drew
  have hnc' : n ≤ cap' := by omega
  go_wp2
  go_region_held3 (fun w' => w'.rangeAt w.heap.size 0 (bytesV key).toList ∧ w'.cell? ⟨w.heap.size, 16, none⟩ = some (.int .u32 c) ∧ w'.cell? ⟨w.heap.size, 17, none⟩ = some (.int .i64 b) ∧ w'.cell? ⟨w.heap.size, 18, none⟩ = some (.int .i64 d)) (assumption)
    (first
      | (go_at_call 43; (with_reducible refine (hcr2 _ hu3).mono ?_); rintro e w2 ⟨y, rfl, ho2, hb2⟩; have a2 := a1.drew.below hb2; have r2 := a2.read; have s2 : w2.rangeAt w.heap.size 0 (bytesV key).toList ∧ w2.cell? ⟨w.heap.size, 16, none⟩ = some (.int .u32 c) ∧ w2.cell? ⟨w.heap.size, 17, none⟩ = some (.int .i64 b) ∧ w2.cell? ⟨w.heap.size, 18, none⟩ = some (.int .i64 d) := ⟨r2.row, r2.c16, r2.c17, r2.c18⟩)
      | fail)
  have hy2 : Bsl w2 y (cryL key c b d m') := bsl_own (l := cryL key c b d m') (by rw [cryL_length]; exact ho2)
  have hx2 := (hx1.below (Below.refl _ _).drew).below hb2
  have hv3 := (hv2.below (Below.refl _ _).drew).below hb2
  have hu4 := hu3.below hb2
  replace hB := bnext hB.drew hb2
  clear s1 t1 s2 r1 r2 a1 a2 ho2 hb2 hx1 hv2 hu2 hu3 hcr2 r22 l22 o22 u22
  go_wp2
  obtain ⟨X, hX⟩ : ∃ X, X = cryL key c b d l' := ⟨_, rfl⟩
  obtain ⟨Y, hY⟩ : ∃ Y, Y = cryL key c b d m' := ⟨_, rfl⟩
  have hXY : xrL X (Y.take X.length) = xrL l' (m'.take l'.length) := by
    have h1 : X.length = l'.length := by rw [hX, cryL_length]
    have h2 : Y.length = l'.length := by rw [hY, cryL_length, hl9.out, hm9.out]
    rw [List.take_of_length_le (by omega), List.take_of_length_le (by rw [hl9.out, hm9.out]; exact Nat.le_refl _), hX, hY, cryL, cryL, hl9.out, hm9.out]
    exact xrL_sums _ _ _ (by rw [ksU_length, hl9.out]; exact Nat.le_refl _) (by rw [ksU_length, hm9.out]; exact Nat.le_refl _)
  have hXn : (X.length : Int) = n := by rw [hX, cryL_length, hl9.out]
  have hYn : (Y.length : Int) = n := by rw [hY, cryL_length, hm9.out]
  rw [← hX] at hx2
  rw [← hY] at hy2
  have HXY := Lib.hid hXY
  clear hX hY hXY
  have hx3 := hx2.below (Below.refl _ _).drew
  have hy3 := hy2.below (Below.refl _ _).drew
  have hv4 := hv3.below (Below.refl _ _).drew
  have hu5 := hu4.below (Below.refl _ _).drew
  obtain ⟨ax, cx, rfl, _, _, _, _⟩ := hx2
  obtain ⟨ay, cy, rfl, _, _, _, _⟩ := hy2
  have hB3 := hB.drew
  go_region_held3 (fun _ => True) (exact trivial)
    (first
      | (go_at_call 46; (with_reducible refine (add_any X Y _ _ _ hx3 hy3 ?_ ?_).mono ?_); (omega); (omega); rintro e w3 ⟨p, rfl, hp, hb3⟩; have hB4 := bnext hB3 hb3; have hv5 := hv4.below hb3; have hu6 := hu5.below hb3)
      | (go_at_call 46; (with_reducible refine (add_any l' m' _ _ _ hv5 hu6 ?_ ?_).mono ?_); (rw [hl9.out]; omega); (rw [hl9.out, hm9.out]; exact Nat.le_refl _); rintro e w4 ⟨q, rfl, hq, hb4⟩; have hB5 := bnext hB4 hb4; have hp2 := hp.below hb4; rw [HXY.out] at hp2)
      | (go_at_call 44; refine (bsame_any _ _ _ _ _ hp2 hq ?_).mono ?_; (rw [xrL_length, hl9.out]; omega); rintro e w5 ⟨rfl, hb5⟩; have hB6 := bnext hB5 hb5; rw [decide_eq_true rfl])
      | (go_at_call 29; refine (known40 _).mono ?_; rintro e w6 ⟨rfl, hb6⟩; have hB7 := bnext hB6 hb6)
      | fail)
  go_wp2
  go_ret
  exact ⟨rfl, hB7⟩
set_option maxRecDepth 100000 in
set_option maxHeartbeats 4000000 in
theorem ctrsums_err (key : List UInt8) (hk : key.length = 16) (c b d : Int) (hbad : b < 0 ∨ 31 < b ∨ (d ≠ 0 ∧ d ≠ 1)) (v u : Value) (l m : List UInt8) (w : World) (hv : Bsl w v l) (hu : Bsl w u m) (n : Nat) (hn : n = min l.length m.length) (hlen : n ≤ 300) :
    Calls Try.prog 14 #[.agg (parV key c b d), v, u] w fun e w' => e = .returned (.bool true) ∧ Below w.heap.size w w' := by
  obtain ⟨C, hC⟩ : ∃ C, C = parV key c b d := ⟨_, rfl⟩
  have a0 : PBox (w.alloc (.cells C 26)) w.heap.size key c b d := ⟨by rw [hC]; exact Blk.new' rfl, hk⟩
  have hB : Below w.heap.size w (w.alloc (.cells C 26)) := (Below.refl _ _).alloc (Nat.le_refl _) _
  rw [← hC]
  clear hC
  obtain ⟨a, cap, rfl, h1, h2, h3, h4⟩ := hv
  obtain ⟨a', cap', rfl, k1, k2, k3, k4⟩ := hu
  have hcap : (n : Int) ≤ cap := by omega
  have hcap' : (n : Int) ≤ cap' := by omega
  have hnm : (if m.length < l.length then (m.length : Int) else l.length) = n := by split <;> omega
  have hnm2 := Lib.hid (show min l.length m.length = n from hn.symm)
  have hni : (n : Int) ≤ 300 := by omega
  have hnc : n ≤ cap := by omega
  have hnc' : n ≤ cap' := by omega
  clear h1 h2 h3 h4 k1 k2 k3 k4
  have hrd := a0.read
  have r22 : (Try.prog.info? 22).map (·.size) = some (bytesV key).toList.length := by rw [Array.length_toList, bytesV_size, hk]; exact row22.2
  have l22 : (bytesV key).toList.length = 16 := by rw [Array.length_toList, bytesV_size, hk]
  have o22 : ∀ v ∈ (bytesV key).toList, v.oneCell' = true := fun v hv => (Array.all_eq_true_iff_forall_mem.1 (bytesV_one key)) v (by simpa using hv)
  have u22 := Try.underlying22
  go_enter Try.func14, Try.ntmps14
  go_wp2
  rw [hnm2.out]
  clear hnm hnm2
  replace hn := Lib.hid hn
  have hn0 : (0 : Int) ≤ n := by omega
  have s0 : (w.alloc (.cells C 26)).drew.rangeAt w.heap.size 0 (bytesV key).toList ∧ (w.alloc (.cells C 26)).drew.cell? ⟨w.heap.size, 16, none⟩ = some (.int .u32 c) ∧ (w.alloc (.cells C 26)).drew.cell? ⟨w.heap.size, 17, none⟩ = some (.int .i64 b) ∧ (w.alloc (.cells C 26)).drew.cell? ⟨w.heap.size, 18, none⟩ = some (.int .i64 d) := ⟨hrd.row, hrd.c16, hrd.c17, hrd.c18⟩
  go_region_held3 (fun w' => w'.rangeAt w.heap.size 0 (bytesV key).toList ∧ w'.cell? ⟨w.heap.size, 16, none⟩ = some (.int .u32 c) ∧ w'.cell? ⟨w.heap.size, 17, none⟩ = some (.int .i64 b) ∧ w'.cell? ⟨w.heap.size, 18, none⟩ = some (.int .i64 d)) (assumption)
    (first
      | (go_at_call 43; (with_reducible refine (crypt_err key c b d hbad _ _ _ _).mono ?_); rintro e w1 ⟨rfl, hb1⟩; have a1 := a0.drew.below hb1; have r1 := a1.read; have s1 : w1.rangeAt w.heap.size 0 (bytesV key).toList ∧ w1.cell? ⟨w.heap.size, 16, none⟩ = some (.int .u32 c) ∧ w1.cell? ⟨w.heap.size, 17, none⟩ = some (.int .i64 b) ∧ w1.cell? ⟨w.heap.size, 18, none⟩ = some (.int .i64 d) := ⟨r1.row, r1.c16, r1.c17, r1.c18⟩)
      | fail)
  replace hB := bnext hB.drew hb1
  clear s0 hb1 hrd a0
  have t1 : w1.drew.rangeAt w.heap.size 0 (bytesV key).toList ∧ w1.drew.cell? ⟨w.heap.size, 16, none⟩ = some (.int .u32 c) ∧ w1.drew.cell? ⟨w.heap.size, 17, none⟩ = some (.int .i64 b) ∧ w1.drew.cell? ⟨w.heap.size, 18, none⟩ = some (.int .i64 d) := s1
  go_wp2
  go_region_held3 (fun w' => w'.rangeAt w.heap.size 0 (bytesV key).toList ∧ w'.cell? ⟨w.heap.size, 16, none⟩ = some (.int .u32 c) ∧ w'.cell? ⟨w.heap.size, 17, none⟩ = some (.int .i64 b) ∧ w'.cell? ⟨w.heap.size, 18, none⟩ = some (.int .i64 d)) (assumption)
    (first
      | (go_at_call 43; (with_reducible refine (crypt_err key c b d hbad _ _ _ _).mono ?_); rintro e w2 ⟨rfl, hb2⟩; have a2 := a1.drew.below hb2; have r2 := a2.read; have s2 : w2.rangeAt w.heap.size 0 (bytesV key).toList ∧ w2.cell? ⟨w.heap.size, 16, none⟩ = some (.int .u32 c) ∧ w2.cell? ⟨w.heap.size, 17, none⟩ = some (.int .i64 b) ∧ w2.cell? ⟨w.heap.size, 18, none⟩ = some (.int .i64 d) := ⟨r2.row, r2.c16, r2.c17, r2.c18⟩)
      | fail)
  replace hB := bnext hB.drew hb2
  clear s1 t1 s2 r1 r2 a1 a2 hb2 r22 l22 o22 u22
  go_wp2_with (first
    | (go_at_call 29; refine (known40 _).mono ?_; rintro e w4 ⟨rfl, hb4⟩; replace hB := bnext hB hb4; clear hb4)
    | fail)
  go_ret
  exact ⟨rfl, hB⟩
set_option maxRecDepth 100000 in
theorem ctrsums_long (key : List UInt8) (c b d : Int) (v u : Value) (l m : List UInt8) (w : World) (hv : Bsl w v l) (hu : Bsl w u m) (n : Nat) (hn : n = min l.length m.length) (hlen : 300 < n) :
    Calls Try.prog 14 #[.agg (parV key c b d), v, u] w fun e w' => e = .returned (.bool true) ∧ Below w.heap.size w w' := by
  have hB : Below w.heap.size w (w.alloc (.cells (parV key c b d) 26)) := (Below.refl _ _).alloc (Nat.le_refl _) _
  obtain ⟨C, hC⟩ : ∃ C, C = parV key c b d := ⟨_, rfl⟩
  rw [← hC] at hB ⊢
  clear hC
  obtain ⟨a, cap, rfl, h1, h2, h3, h4⟩ := hv
  obtain ⟨a', cap', rfl, k1, k2, k3, k4⟩ := hu
  clear h1 h2 h3 h4 k1 k2 k3 k4
  have hnm : (if m.length < l.length then (m.length : Int) else l.length) = n := by split <;> omega
  have hlt : (300 : Int) < n := by omega
  have hl1 : (300 : Int) < l.length := by omega
  have hl2 : (300 : Int) < m.length := by omega
  replace hn := Lib.hid hn
  go_enter Try.func14, Try.ntmps14
  go_wp2_with (first
    | (go_at_call 29; refine (known40 _).mono ?_; rintro e w4 ⟨rfl, hb4⟩; replace hB := bnext hB hb4; clear hb4)
    | fail)
  go_ret
  exact ⟨rfl, hB⟩
theorem walk_CtrSums (key : List UInt8) (hk : key.length = 16) (c b d : Int) (wc : (Lit.int .u32 c).wf = true) (v : Value) (l : List UInt8) (u : Value) (m : List UInt8) (w : World) (hv : Bsl w v l) (hu : Bsl w u m) :
    Calls Try.prog 14 #[.agg (parV key c b d), v, u] w fun e w' => e = .returned (.bool true) ∧ Below w.heap.size w w' := by
  obtain ⟨c0, c1⟩ := bounds_u32' wc
  obtain ⟨c, rfl⟩ := Int.eq_ofNat_of_zero_le c0
  by_cases hlen : min l.length m.length ≤ 300
  · rcases cases_par b d with ⟨b', d', rfl, rfl, hb, hd⟩ | h
    · exact ctrsums_ok key hk c b' d' (by omega) hb hd v u l m w hv hu _ rfl hlen
    · exact ctrsums_err key hk c b d h v u l m w hv hu _ rfl hlen
  · exact ctrsums_long key c b d v u l m w hv hu _ rfl (by omega)
end Go.Proofs.Ytdgmahgidmjniaa
