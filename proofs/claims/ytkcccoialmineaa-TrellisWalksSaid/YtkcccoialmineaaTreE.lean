/-
  The trellis, walks: Tail.
-/
import Derived.Test.YtkcccoialmineaaTreC
import Derived.Test.YtkcccoialmineaaHeld
import Derived.Deep.RegionHeld3
namespace Go.Proofs.Ytkcccoialmineaa
open Go.RowKit

attribute [-go_sem] Instr.build
theorem results_blk2_tmp {P : Program} {fn : Func} {p q r : Tmp} {ty : TypeId} (h : fn.results = #[.cell p ty, .cell q ty, .tmp r]) (tmps : Array Value) (w : World) (b b' : Nat) (C D : Array Value) (t : TypeId) (n : Nat) (v : Value)
    (hp : tmps.getD p undef = .pointer (some ⟨b, 0, none⟩)) (hq : tmps.getD q undef = .pointer (some ⟨b', 0, none⟩)) (hv : tmps.getD r undef = v) (hb : Blk w b C t) (hd : Blk w b' D t) (hr : RowTy P ty n) (hn : C.size = n) (hm : D.size = n) :
    (results fn tmps).run P w = .ok (.tuple #[.agg C, .agg D, v]) w := by
  obtain ⟨⟨d, hu, hd'⟩, hi⟩ := hr
  subst hv
  have hp' : tmps[p]?.getD undef = .pointer (some ⟨b, 0, none⟩) := by simpa using hp
  have hq' : tmps[q]?.getD undef = .pointer (some ⟨b', 0, none⟩) := by simpa using hq
  have e1 := run_loadVar_row w b t ty C (0, 0) d hb hu (by cases d <;> first | rfl | cases hd') (by rw [hn]; exact hi)
  have e2 := run_loadVar_row w b' t ty D (0, 0) d hd hu (by cases d <;> first | rfl | cases hd') (by rw [hm]; exact hi)
  simp [results, h, hp', hq', asAddr, e1, e2]
theorem results_blk2 {P : Program} {fn : Func} {p q : Tmp} {ty : TypeId} (h : fn.results = #[.cell p ty, .cell q ty]) (tmps : Array Value) (w : World) (b b' : Nat) (C D : Array Value) (t : TypeId) (n : Nat)
    (hp : tmps.getD p undef = .pointer (some ⟨b, 0, none⟩)) (hq : tmps.getD q undef = .pointer (some ⟨b', 0, none⟩)) (hb : Blk w b C t) (hd : Blk w b' D t) (hr : RowTy P ty n) (hn : C.size = n) (hm : D.size = n) :
    (results fn tmps).run P w = .ok (.tuple #[.agg C, .agg D]) w := by
  obtain ⟨⟨d, hu, hd'⟩, hi⟩ := hr
  have hp' : tmps[p]?.getD undef = .pointer (some ⟨b, 0, none⟩) := by simpa using hp
  have hq' : tmps[q]?.getD undef = .pointer (some ⟨b', 0, none⟩) := by simpa using hq
  have e1 := run_loadVar_row w b t ty C (0, 0) d hb hu (by cases d <;> first | rfl | cases hd') (by rw [hn]; exact hi)
  have e2 := run_loadVar_row w b' t ty D (0, 0) d hd hu (by cases d <;> first | rfl | cases hd') (by rw [hm]; exact hi)
  simp [results, h, hp', hq', asAddr, e1, e2]
theorem build70 (s : Nat) (w : World) : (Instr.build 70 #[(0, .agg (rg s))]).run Try.prog w = .ok (.agg (enc s (.slice none 0 0))) w := run_build w 70 _ _ (by kernel_rfl)
theorem enc_one (s : Nat) : (enc s (.slice none 0 0)).all (·.oneCell') = true := by
  rw [Array.all_eq_true_iff_forall_mem]
  intro v hv
  simp only [enc, List.mem_toArray, List.mem_cons, List.not_mem_nil, or_false] at hv
  rcases hv with rfl | rfl | rfl | rfl <;> rfl
theorem row70 : RowTy Try.prog 70 4 := ⟨⟨_, Try.underlying70, rfl⟩, by kernel_rfl⟩
theorem enc_all (s : Nat) (C : Array Value) (h : C.size = 4) : splice C 0 (enc s (.slice none 0 0)).toList = enc s (.slice none 0 0) := by
  obtain ⟨a, b, c, d, rfl⟩ : ∃ a b c d, C = #[a, b, c, d] := by
    have hl : C.toList.length = 4 := by simpa using h
    match hC : C.toList, hl with
    | [a, b, c, d], _ => exact ⟨a, b, c, d, by apply Array.toList_inj.1; rw [hC]⟩
  rfl
def Z3 : List UInt8 := [0, 0, 0]
theorem z3_id : (((bytesV Z3).setIfInBounds 0 (.int .u8 0)).setIfInBounds 1 (.int .u8 0)).setIfInBounds 2 (.int .u8 0) = bytesV Z3 := by kernel_rfl
theorem row25 : RowTy Try.prog 25 3 := ⟨⟨_, Try.underlying25, rfl⟩, by kernel_rfl⟩
theorem zero25 : (Try.prog.info? 25).map (fun i => (i.zero, i.size)) = some (some (.agg (bytesV Z3)), 3) := by kernel_rfl
theorem pad_set (l : List UInt8) (n k : Nat) (x : UInt8) (hl : l.length = k) (hk : k < n) : (l ++ List.replicate (n - k) 0).set k x = (l ++ [x]) ++ List.replicate (n - (k + 1)) 0 := by
  obtain ⟨m, hm⟩ : ∃ m, n - k = m + 1 := ⟨n - k - 1, by omega⟩
  have h2 : n - (k + 1) = m := by omega
  subst hl
  rw [hm, h2, List.set_append_right _ _ (Nat.le_refl _)]
  simp [List.replicate_succ]
theorem B_of (n : Nat) (h : n < 256) : B (UInt8.ofNat n) = .int .u8 (n : Int) := by
  unfold B
  rw [UInt8.toNat_ofNat', Nat.mod_eq_of_lt h]
theorem three (l : List UInt8) (h : l.length = 3) : ∃ a b c, l = [a, b, c] := by
  match l, h with
  | [a, b, c], _ => exact ⟨a, b, c, rfl⟩
theorem put3 {w : World} {b : Nat} {t : TypeId} {x0 x1 x2 : UInt8} (h : Blk w b (bytesV [x0, x1, x2]) t) :
    Blk (((w.setCell ⟨b, 0, none⟩ (.int .u8 x0.toNat)).setCell ⟨b, 1, none⟩ (.int .u8 x1.toNat)).setCell ⟨b, 2, none⟩ (.int .u8 x2.toNat)) b (bytesV [x0, x1, x2]) t := ((h.set 0 _).set 1 _).set 2 _
def uK (s k : Nat) : List UInt8 := (tU s).take k ++ List.replicate (3 - k) 0
def zK (s k : Nat) : List UInt8 := par s ((tU s).take k) ++ List.replicate (3 - k) 0
theorem uK_length (s k : Nat) (hk : k ≤ 3) : (uK s k).length = 3 := by simp [uK, tU_length]; omega
theorem zK_length (s k : Nat) (hk : k ≤ 3) : (zK s k).length = 3 := by simp [zK, par_length, tU_length]; omega
theorem tU_gd (s k : Nat) (hk : k < 3) : gd (tU s) k = UInt8.ofNat (ub (stt s ((tU s).take k))) ∧ (gd (tU s) k).toNat = ub (stt s ((tU s).take k)) := by
  have e : ∀ s, (UInt8.ofNat (ub s)).toNat = ub s := fun s => by have := ub_lt s; simp; omega
  have h : k = 0 ∨ k = 1 ∨ k = 2 := by omega
  rcases h with rfl | rfl | rfl
  · exact ⟨rfl, e _⟩
  · have e1 : stt s ((tU s).take 1) = nx s (ub s) := by show nx s (UInt8.ofNat (ub s)).toNat = _; rw [e]
    rw [e1]; exact ⟨rfl, e _⟩
  · have e1 : stt s ((tU s).take 2) = nx (nx s (ub s)) (ub (nx s (ub s))) := by
      show nx (nx s (UInt8.ofNat (ub s)).toNat) (UInt8.ofNat (ub (nx s (ub s)))).toNat = _; rw [e, e]
    rw [e1]; exact ⟨rfl, e _⟩
theorem uK_set (s k : Nat) (hk : k < 3) : (uK s k).set k (UInt8.ofNat (ub (stt s ((tU s).take k)))) = uK s (k + 1) := by
  unfold uK
  rw [pad_set _ 3 k _ (by simp [tU_length]; omega) hk, take_one _ _ (by rw [tU_length]; exact hk), (tU_gd s k hk).1]
theorem zK_set (s k : Nat) (hk : k < 3) : (zK s k).set k (UInt8.ofNat (pr (stt s ((tU s).take k)) (ub (stt s ((tU s).take k))))) = zK s (k + 1) := by
  unfold zK
  rw [pad_set _ 3 k _ (by simp [par_length, tU_length]; omega) hk, par_take _ _ _ (by rw [tU_length]; exact hk), (tU_gd s k hk).2]
theorem st_next (s k : Nat) (hk : k < 3) : stt s ((tU s).take (k + 1)) = nx (stt s ((tU s).take k)) (ub (stt s ((tU s).take k))) := by
  rw [stt_take _ _ _ (by rw [tU_length]; exact hk), (tU_gd s k hk).2]

theorem tail_err (s : Int) (h : ¬ (0 ≤ s ∧ s < 8)) (w : World) :
    Calls Try.prog 11 #[.int .i64 s] w fun e w' => e = .returned (.tuple #[.agg (bytesV Z3), .agg (bytesV Z3), .int .i64 2]) ∧ Below w.heap.size w w' := by
  have z1 : ∀ w, (zeroValue 25).run Try.prog w = .ok (.agg (bytesV Z3)) w := (zero_of_info zero25).1
  have hf : decide (0 ≤ s ∧ s < 8 ∧ (0 : Int) ≤ 0 ∧ (0 : Int) < 2) = false := decide_eq_false (by omega)
  obtain ⟨W, hW⟩ : ∃ W, W = (w.alloc (.cells (bytesV Z3) 25)).alloc (.cells (bytesV Z3) 25) := ⟨_, rfl⟩
  have b0 : Blk W w.heap.size (bytesV Z3) 25 := by rw [hW]; exact (Blk.new' rfl).alloc _
  have b1 : Blk W (w.heap.size + 1) (bytesV Z3) 25 := by rw [hW]; exact Blk.new' (by simp)
  have hB : Below w.heap.size w W := by rw [hW]; exact ((Below.refl _ _).alloc (Nat.le_refl _) _).alloc (by simp) _
  have HW := Lib.hid hW
  clear hW
  go_enter Try.func11, Try.ntmps11
  go_wp2_with (first
    | (go_at_call 29; rw [← HW.out]; (with_reducible refine (fits_any _ _ _).mono ?_); rintro e w2 ⟨rfl, hw⟩; subst w2; rw [hf]))
  obtain ⟨x0, x1, x2, hx⟩ := three Z3 rfl
  obtain ⟨y0, y1, y2, hy⟩ := three Z3 rfl
  have HX := Lib.hid hx
  have HY := Lib.hid hy
  rw [hx] at b0
  rw [hy] at b1
  clear hx hy
  have c0 : W.cell? ⟨w.heap.size, 0, none⟩ = some (.int .u8 x0.toNat) := b0.cell 0
  have c1 : W.cell? ⟨w.heap.size, 1, none⟩ = some (.int .u8 x1.toNat) := b0.cell 1
  have c2 : W.cell? ⟨w.heap.size, 2, none⟩ = some (.int .u8 x2.toNat) := b0.cell 2
  have d0 : W.cell? ⟨w.heap.size + 1, 0, none⟩ = some (.int .u8 y0.toNat) := b1.cell 0
  have d1 : W.cell? ⟨w.heap.size + 1, 1, none⟩ = some (.int .u8 y1.toNat) := b1.cell 1
  have d2 : W.cell? ⟨w.heap.size + 1, 2, none⟩ = some (.int .u8 y2.toNat) := b1.cell 2
  have f0 := b0.frozen 0
  have f1 := b0.frozen 1
  have f2 := b0.frozen 2
  have g0 := b1.frozen 0
  have g1 := b1.frozen 1
  have g2 := b1.frozen 2
  go_region
  go_wp2
  have r0 := Blk.drew <| ((put3 b0).set_other (p := ⟨w.heap.size + 1, 0, none⟩) (by simp) (.int .u8 y0.toNat)).set_other (p := ⟨w.heap.size + 1, 1, none⟩) (by simp) (.int .u8 y1.toNat) |>.set_other (p := ⟨w.heap.size + 1, 2, none⟩) (by simp) (.int .u8 y2.toNat)
  have r1 := Blk.drew <| put3 (((b1.set_other (p := ⟨w.heap.size, 0, none⟩) (by simp) (.int .u8 x0.toNat)).set_other (p := ⟨w.heap.size, 1, none⟩) (by simp) (.int .u8 x1.toNat)).set_other (p := ⟨w.heap.size, 2, none⟩) (by simp) (.int .u8 x2.toNat))
  refine bodyPost_ret (results_blk2_tmp rfl _ _ _ _ (bytesV [x0, x1, x2]) (bytesV [y0, y1, y2]) 25 3 _ rfl rfl rfl r0 r1 row25 rfl rfl) rfl ?_
  rw [show (Value.agg (bytesV Z3)) = Value.agg (bytesV [x0, x1, x2]) by rw [HX.out], show [x0, x1, x2] = [y0, y1, y2] by rw [← HX.out, ← HY.out]]
  exact ⟨rfl, ((((((hB.setCell (Nat.le_refl _) _).setCell (Nat.le_refl _) _).setCell (Nat.le_refl _) _).setCell (Nat.le_succ _) _).setCell (Nat.le_succ _) _).setCell (Nat.le_succ _) _).drew⟩

set_option maxHeartbeats 1000000 in
theorem tail_ok (s : Nat) (hs : s < 8) (w : World) :
    Calls Try.prog 11 #[.int .i64 s] w fun e w' => e = .returned (.tuple #[.agg (bytesV (tU s)), .agg (bytesV (tZ s)), .int .i64 0]) ∧ Below w.heap.size w w' := by
  have z1 : ∀ w, (zeroValue 25).run Try.prog w = .ok (.agg (bytesV Z3)) w := (zero_of_info zero25).1
  have hf : decide (0 ≤ (s : Int) ∧ (s : Int) < 8 ∧ (0 : Int) ≤ 0 ∧ (0 : Int) < 2) = true := decide_eq_true (by omega)
  obtain ⟨W, hW⟩ : ∃ W, W = (w.alloc (.cells (bytesV Z3) 25)).alloc (.cells (bytesV Z3) 25) := ⟨_, rfl⟩
  have b0 : Blk W w.heap.size (bytesV Z3) 25 := by rw [hW]; exact (Blk.new' rfl).alloc _
  have b1 : Blk W (w.heap.size + 1) (bytesV Z3) 25 := by rw [hW]; exact Blk.new' (by simp)
  have hB : Below w.heap.size w W := by rw [hW]; exact ((Below.refl _ _).alloc (Nat.le_refl _) _).alloc (by simp) _
  have HW := Lib.hid hW
  clear hW
  go_enter Try.func11, Try.ntmps11
  go_wp2_with (first
    | (go_at_call 29; rw [← HW.out]; (with_reducible refine (fits_any _ _ _).mono ?_); rintro e w2 ⟨rfl, hw⟩; subst w2; rw [hf])
    | (go_at_call 30; (with_reducible refine (at_any s hs _).mono ?_); rintro e w3 ⟨rfl, hb1⟩; have hbd := build70 s; replace b0 := b0.below hb1 b0.lt; replace b1 := b1.below hb1 b1.lt; have hlt3 : w.heap.size + 1 < w3.heap.size := b1.lt; replace hB := bnext hB hb1; clear hb1)
    | ((with_reducible refine wpList_store_blk rfl 70 (.tmp 5) (.tmp 15) rfl w3.heap.size 0 4 (enc s (.slice none 0 0)) rfl rfl (Blk.new' rfl) row70 ?_ ?_ (enc_one _) ?_); (rfl); (exact Nat.le_refl 4); intro w4 h4 o4; rw [enc_all _ _ rfl] at h4; replace b0 := (b0.alloc _).only o4 (by have := b0.lt; omega); replace b1 := (b1.alloc _).only o4 (by have := b1.lt; omega); replace hB := below_only (hB.alloc hB.size _) o4 hB.size))
  have e0 : uK s 0 = Z3 := rfl
  have e1 : zK s 0 = Z3 := rfl
  rw [← e0] at b0
  rw [← e1] at b1
  have hsz := h4.lt
  have hn := World.ownsRow_nil w4 (w3.heap.size + 1) 5 1
  have hb0 := b0.lt
  clear e0 e1 o4 z1 hbd
  generalize w3.heap.size = bx at *
  go_loopw [16] (fun t wr => ∃ (k : Nat) (v : Value), k ≤ 3 ∧ t = .int .i64 k ∧ Blk wr w.heap.size (bytesV (uK s k)) 25 ∧ Blk wr (w.heap.size + 1) (bytesV (zK s k)) 25 ∧ Blk wr bx (enc (stt s ((tU s).take k)) v) 70 ∧ wr.ownsRow (bx + 1) 5 1 v (par s ((tU s).take k)).length ((par s ((tU s).take k)).map B) ∧ Below w.heap.size w wr ∧ bx + 1 ≤ wr.heap.size) (fun t _ => 3 - (intOf t).toNat)
  case atStart => exact ⟨0, _, by omega, rfl, b0, b1, h4, hn, hB, hsz⟩
  case round =>
    clear b0 b1 h4 hn hB hsz hb0
    obtain ⟨k, v, hk, rfl, b0, b1, hE, hown, hB, hsz⟩ := hrel
    by_cases hlt : k < 3
    · have hst := stt_lt s hs ((tU s).take k)
      have hub := ub_lt (stt s ((tU s).take k))
      have hU := uK_set s k hlt
      have hZ := zK_set s k hlt
      have hN := st_next s k hlt
      have hlu := uK_length s k hk
      have hlz := zK_length s k hk
      have hP : par s ((tU s).take (k + 1)) = par s ((tU s).take k) ++ [UInt8.ofNat (pr (stt s ((tU s).take k)) (ub (stt s ((tU s).take k))))] := by rw [par_take _ _ _ (by rw [tU_length]; exact hlt), (tU_gd s k hlt).2]
      have hml : (par s ((tU s).take k)).length + 1 ≤ 100000 := by rw [par_length]; simp [tU_length]; omega
      obtain ⟨q, hq⟩ : ∃ q, q = stt s ((tU s).take k) := ⟨_, rfl⟩
      rw [← hq] at hE hst hub hU hZ hN hP
      obtain ⟨u, hu⟩ : ∃ u, u = ub q := ⟨_, rfl⟩
      rw [← hu] at hub hU hZ hN hP
      obtain ⟨m, hm⟩ : ∃ m, m = par s ((tU s).take k) := ⟨_, rfl⟩
      rw [← hm] at hown hP hml
      obtain ⟨p, hp⟩ : ∃ p, p = pr q u := ⟨_, rfl⟩
      have hp2 := pr_lt q u
      rw [← hp] at hZ hP hp2
      have HU := Lib.hid hU
      have HZ := Lib.hid hZ
      have HN := Lib.hid hN
      have HP := Lib.hid hP
      have Hu := Lib.hid hu
      have Hp := Lib.hid hp
      clear hU hZ hN hP hq hu hm hp
      have k1 : IntKind.u8.wrap (p : Int) = (p : Int) := wrap_u8 p (by omega)
      have k2 : IntKind.u8.wrap (u : Int) = (u : Int) := wrap_u8 u (by omega)
      go_wp2_with (first
        | ((with_reducible refine wpList_load_blk rfl 64 (.tmp 19) rfl bx 0 3 rfl hE row64 ?_ (rg q) ?_ ?_); (exact Nat.le_of_ble_eq_true rfl); (exact enc_rg _ _))
        | (go_at_call 33; (with_reducible refine (ending_any q hst _).mono ?_); rintro e w2 ⟨rfl, hb1⟩; rw [← Hu.out]; replace b0 := b0.below hb1 b0.lt; replace b1 := b1.below hb1 b1.lt; replace hE := hE.below hb1 hE.lt; replace hown := own_below hown hb1; replace hB := bnext hB hb1; replace hsz := Nat.le_trans hsz hb1.size; clear hb1))
      go_region_held3 (fun _ => True) (exact trivial)
        (first
          | (go_at_call 34; (with_reducible refine (takes_any q u hst hub bx (bx + 1) v m _ ?_ ?_ ?_ ?_ hml).mono ?_); (exact Nat.lt_succ_self _); (exact hsz); (exact hE.drew); (exact hown.drew); rintro e w5 ⟨rfl, v5, hE5, hown5, hbut⟩; rw [← Hp.out]; have b05 := b0.drew.but hbut (by omega) (by omega); have b15 := b1.drew.but hbut (by omega) (by omega); have c0 := b05.gd k (by omega); have c1 := b15.gd k (by omega); have f0 := b05.frozen k; have f1 := b15.frozen k))
      go_wp2
      have r0 := (b05.set k (B (UInt8.ofNat u))).set_other (p := ⟨w.heap.size + 1, k, none⟩) (by simp) (B (UInt8.ofNat p))
      have r1 := (b15.set_other (p := ⟨w.heap.size, k, none⟩) (by simp) (B (UInt8.ofNat u))).set k (B (UInt8.ofNat p))
      rw [bytesV_set, HU.out, B_of u (by omega), B_of p (by omega)] at r0
      rw [bytesV_set, HZ.out, B_of u (by omega), B_of p (by omega)] at r1
      have hs5 := hbut.size
      refine ⟨⟨k + 1, v5, by omega, by go_num, r0, r1, ?_, ?_, ?_, ?_⟩, by simp [intOf]; omega⟩
      · rw [HN.out]; exact (hE5.set_other (by simp; omega) _).set_other (by simp; omega) _
      · rw [HP.out, Hp.out]; exact own_only_lt (own_only_lt hown5 (Only.setCell (b := w.heap.size) _ _ _) (by omega)) (Only.setCell (b := w.heap.size + 1) _ _ _) (by omega)
      · exact ((below_but hB.drew hbut (by omega) (by omega)).setCell (Nat.le_refl _) _).setCell (by simp) _
      · have : w2.heap.size ≤ w5.heap.size := hs5
        simp; omega
    · obtain rfl : k = 3 := by omega
      have eu : uK s 3 = tU s := by unfold uK; rw [List.take_of_length_le (by rw [tU_length]; exact Nat.le_refl _)]; simp
      have ez : zK s 3 = tZ s := by unfold zK tZ; rw [List.take_of_length_le (by rw [tU_length]; exact Nat.le_refl _)]; simp
      rw [eu] at b0
      rw [ez] at b1
      obtain ⟨x0, x1, x2, hx⟩ := three (tU s) (tU_length s)
      obtain ⟨y0, y1, y2, hy⟩ := three (tZ s) (tZ_length s)
      have c0 : wr.cell? ⟨w.heap.size, 0, none⟩ = some (B x0) := by rw [b0.cell, hx]; rfl
      have c1 : wr.cell? ⟨w.heap.size, 1, none⟩ = some (B x1) := by rw [b0.cell, hx]; rfl
      have c2 : wr.cell? ⟨w.heap.size, 2, none⟩ = some (B x2) := by rw [b0.cell, hx]; rfl
      have d0 : wr.cell? ⟨w.heap.size + 1, 0, none⟩ = some (B y0) := by rw [b1.cell, hy]; rfl
      have d1 : wr.cell? ⟨w.heap.size + 1, 1, none⟩ = some (B y1) := by rw [b1.cell, hy]; rfl
      have d2 : wr.cell? ⟨w.heap.size + 1, 2, none⟩ = some (B y2) := by rw [b1.cell, hy]; rfl
      have f0 := b0.frozen 0
      have f1 := b0.frozen 1
      have f2 := b0.frozen 2
      have g0 := b1.frozen 0
      have g1 := b1.frozen 1
      have g2 := b1.frozen 2
      rw [hx] at b0
      rw [hy] at b1
      unfold B at c0 c1 c2 d0 d1 d2
      go_wp2_with fail
      go_region
      go_wp2
      have r0 := Blk.drew <| ((put3 b0).set_other (p := ⟨w.heap.size + 1, 0, none⟩) (by simp) (.int .u8 y0.toNat)).set_other (p := ⟨w.heap.size + 1, 1, none⟩) (by simp) (.int .u8 y1.toNat) |>.set_other (p := ⟨w.heap.size + 1, 2, none⟩) (by simp) (.int .u8 y2.toNat)
      have r1 := Blk.drew <| put3 (((b1.set_other (p := ⟨w.heap.size, 0, none⟩) (by simp) (.int .u8 x0.toNat)).set_other (p := ⟨w.heap.size, 1, none⟩) (by simp) (.int .u8 x1.toNat)).set_other (p := ⟨w.heap.size, 2, none⟩) (by simp) (.int .u8 x2.toNat))
      refine bodyPost_ret (results_blk2_tmp rfl _ _ _ _ (bytesV [x0, x1, x2]) (bytesV [y0, y1, y2]) 25 3 _ rfl rfl rfl r0 r1 row25 rfl rfl) rfl ?_
      rw [hx, hy]
      exact ⟨rfl, ((((((hB.setCell (Nat.le_refl _) _).setCell (Nat.le_refl _) _).setCell (Nat.le_refl _) _).setCell (Nat.le_succ _) _).setCell (Nat.le_succ _) _).setCell (Nat.le_succ _) _).drew⟩
end Go.Proofs.Ytkcccoialmineaa
