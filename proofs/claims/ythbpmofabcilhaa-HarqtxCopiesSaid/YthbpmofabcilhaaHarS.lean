/-
  The reference's process, walks: Due, idle, Load, Send, Feedback.
-/
import Derived.Test.YthbpmofabcilhaaHarL
set_option linter.unusedSimpArgs false
set_option linter.unusedVariables false
namespace Go.Proofs.Ythbpmofabcilhaa
open Go.RowKit
attribute [-go_sem] Instr.build

/-- A process of the reference: a value with its block of bits. -/
def cellsR (u : Value) (m : Hq) : Array Value := #[.int .i64 m.lim, .int .i64 m.st, u, .int .i64 m.num, .int .i64 m.now, .int .i64 m.sent]
theorem row48 : RowTy Try.prog 48 6 := ⟨⟨_, Try.underlying48, rfl⟩, by kernel_rfl⟩
theorem zero48 : (Try.prog.info? 48).map (fun i => (i.zero, i.size)) = some (some (.agg (cellsR (.slice none 0 0) ⟨0, 0, [], 0, 0, 0⟩)), 6) := by kernel_rfl
theorem cellsR_size (u : Value) (m : Hq) : (cellsR u m).size = 6 := rfl
theorem cellsR_one {u : Value} (m : Hq) (h : u.oneCell' = true) : (cellsR u m).all (·.oneCell') = true := by
  rw [Array.all_eq_true_iff_forall_mem]
  intro x hx
  simp only [cellsR, List.mem_toArray, List.mem_cons, List.not_mem_nil, or_false] at hx
  rcases hx with rfl | rfl | rfl | rfl | rfl | rfl
  · rfl
  · rfl
  · exact h
  all_goals rfl
/-- The reference's block of bits in memory. -/
def RP (w : World) (u : Value) (m : Hq) : Prop := w.ownsRow 0 5 1 u m.blk.length (m.blk.map B)
theorem RP.below {w w' : World} {u : Value} {m : Hq} (h : RP w u m) (hb : Below w.heap.size w w') : RP w' u m := own_below h hb
theorem results_blk_tmp2 {fn : Func} {p q r : Tmp} {ty : TypeId} (h : fn.results = #[.cell p ty, .tmp q, .tmp r]) (tmps : Array Value) (w : World) (b : Nat) (C : Array Value) (t : TypeId) (n : Nat) (v x : Value)
    (hp : tmps.getD p undef = .pointer (some ⟨b, 0, none⟩)) (hv : tmps.getD q undef = v) (hx : tmps.getD r undef = x) (hb : Blk w b C t) (hr : RowTy Try.prog ty n) (hn : C.size = n) : (results fn tmps).run Try.prog w = .ok (.tuple #[.agg C, v, x]) w := by
  obtain ⟨⟨d, hu, hd⟩, hi⟩ := hr
  subst hn hv hx
  have hp' : tmps[p]?.getD undef = .pointer (some ⟨b, 0, none⟩) := by simpa using hp
  simp [results, h, hp', asAddr, run_loadVar_row w b t ty C (0, 0) d hb hu (by cases d <;> first | rfl | cases hd) hi]
theorem results_blk2_tmp {fn : Func} {p q r : Tmp} {ty ty2 : TypeId} (h : fn.results = #[.cell p ty, .cell q ty2, .tmp r]) (tmps : Array Value) (w : World) (b b2 : Nat) (C C2 : Array Value) (t t2 : TypeId) (n n2 : Nat) (v : Value)
    (hp : tmps.getD p undef = .pointer (some ⟨b, 0, none⟩)) (hq : tmps.getD q undef = .pointer (some ⟨b2, 0, none⟩)) (hv : tmps.getD r undef = v) (hb : Blk w b C t) (hr : RowTy Try.prog ty n) (hn : C.size = n) (hb2 : Blk w b2 C2 t2) (hr2 : RowTy Try.prog ty2 n2) (hn2 : C2.size = n2) : (results fn tmps).run Try.prog w = .ok (.tuple #[.agg C, .agg C2, v]) w := by
  obtain ⟨⟨d, hu, hd⟩, hi⟩ := hr
  obtain ⟨⟨d2, hu2, hd2⟩, hi2⟩ := hr2
  subst hn hv hn2
  have hp' : tmps[p]?.getD undef = .pointer (some ⟨b, 0, none⟩) := by simpa using hp
  have hq' : tmps[q]?.getD undef = .pointer (some ⟨b2, 0, none⟩) := by simpa using hq
  simp [results, h, hp', hq', asAddr, run_loadVar_row w b t ty C (0, 0) d hb hu (by cases d <;> first | rfl | cases hd) hi, run_loadVar_row w b2 t2 ty2 C2 (0, 0) d2 hb2 hu2 (by cases d2 <;> first | rfl | cases hd2) hi2]
theorem rdue_any (u : Value) (m : Hq) (hs : m.sent ≤ 1073741824) (w : World) : Calls Try.prog 32 #[.agg (cellsR u m)] w fun e w' => e = .returned (.int .i64 (dueF m)) ∧ Below w.heap.size w w' := by
  have hB := below_new (Below.refl w.heap.size w) (.cells (cellsR u m) 48)
  have b0 : Blk (w.alloc (.cells (cellsR u m) 48)) w.heap.size (cellsR u m) 48 := Blk.new _ _ _
  have c1 : (w.alloc (.cells (cellsR u m) 48)).cell? ⟨w.heap.size, 1, none⟩ = some (.int .i64 m.st) := b0.cell 1
  have c5 : (w.alloc (.cells (cellsR u m) 48)).cell? ⟨w.heap.size, 5, none⟩ = some (.int .i64 m.sent) := b0.cell 5
  unfold dueF
  have hsz := cellsR_size u m
  clear b0
  generalize cellsR u m = C at *
  by_cases hst : m.st = 2
  · rw [if_pos hst]
    have hx : ((m.st : Int) != 2) = false := by rw [hst]; rfl
    replace hst := Lib.hid hst
    have hw : IntKind.i64.wrap ((m.sent : Int) + 4) = (m.sent : Int) + 4 := IntWalk.i64_in _ (by omega)
    generalize m.st = s at *
    go_enter Try.func32, Try.ntmps32
    go_wp2
    go_ret
    exact ⟨rfl, hB⟩
  · rw [if_neg hst]
    have hx : ((m.st : Int) != 2) = true := by simp; omega
    replace hst := Lib.hid hst
    generalize m.st = s at *
    go_enter Try.func32, Try.ntmps32
    go_wp2
    go_ret
    exact ⟨rfl, hB⟩
def idleR (m : Hq) : Hq := { lim := m.lim, st := 0, blk := [], num := 0, now := m.now, sent := m.sent }
theorem build48 (a b c : Nat) (w : World) : (Instr.build 48 #[(0, .int .i64 a), (4, .int .i64 b), (5, .int .i64 c)]).run Try.prog w = .ok (.agg (cellsR (.slice none 0 0) ⟨a, 0, [], 0, b, c⟩)) w := run_build w 48 _ _ (by kernel_rfl)
theorem zero48' (w : World) : (zeroValue 48).run Try.prog w = .ok (.agg (cellsR (.slice none 0 0) ⟨0, 0, [], 0, 0, 0⟩)) w := (zero_of_info zero48).1 w
theorem ridle_any (u : Value) (m : Hq) (w : World) : Calls Try.prog 39 #[.agg (cellsR u m)] w fun e w' => e = .returned (.agg (cellsR (.slice none 0 0) (idleR m))) ∧ Below w.heap.size w w' := by
  obtain ⟨Z, hZ⟩ : ∃ Z, Z = cellsR (.slice none 0 0) ⟨0, 0, [], 0, 0, 0⟩ := ⟨_, rfl⟩
  obtain ⟨R, hR⟩ : ∃ R, R = cellsR (.slice none 0 0) (idleR m) := ⟨_, rfl⟩
  have z1 := zero48'
  rw [← hZ] at z1
  have hbd := build48 m.lim m.now m.sent
  have hR' : cellsR (.slice none 0 0) ⟨m.lim, 0, [], 0, m.now, m.sent⟩ = R := hR.symm
  rw [hR'] at hbd
  rw [← hR]
  have hZs : Z.size = 6 := by rw [hZ]; rfl
  have hRs : R.size = 6 := by rw [hR]; rfl
  have hR1 : R.all (·.oneCell') = true := by rw [hR]; exact cellsR_one _ rfl
  have hB := below_new (below_new (Below.refl w.heap.size w) (.cells (cellsR u m) 48)) (.cells Z 48)
  have b0 : Blk ((w.alloc (.cells (cellsR u m) 48)).alloc (.cells Z 48)) w.heap.size (cellsR u m) 48 := (Blk.new' rfl).alloc _
  have b1 : Blk ((w.alloc (.cells (cellsR u m) 48)).alloc (.cells Z 48)) (w.heap.size + 1) Z 48 := Blk.new' (by simp)
  have c0 : ((w.alloc (.cells (cellsR u m) 48)).alloc (.cells Z 48)).cell? ⟨w.heap.size, 0, none⟩ = some (.int .i64 m.lim) := b0.cell 0
  have c4 : ((w.alloc (.cells (cellsR u m) 48)).alloc (.cells Z 48)).cell? ⟨w.heap.size, 4, none⟩ = some (.int .i64 m.now) := b0.cell 4
  have c5 : ((w.alloc (.cells (cellsR u m) 48)).alloc (.cells Z 48)).cell? ⟨w.heap.size, 5, none⟩ = some (.int .i64 m.sent) := b0.cell 5
  replace hZs := Lib.hid hZs
  replace hRs := Lib.hid hRs
  replace hR1 := Lib.hid hR1
  clear hZ hR hR' b0
  generalize cellsR u m = C at *
  go_enter Try.func39, Try.ntmps39
  go_wp2_with ((with_reducible refine wpList_store_blk rfl 48 _ _ rfl (w.heap.size + 1) 0 6 R rfl rfl b1 row48 ?_ ?_ hR1.out ?_); (exact hRs.out); (rw [hZs.out]; exact Nat.le_refl 6); intro w5 hb5 ho5; rw [splice_full _ _ (by rw [hZs.out, hRs.out])] at hb5)
  refine bodyPost_ret (results_blk rfl _ _ (w.heap.size + 1) R 48 6 rfl hb5 row48 hRs.out) rfl ?_
  exact ⟨rfl, below_only hB ho5 (by omega)⟩
end Go.Proofs.Ythbpmofabcilhaa
