/-
  A transmitting process, walks: Drop, Copy.
-/
import Derived.Test.YthbpmofabcilhaaHarG
set_option linter.unusedSimpArgs false
set_option linter.unusedVariables false
namespace Go.Proofs.Ythbpmofabcilhaa
open Go.RowKit
attribute [-go_sem] Instr.build

def dropF (m : Hq) : Hq := { lim := m.lim, st := 0, blk := [], num := 0, now := m.now, sent := m.sent }
theorem drop_idle (b : Nat) (v : Value) (m : Hq) (w : World) (hP : HP w b v m) (hl0 : m.lim ≠ 0) (hst : m.st = 0) :
    Calls Try.prog 22 #[.pointer (some ⟨b, 0, none⟩)] w fun e w' => e = .returned (.tuple #[.slice none 0 0, .int .i64 8]) ∧ w' = w := by
  have hd : decide (m.lim = 0) = false := by simpa using hl0
  have c3 : w.cell? ⟨b, 3, none⟩ = some (.int .i64 m.st) := hP.1.cell 3
  have hx : ((m.st : Int) == 0) = true := by rw [hst]; rfl
  clear hst
  go_enter Try.func22, Try.ntmps22
  go_wp2_with (go_at_call 25; (with_reducible refine (none_any b v m _ hP.1).mono ?_); rintro e w' ⟨rfl, hw⟩; subst w'; rw [hd])
  go_ret2
  exact ⟨rfl, rfl⟩
theorem drop_ok (b : Nat) (v : Value) (m : Hq) (w : World) (hP : HP w b v m) (hl0 : m.lim ≠ 0) (hst : m.st ≠ 0) :
    Calls Try.prog 22 #[.pointer (some ⟨b, 0, none⟩)] w fun e w' => e = .returned (.tuple #[v, .int .i64 0]) ∧ HP w' b (.slice none 0 0) (dropF m) ∧ Kept b v (.slice none 0 0) w w' ∧ Bsl w' v m.blk := by
  have hd : decide (m.lim = 0) = false := by simpa using hl0
  have c3 : w.cell? ⟨b, 3, none⟩ = some (.int .i64 m.st) := hP.1.cell 3
  have c0 : w.cell? ⟨b, 0, none⟩ = some v := hP.1.cell 0
  have hx : ((m.st : Int) == 0) = false := by simp; omega
  clear hst
  go_enter Try.func22, Try.ntmps22
  go_wp2_with (first
    | (go_at_call 25; (with_reducible refine (none_any b v m _ hP.1).mono ?_); rintro e w' ⟨rfl, hw⟩; subst w'; rw [hd])
    | (go_at_call 28; (with_reducible refine (enter_any b v m 0 0 _ _ ?_ ?_ none 0 0 _ hP.1).mono ?_); (rfl); (rfl); rintro e w6 ⟨rfl, hk, ho⟩; have HK := Lib.hid hk; have HO := Lib.hid ho; clear hk ho))
  go_ret2
  exact ⟨rfl, ⟨HK.out, World.ownsRow_nil _ _ _ _⟩, ⟨(But.refl _ _ _).only HO.out (.inl rfl), .inr (fun _ hg => nomatch hg)⟩, bsl_own (own_only hP.2 HO.out (own_ne_blk hP.2 hP.1 (by decide)))⟩

theorem row64 : RowTy Try.prog 64 6 := ⟨⟨_, Try.underlying64, rfl⟩, by kernel_rfl⟩
theorem zero64' : (Try.prog.info? 64).map (fun i => (i.zero, i.size)) = some (some (.agg (cellsH (.slice none 0 0) ⟨0, 0, [], 0, 0, 0⟩)), 6) := by kernel_rfl
theorem cellsH_one {v : Value} (m : Hq) (h : v.oneCell' = true) : (cellsH v m).all (·.oneCell') = true := by
  rw [Array.all_eq_true_iff_forall_mem]
  intro u hu
  simp only [cellsH, List.mem_toArray, List.mem_cons, List.not_mem_nil, or_false] at hu
  rcases hu with rfl | rfl | rfl | rfl | rfl | rfl
  · exact h
  all_goals rfl
set_option maxHeartbeats 400000 in
theorem copy_any (b : Nat) (v : Value) (m : Hq) (w : World) (hP : HP w b v m) (hl0 : m.lim ≠ 0) (hlen : m.blk.length ≤ 1000000) :
    Calls Try.prog 23 #[.pointer (some ⟨b, 0, none⟩)] w fun e w' => ∃ u, e = .returned (.pointer (some ⟨w.heap.size, 0, none⟩)) ∧ HP w' w.heap.size u m ∧ Below w.heap.size w w' := by
  have hd : decide (m.lim = 0) = false := by simpa using hl0
  have z1 : ∀ w, (zeroValue 64).run Try.prog w = .ok (.agg (cellsH (.slice none 0 0) ⟨0, 0, [], 0, 0, 0⟩)) w := (zero_of_info zero64').1
  have hB : Below w.heap.size w (w.alloc (.cells (cellsH (.slice none 0 0) ⟨0, 0, [], 0, 0, 0⟩) 64)) := (Below.refl _ _).alloc (Nat.le_refl _) _
  have b1 : Blk (w.alloc (.cells (cellsH (.slice none 0 0) ⟨0, 0, [], 0, 0, 0⟩) 64)) w.heap.size (cellsH (.slice none 0 0) ⟨0, 0, [], 0, 0, 0⟩) 64 := Blk.new' rfl
  have hlt := hP.1.lt
  have hB0 := hP.bsl
  obtain ⟨vA, cap, rfl, h1, h2, h3, h4⟩ := hB0
  have H3 := Lib.hid h3
  have H4 := Lib.hid h4
  clear h1 h2 h3 h4
  obtain ⟨C, hC⟩ : ∃ C, C = cellsH (.slice vA m.blk.length cap) m := ⟨_, rfl⟩
  have hPC : Blk w b C 64 := by rw [hC]; exact hP.1
  have hsz : C.size = 6 := by rw [hC]; rfl
  have hC1 : C.all (·.oneCell') = true := by rw [hC]; exact cellsH_one _ rfl
  have hCw : C.extract 0 (0 + 6) = C := by rw [hC]; rfl
  have HC := Lib.hid hC
  have HSZ := Lib.hid hsz
  have HCW := Lib.hid hCw
  have HC1 := Lib.hid hC1
  clear hC hsz hCw hC1
  go_enter Try.func23, Try.ntmps23
  go_wp2_with (first
    | (go_at_call 25; (with_reducible refine (none_any b _ m _ hP.1).mono ?_); rintro e w' ⟨rfl, hw⟩; subst w'; rw [hd])
    | ((with_reducible refine wpList_load_blk rfl 64 (.tmp 7) rfl b 0 6 rfl hPC row64 ?_ C ?_ ?_); (rw [HSZ.out]; exact Nat.le_refl 6); (exact HCW.out))
    | ((with_reducible refine wpList_store_blk rfl 64 (.tmp 3) (.tmp 8) rfl w.heap.size 0 6 C rfl rfl b1 row64 ?_ ?_ HC1.out ?_); (exact HSZ.out); (exact Nat.le_refl 6); intro w5 hb5 ho5; rw [splice_full _ _ (by rw [HSZ.out]; rfl), HC.out] at hb5; have hB5 := below_only hB ho5 (Nat.le_refl _); have c0 : w5.cell? ⟨b, 0, none⟩ = some (.slice vA m.blk.length cap) := (hB5.cell (p := ⟨b, 0, none⟩) hlt).trans (hP.1.cell 0); have hb5' := Lib.hid hb5; have HB5 := Lib.hid hB5; have d0 : w5.cell? ⟨w.heap.size, 0, none⟩ = some (.slice vA m.blk.length cap) := hb5.cell 0; clear ho5 hB5)
    | (go_at_call 29; (with_reducible refine (clone_any m.blk vA cap _ (H4.out.cells HB5.out) H3.out hlen).mono ?_); rintro e w6 ⟨u, rfl, hu, hb6⟩; obtain ⟨uA, uk, uc, rfl⟩ := own_form hu; have t6 := hb5'.out.below hb6 hb5'.out.lt; have e0 : w6.cell? ⟨w.heap.size, 0, none⟩ = some (.slice vA m.blk.length cap) := t6.cell 0; have f0 := t6.frozen 0; have HU := Lib.hid hu; have HB6 := Lib.hid hb6; have T6 := Lib.hid t6; clear hu hb6 t6))
  go_ret
  have hB6 := bnext HB5.out HB6.out
  refine ⟨.slice uA uk uc, rfl, ⟨T6.out.set 0 _, own_only (own_base HU.out (Nat.zero_le _)) (Only.setCell _ 0 _) (own_ne_blk HU.out T6.out (by decide))⟩, hB6.setCell (Nat.le_refl _) _⟩
end Go.Proofs.Ythbpmofabcilhaa
