/-
  The laws' walks: no scheduler, the zero value.
-/
import Derived.Test.YtdnpbemkobhlcaaFaiK
set_option linter.unusedSimpArgs false
set_option linter.unusedVariables false
namespace Go.Proofs.Ytdnpbemkobhlcaa
open Go.RowKit
attribute [-go_sem] Instr.build

theorem zero38 : (Try.prog.info? 38).map (fun i => (i.zero, i.size)) = some (some (.agg #[.slice none 0 0]), 1) := by kernel_rfl
set_option maxHeartbeats 2000000 in
set_option maxRecDepth 100000 in
theorem walk_FairNil (user : Int) (_hu : (Lit.int .i64 user).wf = true) (bits : Int) (_hb : (Lit.int .i64 bits).wf = true) (v : Value) (xs : List Int) (w : World) (_h : Isl w v xs) :
    Calls Try.prog 4 #[.int .i64 user, .int .i64 bits, v] w fun e w' => e = .returned (.bool true) ∧ Below w.heap.size w w' := by
  have hk := known_all
  have z1 : ∀ w, (zeroValue 38).run Try.prog w = .ok (.agg #[.slice none 0 0]) w := (zero_of_info zero38).1
  have hbd : ∀ w, (Instr.build 38 #[]).run Try.prog w = .ok (.agg #[.slice none 0 0]) w := fun w => run_build w 38 _ _ (by kernel_rfl)
  clear _h
  go_enter Try.func4, Try.ntmps4
  go_wp2
  obtain ⟨W, hW⟩ : ∃ W, W = (w.alloc (.cells #[.slice none 0 0] 38)).alloc (.cells #[.pointer none, .pointer (some ⟨w.heap.size, 0, none⟩)] 24) := ⟨_, rfl⟩
  have hB : Below w.heap.size w W := by rw [hW]; exact below_new (below_new (Below.refl _ _) _) _
  have b0 : Blk W w.heap.size #[.slice none 0 0] 38 := by rw [hW]; exact (Blk.new' rfl).alloc _
  have b1 : Blk W (w.heap.size + 1) #[.pointer none, .pointer (some ⟨w.heap.size, 0, none⟩)] 24 := by rw [hW]; exact Blk.new' (by simp)
  rw [← hW]
  clear hW
  have n0 : Noone W (.pointer none) := .inl rfl
  have n1 : Noone W (.pointer (some ⟨w.heap.size, 0, none⟩)) := .inr ⟨_, rfl, b0⟩
  have c0 := b1.cell 0
  have c1 := b1.cell 1
  simp only [List.getElem?_toArray, List.getElem?_cons_zero, List.getElem?_cons_succ] at c0 c1
  have HB := Lib.hid hB
  have HN0 := Lib.hid n0
  have HN1 := Lib.hid n1
  clear hB n0 n1 b0 b1 hbd z1
  have p0 := fun a => pick_none (.pointer none) a W HN0.out
  have o0 := fun a => forder_none (.pointer none) a W HN0.out
  have t0 := fun a => turn_none (.pointer none) a W HN0.out
  have s0 := fun u => service_none (.pointer none) u W HN0.out
  have v0 := fun u b => serve_none (.pointer none) u b W HN0.out
  have u0 := users_none (.pointer none) W HN0.out
  have x0 := copy_none (.pointer none) W HN0.out
  have p1 := fun a => pick_none (.pointer (some ⟨w.heap.size, 0, none⟩)) a W HN1.out
  have o1 := fun a => forder_none (.pointer (some ⟨w.heap.size, 0, none⟩)) a W HN1.out
  have t1 := fun a => turn_none (.pointer (some ⟨w.heap.size, 0, none⟩)) a W HN1.out
  have s1 := fun u => service_none (.pointer (some ⟨w.heap.size, 0, none⟩)) u W HN1.out
  have v1 := fun u b => serve_none (.pointer (some ⟨w.heap.size, 0, none⟩)) u b W HN1.out
  have u1 := users_none (.pointer (some ⟨w.heap.size, 0, none⟩)) W HN1.out
  have x1 := copy_none (.pointer (some ⟨w.heap.size, 0, none⟩)) W HN1.out
  go_loopw [23] (fun t wr => ∃ k : Nat, k ≤ 2 ∧ t = .int .i64 k ∧ wr = W) (fun t _ => 2 - (intOf t).toNat)
  case atStart => exact ⟨0, by omega, rfl, rfl⟩
  case round =>
    obtain ⟨k, hk2, rfl, hwr⟩ := hrel
    replace hwr := hwr.symm
    subst hwr
    have hc : k = 0 ∨ k = 1 ∨ k = 2 := by omega
    rcases hc with rfl | rfl | rfl
    · go_wp2_with (first
        | (go_at_call 22; (with_reducible refine (p0 _).mono ?_); rintro e w' ⟨rfl, hw⟩; rw [hw]; clear hw)
        | (go_at_call 23; (with_reducible refine (o0 _).mono ?_); rintro e w' ⟨rfl, hw⟩; rw [hw]; clear hw)
        | (go_at_call 24; (with_reducible refine (t0 _).mono ?_); rintro e w' ⟨rfl, hw⟩; rw [hw]; clear hw)
        | (go_at_call 25; (with_reducible refine (s0 _).mono ?_); rintro e w' ⟨rfl, hw⟩; rw [hw]; clear hw)
        | (go_at_call 26; (with_reducible refine (v0 _ _).mono ?_); rintro e w' ⟨rfl, hw⟩; rw [hw]; clear hw)
        | (go_at_call 27; (with_reducible refine u0.mono ?_); rintro e w' ⟨rfl, hw⟩; rw [hw]; clear hw)
        | (go_at_call 20; (with_reducible refine x0.mono ?_); rintro e w' ⟨rfl, hw⟩; rw [hw]; clear hw))
      exact ⟨⟨1, by omega, rfl, trivial⟩, by decide⟩
    · go_wp2_with (first
        | (go_at_call 22; (with_reducible refine (p1 _).mono ?_); rintro e w' ⟨rfl, hw⟩; rw [hw]; clear hw)
        | (go_at_call 23; (with_reducible refine (o1 _).mono ?_); rintro e w' ⟨rfl, hw⟩; rw [hw]; clear hw)
        | (go_at_call 24; (with_reducible refine (t1 _).mono ?_); rintro e w' ⟨rfl, hw⟩; rw [hw]; clear hw)
        | (go_at_call 25; (with_reducible refine (s1 _).mono ?_); rintro e w' ⟨rfl, hw⟩; rw [hw]; clear hw)
        | (go_at_call 26; (with_reducible refine (v1 _ _).mono ?_); rintro e w' ⟨rfl, hw⟩; rw [hw]; clear hw)
        | (go_at_call 27; (with_reducible refine u1.mono ?_); rintro e w' ⟨rfl, hw⟩; rw [hw]; clear hw)
        | (go_at_call 20; (with_reducible refine x1.mono ?_); rintro e w' ⟨rfl, hw⟩; rw [hw]; clear hw))
      exact ⟨⟨2, by omega, rfl, trivial⟩, by decide⟩
    · go_wp2_with (go_at_call 16; (with_reducible refine (hk _).mono ?_); rintro e w' ⟨rfl, hw⟩)
      go_ret
      exact ⟨rfl, bnext HB.out hw⟩
end Go.Proofs.Ytdnpbemkobhlcaa
