/-
  A transmitting process, walks: a transmission.
-/
import Derived.Test.YthbpmofabcilhaaHarE
import Derived.Deep.DrawnRows
set_option linter.unusedSimpArgs false
set_option linter.unusedVariables false
namespace Go.Proofs.Ythbpmofabcilhaa
open Go.RowKit
attribute [-go_sem] Instr.build
attribute [local go_sem ↓] Go.wp_at_zero Go.wp_at_succ

def trZ : Array Value := #[.slice none 0 0, .int .i64 0, .int .i64 0, .bool false]
def trV (v : Value) (n : Nat) : Array Value := #[v, .int .i64 (verF n), .int .i64 n, .bool (decide (n = 0))]
theorem zero32 : (Try.prog.info? 32).map (fun i => (i.zero, i.size)) = some (some (.agg trZ), 4) := by kernel_rfl
theorem row32 : RowTy Try.prog 32 4 := ⟨⟨_, Try.underlying32, rfl⟩, by kernel_rfl⟩
theorem build32 (A : Option Addr) (k c : Nat) (r n : Int) (x : Bool) (w : World) : (Instr.build 32 #[(0, .slice A k c), (1, .int .i64 r), (2, .int .i64 n), (3, .bool x)]).run Try.prog w = .ok (.agg #[.slice A k c, .int .i64 r, .int .i64 n, .bool x]) w := run_build w 32 _ _ (by kernel_rfl)
theorem own_form {w : World} {base : Nat} {e : TypeId} {v : Value} {n size : Nat} {xs : List Value} (h : w.ownsRow base e size v n xs) : ∃ A k c, v = .slice A k c := by
  rcases h with ⟨_, ⟨rfl, _⟩ | ⟨g, cap, cur, rfl, _⟩⟩ <;> exact ⟨_, _, _, rfl⟩
theorem own_base {w : World} {base base' : Nat} {e : TypeId} {v : Value} {n size : Nat} {xs : List Value} (h : w.ownsRow base e size v n xs) (hb : base' ≤ base) : w.ownsRow base' e size v n xs := by
  obtain ⟨h0, ⟨rfl, h1⟩ | ⟨g, cap, cur, rfl, h1, h2⟩⟩ := h
  · exact ⟨h0, .inl ⟨rfl, h1⟩⟩
  · exact ⟨h0, .inr ⟨g, cap, cur, rfl, by omega, h2⟩⟩
theorem own_ne_blk {w : World} {base : Nat} {e : TypeId} {v : Value} {n size : Nat} {xs : List Value} {b : Nat} {C : Array Value} {t : TypeId} (h : w.ownsRow base e size v n xs) (hb : Blk w b C t) (ht : e ≠ t) : ∀ g, v.ownBlock = some g → g ≠ b := by
  rintro g hg rfl
  obtain ⟨_, ⟨rfl, _⟩ | ⟨g', cap, cur, rfl, _, h2, _⟩⟩ := h
  · cases hg
  · cases hg
    unfold Blk at hb
    rw [hb] at h2
    cases h2
    exact ht rfl
theorem put4 {w : World} {b : Nat} {t : TypeId} {x0 x1 x2 x3 v0 v1 v2 v3 : Value} (h : Blk w b #[x0, x1, x2, x3] t) :
    Blk ((((w.setCell ⟨b, 0, none⟩ v0).setCell ⟨b, 1, none⟩ v1).setCell ⟨b, 2, none⟩ v2).setCell ⟨b, 3, none⟩ v3) b #[v0, v1, v2, v3] t := (((h.set 0 v0).set 1 v1).set 2 v2).set 3 v3
theorem dec_zero (n : Nat) : ((n : Int) == 0) = decide (n = 0) := by rw [Bool.eq_iff_iff]; simp

/-- A boxed pair: a slice and a number. -/
abbrev SBox (w' : World) (b : Nat) (a : Option Addr) (k cap n : Nat) : Prop := Blk w' b #[.slice a k cap, .int .i64 n] 62 ∧ w'.cell? ⟨b, 0, none⟩ = some (.slice a k cap) ∧ w'.cell? ⟨b, 1, none⟩ = some (.int .i64 n)
theorem SBox.of {w' : World} {b : Nat} {a : Option Addr} {k cap n : Nat} (h : Blk w' b #[.slice a k cap, .int .i64 n] 62) : SBox w' b a k cap n := ⟨h, h.cell 0, h.cell 1⟩
theorem SBox.below {w w' : World} {b : Nat} {a : Option Addr} {k cap n : Nat} (h : SBox w b a k cap n) (hb : Below w.heap.size w w') : SBox w' b a k cap n := SBox.of (h.1.below hb h.1.lt)
theorem SBox.sets {w : World} {b : Nat} {a : Option Addr} {k cap n : Nat} (h : SBox w b a k cap n) {v0 v1 v2 v3 : Value} :
    SBox ((((w.setCell ⟨b + 1, 0, none⟩ v0).setCell ⟨b + 1, 1, none⟩ v1).setCell ⟨b + 1, 2, none⟩ v2).setCell ⟨b + 1, 3, none⟩ v3) b a k cap n :=
  SBox.of ((((h.1.set_other (by simp) _).set_other (by simp) _).set_other (by simp) _).set_other (by simp) _)

set_option maxHeartbeats 1000000 in
theorem transmission_any (v : Value) (l : List UInt8) (n : Nat) (w : World) (hv : Bsl w v l) (hl : l.length ≤ 1000000) :
    Calls Try.prog 31 #[.agg #[v, .int .i64 n]] w fun e w' => ∃ u, e = .returned (.agg (trV u n)) ∧ w'.ownsRow w.heap.size 5 1 u l.length (l.map B) ∧ Below w.heap.size w w' := by
  have z1 : ∀ w, (zeroValue 32).run Try.prog w = .ok (.agg trZ) w := (zero_of_info zero32).1
  obtain ⟨W, hW⟩ : ∃ W, W = (w.alloc (.cells #[v, .int .i64 n] 62)).alloc (.cells trZ 32) := ⟨_, rfl⟩
  have b0 : Blk W w.heap.size #[v, .int .i64 n] 62 := by rw [hW]; exact (Blk.new' rfl).alloc _
  have b1 : Blk W (w.heap.size + 1) trZ 32 := by rw [hW]; exact Blk.new' (by simp)
  have hB : Below w.heap.size w W := by rw [hW]; exact ((Below.refl _ _).alloc (Nat.le_refl _) _).alloc (by simp) _
  have hvW := hv.below hB
  have hvc : v.cells = #[v] := by obtain ⟨a, cap, rfl, _⟩ := hv; rfl
  obtain ⟨a, cap, rfl, h1, h2, h3, h4⟩ := hvW
  have HB := Lib.hid h4
  have H3 := Lib.hid h3
  have HW := Lib.hid hW
  have hbd := build32
  have hz := dec_zero n
  have hn0 : 0 ≤ n := by omega
  clear hW hv h2 h3 h4
  go_enter Try.func31, Try.ntmps31
  go_wp2_with fail
  rw [← HW.out]
  have s0 : SBox W.drew w.heap.size a l.length cap n := ⟨b0.drew, b0.cell 0, b0.cell 1⟩
  have t0 : Blk W.drew (w.heap.size + 1) trZ 32 ∧ Below w.heap.size w W.drew := ⟨b1.drew, hB.drew⟩
  have T0 := Lib.hid t0
  clear t0 b0 b1 hB
  go_region_held3 (fun w' => Blk w' w.heap.size #[.slice a l.length cap, .int .i64 n] 62 ∧ w'.cell? ⟨w.heap.size, 0, none⟩ = some (.slice a l.length cap) ∧ w'.cell? ⟨w.heap.size, 1, none⟩ = some (.int .i64 n)) (first | assumption | exact SBox.sets (by assumption))
    (first
      | (go_at_call 29; (with_reducible refine (clone_any l a cap _ (HB.out.cells (Below.refl _ _).drew) H3.out hl).mono ?_); rintro e w1 ⟨u, rfl, hu, hb1⟩; obtain ⟨uA, uk, uc, rfl⟩ := own_form hu; have HU := Lib.hid hu; have s1 : SBox w1 w.heap.size a l.length cap n := s0.below hb1; have T1 : Hid (Blk w1 (w.heap.size + 1) trZ 32 ∧ Below w.heap.size w w1) := Lib.hid ⟨T0.out.1.below hb1 T0.out.1.lt, bnext T0.out.2 hb1⟩; have HB1 := Lib.hid hb1; clear hu hb1)
      | (go_at_call 37; (with_reducible refine (version_any _ rfl n _).mono ?_); rintro e w2 ⟨rfl, hb2⟩; have s2 : SBox w2 w.heap.size a l.length cap n := s1.below hb2; have t2 : Blk w2 (w.heap.size + 1) trZ 32 := T1.out.1.below hb2 T1.out.1.lt; have d0 : w2.cell? ⟨w.heap.size + 1, 0, none⟩ = some (.slice none 0 0) := t2.cell 0; have d1 : w2.cell? ⟨w.heap.size + 1, 1, none⟩ = some (.int .i64 0) := t2.cell 1; have d2 : w2.cell? ⟨w.heap.size + 1, 2, none⟩ = some (.int .i64 0) := t2.cell 2; have d3 : w2.cell? ⟨w.heap.size + 1, 3, none⟩ = some (.bool false) := t2.cell 3; have f0 := t2.frozen 0; have f1 := t2.frozen 1; have f2 := t2.frozen 2; have f3 := t2.frozen 3; have HB2 := Lib.hid hb2; have HT2 := Lib.hid t2; clear hb2 t2))
  clear s1 s0 s2 d0 d1 d2 d3 f0 f1 f2 f3
  go_wp2
  refine bodyPost_ret (results_blk rfl _ _ (w.heap.size + 1) (trV (.slice uA uk uc) n) 32 4 rfl (put4 HT2.out) row32 rfl) rfl ?_
  have hb2 := HB2.out
  have hB := bnext T1.out.2 hb2
  refine ⟨_, rfl, ?_, (((hB.setCell (by simp) _).setCell (by simp) _).setCell (by simp) _).setCell (by simp) _⟩
  have hu := own_below HU.out hb2
  have hsz : w.heap.size ≤ W.drew.heap.size := by have := T0.out.2.size; omega
  have hu' : w2.ownsRow (w.heap.size) 5 1 (Value.slice uA uk uc) l.length (List.map B l) := own_base hu hsz
  exact own_only hu' (Only.setCells (w.heap.size + 1) [_, _, _, _] 0 w2) (own_ne_blk hu' HT2.out (by decide))
end Go.Proofs.Ythbpmofabcilhaa
