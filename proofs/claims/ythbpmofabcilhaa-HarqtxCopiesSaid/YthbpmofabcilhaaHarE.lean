/-
  A transmitting process, walks: entering a state, dropping, copying; comparing transmissions.
-/
import Derived.Test.YthbpmofabcilhaaHarC
set_option linter.unusedSimpArgs false
set_option linter.unusedVariables false
namespace Go.Proofs.Ythbpmofabcilhaa
open Go.RowKit
attribute [-go_sem] Instr.build

theorem Only.trans {b : Nat} {w1 w2 w3 : World} (h : Only b w1 w2) (k : Only b w2 w3) : Only b w1 w3 :=
  ⟨k.os.trans h.os, k.tape.trans h.tape, k.output.trans h.output, k.size.trans h.size, fun i hi => (k.block i hi).trans (h.block i hi)⟩
theorem build62 (A : Option Addr) (k c : Nat) (n : Int) (w : World) : (Instr.build 62 #[(0, .slice A k c), (1, .int .i64 n)]).run Try.prog w = .ok (.agg #[.slice A k c, .int .i64 n]) w := run_build w 62 _ _ (by kernel_rfl)
theorem enter_any (b : Nat) (v : Value) (m : Hq) (s n : Nat) (si ni : Int) (hsi : si = s) (hni : ni = n) (A : Option Addr) (k c : Nat) (w : World) (h : Blk w b (cellsH v m) 64) :
    Calls Try.prog 28 #[.pointer (some ⟨b, 0, none⟩), .int .i64 si, .slice A k c, .int .i64 ni] w fun e w' => e = .returned (.tuple #[]) ∧ Blk w' b (cellsH (.slice A k c) { m with st := s, num := n }) 64 ∧ Only b w w' := by
  subst hsi hni
  have hbd := build62
  have c0 : w.cell? ⟨b, 0, none⟩ = some v := h.cell 0
  have c1 : w.cell? ⟨b, 1, none⟩ = some (.int .i64 m.num) := h.cell 1
  have c3 : w.cell? ⟨b, 3, none⟩ = some (.int .i64 m.st) := h.cell 3
  have f0 := h.frozen 0
  have f1 := h.frozen 1
  have f3 := h.frozen 3
  go_enter Try.func28, Try.ntmps28
  go_wp2
  go_end0
  exact ⟨rfl, ((h.set 3 _).set 0 _).set 1 _, ((Only.setCell w 3 _).trans (Only.setCell _ 0 _)).trans (Only.setCell _ 1 _)⟩
theorem rsame_eq (l : List UInt8) (u v : Value) (r k : Int) (x : Bool) (w : World) (hu : Bsl w u l) (hv : Bsl w v l) :
    Calls Try.prog 24 #[.agg #[u, .int .i64 r, .int .i64 k, .bool x], .agg #[v, .int .i64 r, .int .i64 k, .bool x]] w fun e w' => e = .returned (.bool true) ∧ Below w.heap.size w w' := by
  obtain ⟨W, hW⟩ : ∃ W, W = (w.alloc (.cells #[u, .int .i64 r, .int .i64 k, .bool x] 32)).alloc (.cells #[v, .int .i64 r, .int .i64 k, .bool x] 32) := ⟨_, rfl⟩
  have b0 : Blk W w.heap.size #[u, .int .i64 r, .int .i64 k, .bool x] 32 := by rw [hW]; exact (Blk.new' rfl).alloc _
  have b1 : Blk W (w.heap.size + 1) #[v, .int .i64 r, .int .i64 k, .bool x] 32 := by rw [hW]; exact Blk.new' (by simp)
  have hB : Below w.heap.size w W := by rw [hW]; exact ((Below.refl _ _).alloc (Nat.le_refl _) _).alloc (by simp) _
  have HU := hu.below hB
  have HV := hv.below hB
  obtain ⟨a, cap, rfl, h1, h2, h3, h4⟩ := HU
  obtain ⟨b, cap', rfl, k1, k2, k3, k4⟩ := HV
  have e1 := byt_string W 22 9 5 a cap l Try.underlying22 Try.underlying5 Try.underlying9 h3 h4
  have e2 := byt_string W 22 9 5 b cap' l Try.underlying22 Try.underlying5 Try.underlying9 k3 k4
  have h5 : ((⟨l.toArray⟩ : ByteArray).toList == (⟨l.toArray⟩ : ByteArray).toList) = true := by simp
  obtain ⟨y, hy⟩ : ∃ x : ByteArray, x = ⟨l.toArray⟩ := ⟨_, rfl⟩
  rw [← hy] at e1 e2 h5
  subst hW
  clear hy hu hv b0 b1 h2 h3 h4 k2 k3 k4
  go_enter Try.func24, Try.ntmps24
  go_wp2
  go_ret
  exact ⟨rfl, hB⟩
end Go.Proofs.Ythbpmofabcilhaa
