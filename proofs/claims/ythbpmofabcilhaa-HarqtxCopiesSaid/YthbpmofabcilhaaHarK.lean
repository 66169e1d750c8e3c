/-
  A transmitting process, walks: the contracts once more, each result under a name; the chapter's examples.
-/
import Derived.Test.YthbpmofabcilhaaHarI
import Derived.Test.YthbpmofabcilhaaHarJ
set_option linter.unusedSimpArgs false
set_option linter.unusedVariables false
namespace Go.Proofs.Ythbpmofabcilhaa
open Go.RowKit
attribute [-go_sem] Instr.build

theorem own_but {b : Nat} {w w' : World} {base : Nat} {e : TypeId} {v : Value} {n size : Nat} {xs : List Value} (h : w.ownsRow base e size v n xs) (k : But b w.heap.size w w') (hne : ∀ g, v.ownBlock = some g → g ≠ b) : w'.ownsRow base e size v n xs :=
  h.kept (row := some b) ⟨k.os, k.tape, k.output, k.size, fun i hi hn => k.block i hi (fun e => hn (by rw [e]))⟩ (by
    cases hq : v.ownBlock with
    | none => exact .inl rfl
    | some g => exact .inr (fun e => hne g hq (by simpa using e)))
theorem bsl_but {b : Nat} {w w' : World} {v : Value} {l : List UInt8} (h : Bsl w v l) (k : But b w.heap.size w w') (hne : ∀ a, v = .slice (some a) l.length a.off → False ∨ True) (hn : ∀ (a : Addr) (k c : Nat), v = .slice (some a) k c → a.block ≠ b) : Bsl w' v l := by
  obtain ⟨a, cap, rfl, h1, h2, h3, h4⟩ := h
  refine ⟨a, cap, rfl, h1, h2, h3, fun h0 => ?_⟩
  obtain ⟨c, o, rfl, hlt, hc⟩ := h4 h0
  refine ⟨c, o, rfl, by have := k.size; omega, fun i hi => ?_⟩
  have hb := k.block c hlt (hn _ _ _ rfl)
  rw [← hc i hi]
  unfold World.cell?
  rw [hb]
def H0 (n : Nat) : Hq := ⟨n, 0, [], 0, 0, 0⟩
theorem new_lit (n : Nat) (ni : Int) (hni : ni = n) (h1 : 1 ≤ n) (h2 : n ≤ 16) (w : World) :
    Calls Try.prog 10 #[.int .i64 ni] w fun e w' => e = .returned (.tuple #[.pointer (some ⟨w.heap.size, 0, none⟩), .int .i64 0]) ∧ HP w' w.heap.size (.slice none 0 0) (H0 n) ∧ Below w.heap.size w w' ∧ w.heap.size < w'.heap.size := by
  subst hni
  refine (new_ok n h1 h2 w).mono ?_
  rintro e w' ⟨rfl, rfl⟩
  exact ⟨rfl, ⟨Blk.new' rfl, World.ownsRow_nil _ _ _ _⟩, (Below.refl _ _).alloc (Nat.le_refl _) _, by simp⟩
theorem load_lit (b : Nat) (v : Value) (m : Hq) (l : List UInt8) (k : Nat) (a : Option Addr) (cap : Nat) (w : World) (m' : Hq) (er : Int) (hk : k = l.length) (h : HP w b v m) (hl0 : m.lim ≠ 0) (hb : Byt w a l) (h0 : a = none → cap = 0) (hl : l.length ≤ 1000000)
    (he : er = loadE m l) (hm : m' = loadS m l) :
    Calls Try.prog 11 #[.pointer (some ⟨b, 0, none⟩), .slice a k cap] w fun e w' => ∃ v', e = .returned (.int .i64 er) ∧ HP w' b v' m' ∧ Kept b v v' w w' := by
  subst hk he hm
  exact load_any b v m l a cap w h hl0 hb h0 hl
theorem send_lit (b : Nat) (v : Value) (m : Hq) (t : Int) (w : World) (m' : Hq) (r n : Int) (x : Bool) (hP : HP w b v m) (hl0 : m.lim ≠ 0) (ht : 0 ≤ t ∧ t < 1073741824) (hst : m.st = 1) (hlen : m.blk.length ≤ 1000000)
    (hr : r = verF m.num) (hn : n = m.num) (hx : x = decide (m.num = 0)) (hm : m' = { m with st := 2, now := nowF m t, sent := nowF m t }) :
    Calls Try.prog 12 #[.pointer (some ⟨b, 0, none⟩), .int .i64 t] w fun e w' => ∃ A k c, e = .returned (.tuple #[.agg #[.slice A k c, .int .i64 r, .int .i64 n, .bool x], .int .i64 0]) ∧ w'.ownsRow w.heap.size 5 1 (.slice A k c) m.blk.length (m.blk.map B) ∧ HP w' b v m' ∧ But b w.heap.size w w' := by
  subst hr hn hx hm
  refine (send_ok b v m t w hP hl0 ht hst hlen).mono ?_
  rintro e w' ⟨u, rfl, hu, h1, h2⟩
  obtain ⟨A, k, c, rfl⟩ := own_form hu
  exact ⟨A, k, c, rfl, hu, h1, h2.1⟩
theorem fbs_lit (b : Nat) (v : Value) (m : Hq) (t a : Int) (w : World) (m' : Hq) (hP : HP w b v m) (hl0 : m.lim ≠ 0) (ht : 0 ≤ t ∧ t < 1073741824) (ha : 0 ≤ a ∧ a ≤ 2) (hs : m.sent ≤ 1073741824 ∧ m.now ≤ 1073741824) (hst : m.st ≠ 2 ∨ (m.st = 2 ∧ nowF m t < m.sent + 4)) (hm : m' = m1F m t) :
    Calls Try.prog 15 #[.pointer (some ⟨b, 0, none⟩), .int .i64 t, .int .i64 a] w fun e w' => e = .returned (.tuple #[.int .i64 0, .int .i64 8]) ∧ HP w' b v m' ∧ But b w.heap.size w w' := by
  subst hm
  exact (fb_state b v m t a w hP hl0 ht ha.1 ha.2 hs.1 hs.2 hst).mono fun e w' ⟨h1, h2, h3⟩ => ⟨h1, h2, h3.1⟩
theorem fbp_lit (b : Nat) (v : Value) (m : Hq) (t : Int) (w : World) (m' : Hq) (hP : HP w b v m) (hl0 : m.lim ≠ 0) (ht : 0 ≤ t ∧ t < 1073741824) (hs : m.sent ≤ 1073741824 ∧ m.now ≤ 1073741824) (hst : m.st = 2 ∧ m.sent + 4 ≤ nowF m t) (hm : m' = idleF m t) :
    Calls Try.prog 15 #[.pointer (some ⟨b, 0, none⟩), .int .i64 t, .int .i64 1] w fun e w' => e = .returned (.tuple #[.int .i64 1, .int .i64 0]) ∧ HP w' b (.slice none 0 0) m' ∧ But b w.heap.size w w' := by
  subst hm
  exact (fb_pos b v m t w hP hl0 ht hs.1 hs.2 hst.1 hst.2).mono fun e w' ⟨h1, h2, h3⟩ => ⟨h1, h2, h3.1⟩
theorem fbx_lit (b : Nat) (v : Value) (m : Hq) (t a : Int) (w : World) (m' : Hq) (hP : HP w b v m) (hl0 : m.lim ≠ 0) (ht : 0 ≤ t ∧ t < 1073741824) (ha : 0 ≤ a ∧ a ≤ 2 ∧ a ≠ 1) (hs : m.sent ≤ 1073741824 ∧ m.now ≤ 1073741824) (hst : m.st = 2 ∧ m.sent + 4 ≤ nowF m t) (hn : m.num + 1 = m.lim ∧ m.lim ≤ 16) (hm : m' = idleF m t) :
    Calls Try.prog 15 #[.pointer (some ⟨b, 0, none⟩), .int .i64 t, .int .i64 a] w fun e w' => e = .returned (.tuple #[.int .i64 2, .int .i64 0]) ∧ HP w' b (.slice none 0 0) m' ∧ But b w.heap.size w w' := by
  subst hm
  exact (fb_exh b v m t w hP hl0 ht hs.1 hs.2 hst.1 hst.2 a ha.1 ha.2.1 ha.2.2 hn.1 hn.2).mono fun e w' ⟨h1, h2, h3⟩ => ⟨h1, h2, h3.1⟩
theorem fbn_lit (b : Nat) (v : Value) (m : Hq) (t a : Int) (w : World) (m' : Hq) (hP : HP w b v m) (hl0 : m.lim ≠ 0) (ht : 0 ≤ t ∧ t < 1073741824) (ha : 0 ≤ a ∧ a ≤ 2 ∧ a ≠ 1) (hs : m.sent ≤ 1073741824 ∧ m.now ≤ 1073741824) (hst : m.st = 2 ∧ m.sent + 4 ≤ nowF m t) (hn : m.num + 1 ≠ m.lim ∧ m.num ≤ 16) (hm : m' = { m1F m t with st := 1, num := m.num + 1 }) :
    Calls Try.prog 15 #[.pointer (some ⟨b, 0, none⟩), .int .i64 t, .int .i64 a] w fun e w' => e = .returned (.tuple #[.int .i64 0, .int .i64 0]) ∧ HP w' b v m' ∧ But b w.heap.size w w' := by
  subst hm
  exact (fb_next b v m t w hP hl0 ht hs.1 hs.2 hst.1 hst.2 a ha.1 ha.2.1 ha.2.2 hn.1 hn.2).mono fun e w' ⟨h1, h2, h3⟩ => ⟨h1, h2, h3.1⟩
theorem z32 (w : World) : (zeroValue 32).run Try.prog w = .ok (.agg #[.slice none 0 0, .int .i64 0, .int .i64 0, .bool false]) w := (zero_of_info zero32).1 w
theorem build32a (A : Option Addr) (k c : Nat) (w : World) : (Instr.build 32 #[(0, .slice A k c), (3, .bool true)]).run Try.prog w = .ok (.agg #[.slice A k c, .int .i64 0, .int .i64 0, .bool true]) w := run_build w 32 _ _ (by kernel_rfl)
theorem build32b (A : Option Addr) (k c : Nat) (w : World) : (Instr.build 32 #[(0, .slice A k c), (1, .int .i64 2), (2, .int .i64 1)]).run Try.prog w = .ok (.agg #[.slice A k c, .int .i64 2, .int .i64 1, .bool false]) w := run_build w 32 _ _ (by kernel_rfl)
end Go.Proofs.Ythbpmofabcilhaa
