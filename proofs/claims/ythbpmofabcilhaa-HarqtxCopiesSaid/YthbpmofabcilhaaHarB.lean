/-
  A transmitting process, walks: Clone, Max, Own, Valid, Same.
-/
import Derived.Test.YthbpmofabcilhaaHarA
set_option linter.unusedSimpArgs false
set_option linter.unusedVariables false
namespace Go.Proofs.Ythbpmofabcilhaa
open Go.RowKit
attribute [-go_sem] Instr.build

theorem info5 : (Try.prog.info? 5).map (fun i => (i.zero, i.size, i.bytes)) = some (some (.int .u8 0), 1, 1) := by kernel_rfl
theorem byt_none {w : World} {l : List UInt8} (h : Byt w none l) : l = [] := by
  cases l with
  | nil => rfl
  | cons x r =>
    obtain ⟨b, o, e, _⟩ := h (by simp)
    cases e
theorem clone_any (l : List UInt8) (a : Option Addr) (cap : Nat) (w : World) (hb : Byt w a l) (h0 : a = none → cap = 0) (hl : l.length ≤ 1000000) :
    Calls Try.prog 29 #[.slice a l.length cap] w fun e w' => ∃ v, e = .returned v ∧ w'.ownsRow w.heap.size 5 1 v l.length (l.map B) ∧ Below w.heap.size w w' := by
  obtain ⟨i0, hi, hz0, hz1, hz2⟩ := info_parts info5
  cases a with
  | none =>
    obtain rfl := byt_none hb
    obtain rfl := h0 rfl
    have hnil := fun w => Lib.run_eql_slice_nil (P := Try.prog) w 22 5 none 0 0 0 0 Try.underlying22
    clear hb h0
    go_enter Try.func29, Try.ntmps29
    go_wp2
    go_ret
    exact ⟨_, rfl, World.ownsRow_nil _ _ _ _, Below.refl _ _⟩
  | some ad =>
    have hb' := hb.cells (show Below w.heap.size w (w.alloc (.cells #[] 5)) from (Below.refl _ _).alloc (Nat.le_refl _) _)
    have HB := Lib.hid hb'
    have hnil := fun w => Lib.run_eql_slice_nil (P := Try.prog) w 22 5 (some ad) l.length cap 0 0 Try.underlying22
    clear hb hb' h0
    go_enter Try.func29, Try.ntmps29
    go_wp2_with (at_builtin; refine wpList_append_bytes rfl _ _ 22 rfl w.heap.size 5 i0 Try.underlying22 hi hz0 hz1 hz2 _ [] rfl (own_empty w w.heap.size (Nat.le_refl _)) (some ad) l cap rfl (fun h => nomatch h) HB.out ?_ ?_ ?_; (simp; omega); (simp); intro v' w1 hown hg)
    go_ret
    refine ⟨v', rfl, by simpa using hown, ((Below.refl _ _).alloc (Nat.le_refl _) _).grown hg (by simp) (fun k hk => ?_)⟩
    cases hk
    exact Nat.le_refl _
/-- The greatest byte. -/
def mxL (l : List UInt8) : Nat := l.foldl (fun m x => max m x.toNat) 0
theorem mxL_snoc (l : List UInt8) (x : UInt8) : mxL (l ++ [x]) = max (mxL l) x.toNat := by simp [mxL]
theorem mxL_le (l : List UInt8) : mxL l < 256 := by
  have h : ∀ (l : List UInt8) (m : Nat), m < 256 → l.foldl (fun m x => max m x.toNat) m < 256 := by
    intro l
    induction l with
    | nil => intro m h; exact h
    | cons x r ih => intro m h; exact ih _ (by have := lt256 x; show max m x.toNat < 256; omega)
  exact h l 0 (by omega)
def okb (l : List UInt8) : Bool := l.all (fun x => decide (x ≤ 1))
theorem mxL_ok (l : List UInt8) : 1 < mxL l ↔ okb l = false := by
  have h : ∀ (l : List UInt8) (m : Nat), 1 < l.foldl (fun m x => max m x.toNat) m ↔ (1 < m ∨ okb l = false) := by
    intro l
    induction l with
    | nil => intro m; simp [okb]
    | cons x r ih =>
      intro m
      rw [List.foldl_cons, ih]
      have e : okb (x :: r) = (decide (x ≤ 1) && okb r) := rfl
      rw [e, Bool.and_eq_false_iff]
      have e2 : decide (x ≤ 1) = false ↔ 1 < x.toNat := by
        rw [decide_eq_false_iff_not, UInt8.le_iff_toNat_le]
        show ¬ x.toNat ≤ 1 ↔ _
        omega
      rw [e2]
      have e3 : 1 < max m x.toNat ↔ 1 < m ∨ 1 < x.toNat := by omega
      rw [e3, or_assoc]
  have := h l 0
  simpa [mxL] using this
theorem take_one (l : List UInt8) (k : Nat) (h : k < l.length) : l.take (k + 1) = l.take k ++ [gd l k] := by
  rw [List.take_succ_eq_append_getElem h]; simp [gd, h]
theorem max_any (l : List UInt8) (a : Option Addr) (cap : Nat) (w : World) (hb : Byt w a l) (h1 : 0 < l.length) (hl : l.length ≤ 1000000) :
    Calls Try.prog 26 #[.slice a l.length cap] w fun e w' => e = .returned (.int .u8 (mxL l)) ∧ w' = w := by
  obtain ⟨b, o, rfl, hbl, hc⟩ := hb h1
  have c0 := hc 0 h1
  rw [Nat.add_zero] at c0
  have e1 : (mxL (l.take 1) : Int) = (gd l 0).toNat := by rw [take_one l 0 h1]; simp [mxL]
  have h9 := lt256 (gd l 0)
  obtain ⟨x0, hx0⟩ : ∃ x, x = (gd l 0).toNat := ⟨_, rfl⟩
  rw [← hx0] at c0 e1 h9
  have E1 := Lib.hid e1
  clear hx0 e1
  go_enter Try.func26, Try.ntmps26
  go_wp2
  go_loop [3, 4] (fun m t => ∃ k : Nat, 1 ≤ k ∧ k ≤ l.length ∧ t = .int .i64 k ∧ m = .int .u8 (mxL (l.take k))) (fun _ t => l.length - (intOf t).toNat)
  case atStart => exact ⟨1, by omega, by omega, rfl, by rw [E1.out]⟩
  case round =>
    obtain ⟨k, hk1, hk, rfl, rfl⟩ := hrel
    by_cases hlt : k < l.length
    · have ck := hc k hlt
      have hs := mxL_snoc (l.take k) (gd l k)
      rw [← take_one l k hlt] at hs
      have h8 := mxL_le (l.take k)
      have h7 := lt256 (gd l k)
      obtain ⟨x, hx⟩ : ∃ x, x = (gd l k).toNat := ⟨_, rfl⟩
      obtain ⟨y, hy⟩ : ∃ x, x = mxL (l.take k) := ⟨_, rfl⟩
      rw [← hx] at ck hs h7
      rw [← hy] at hs h8 ⊢
      have HS := Lib.hid hs
      clear hx hs hc hy
      go_wp2
      all_goals
        go_round
        case rel => exact ⟨k + 1, by omega, by omega, by go_num, by rw [HS.out]; congr 1; omega⟩
        case measure => simp [intOf]; omega
    · obtain rfl : k = l.length := by omega
      rw [List.take_length]
      go_wp2
      go_ret
      exact ⟨rfl, rfl⟩
end Go.Proofs.Ythbpmofabcilhaa
