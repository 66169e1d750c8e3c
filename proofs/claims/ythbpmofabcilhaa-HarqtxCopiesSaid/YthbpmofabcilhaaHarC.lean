/-
  A transmitting process, walks: Own, Same, the redundancy version, a transmission.
-/
import Derived.Test.YthbpmofabcilhaaHarB
set_option linter.unusedSimpArgs false
set_option linter.unusedVariables false
namespace Go.Proofs.Ythbpmofabcilhaa
open Go.RowKit
attribute [-go_sem] Instr.build

theorem own_any (l : List UInt8) (a : Option Addr) (cap : Nat) (w : World) (hb : Byt w a l) (h0 : a = none → cap = 0) (hl : l.length ≤ 1000000) :
    Calls Try.prog 33 #[.slice a l.length cap] w fun e w' => ∃ v, e = .returned v ∧ w'.ownsRow w.heap.size 5 1 v l.length (l.map B) ∧ Below w.heap.size w w' := by
  obtain ⟨i0, hi, hz0, hz1, hz2⟩ := info_parts info5
  have HB := Lib.hid hb
  have H0 := Lib.hid h0
  clear hb h0
  go_enter Try.func33, Try.ntmps33
  go_wp2_with (at_builtin; refine wpList_append_bytes rfl _ _ 22 rfl w.heap.size 5 i0 Try.underlying22 hi hz0 hz1 hz2 _ [] rfl (World.ownsRow_nil _ _ _ _) a l cap rfl H0.out HB.out ?_ ?_ ?_; (simp; omega); (exact Nat.le_refl _); intro v' w1 hown hg)
  go_ret
  exact ⟨v', rfl, by simpa using hown, (Below.refl _ _).grown hg (Nat.le_refl _) (fun k hk => nomatch hk)⟩

theorem bytes_ne (x y : UInt8) : ((x.toNat : Int) != (y.toNat : Int)) = !decide (x = y) := by
  by_cases h : x = y
  · subst h; simp
  · have : x.toNat ≠ y.toNat := fun e => h (UInt8.toNat_inj.1 e)
    simp [h]
    omega
set_option maxHeartbeats 400000 in
theorem bsame_any (l m : List UInt8) (v u : Value) (w : World) (hv : Bsl w v l) (hu : Bsl w u m) (hl : l.length ≤ 1000000) :
    Calls Try.prog 13 #[v, u] w fun e w' => e = .returned (.bool (decide (l = m))) ∧ Below w.heap.size w w' := by
  obtain ⟨a, cap, rfl, h1, h2, h3, h4⟩ := hv
  obtain ⟨b, cap', rfl, k1, k2, k3, k4⟩ := hu
  by_cases hlen : l.length = m.length
  · have hne : ((l.length : Int) != (m.length : Int)) = false := by rw [hlen]; simp
    have hlm : m.length ≤ l.length := by omega
    have HL := Lib.hid hlen
    clear hlen h2 h3 k2 k3
    go_enter Try.func13, Try.ntmps13
    go_wp2
    go_loopw [5] (fun t wr => ∃ k : Nat, k ≤ l.length ∧ t = .int .i64 k ∧ (∀ i, i < k → gd l i = gd m i) ∧ Below w.heap.size w wr) (fun t _ => l.length - (intOf t).toNat)
    case atStart => exact ⟨0, by omega, rfl, fun i hi => absurd hi (by omega), Below.refl _ _⟩
    case round =>
      obtain ⟨k, hk, rfl, hp, hC⟩ := hrel
      have HP := Lib.hid hp
      clear hp
      by_cases hlt : k < l.length
      · obtain ⟨b8, o8, rfl, hbl8, hc8⟩ := h4 (by omega)
        obtain ⟨b10, o10, rfl, hbl10, hc10⟩ := k4 (by have := HL.out; omega)
        have c0 := (hC.cell (p := ⟨b8, o8 + k, none⟩) hbl8).trans (hc8 k hlt)
        have c1 := (hC.cell (p := ⟨b10, o10 + k, none⟩) hbl10).trans (hc10 k (by have := HL.out; omega))
        have hn := bytes_ne (gd l k) (gd m k)
        have hkm : k < m.length := by have := HL.out; omega
        clear hc8 hc10
        by_cases he : gd l k = gd m k
        · rw [decide_eq_true he, Bool.not_true] at hn
          have HE := Lib.hid he
          obtain ⟨X, hX⟩ : ∃ X : Int, X = ((gd l k).toNat : Int) := ⟨_, rfl⟩
          obtain ⟨Y, hY⟩ : ∃ X : Int, X = ((gd m k).toNat : Int) := ⟨_, rfl⟩
          rw [← hX] at c0 hn
          rw [← hY] at c1 hn
          clear hX hY he
          go_wp2_with fail
          go_still (by kernel_rfl)
          change Exit.then _ _ _ _ wr.drew
          go_wp2
          refine ⟨⟨k + 1, by omega, by go_num, fun i hi => ?_, hC.drew⟩, by simp [intOf]; omega⟩
          rcases Nat.lt_succ_iff_lt_or_eq.1 hi with h | rfl
          · exact HP.out i h
          · exact HE.out
        · rw [decide_eq_false he, Bool.not_false] at hn
          have HE := Lib.hid he
          obtain ⟨X, hX⟩ : ∃ X : Int, X = ((gd l k).toNat : Int) := ⟨_, rfl⟩
          obtain ⟨Y, hY⟩ : ∃ X : Int, X = ((gd m k).toNat : Int) := ⟨_, rfl⟩
          rw [← hX] at c0 hn
          rw [← hY] at c1 hn
          clear hX hY he
          go_wp2_with fail
          go_still (by kernel_rfl)
          change Exit.then _ _ _ _ wr.drew
          go_wp2
          go_ret
          rw [decide_eq_false (fun e => HE.out (by rw [e]))]
          exact ⟨rfl, hC.drew⟩
      · obtain rfl : k = l.length := by omega
        go_wp2
        go_ret
        rw [decide_eq_true (ext_gd HL.out HP.out)]
        exact ⟨rfl, hC⟩
  · have hne : ((l.length : Int) != (m.length : Int)) = true := by simp; omega
    have HL := Lib.hid hlen
    clear hlen h2 h3 h4 k2 k3 k4
    go_enter Try.func13, Try.ntmps13
    go_wp2
    go_ret
    rw [decide_eq_false (fun e => HL.out (by rw [e]))]
    exact ⟨rfl, Below.refl _ _⟩

/-- The redundancy version of a transmission number. -/
def verF (n : Nat) : Nat := if n % 4 = 0 then 0 else if n % 4 = 1 then 2 else if n % 4 = 2 then 3 else 1
theorem build83 (w : World) : (Instr.build 83 #[(0, .int .i64 0), (1, .int .i64 2), (2, .int .i64 3), (3, .int .i64 1)]).run Try.prog w = .ok (.agg #[.int .i64 0, .int .i64 2, .int .i64 3, .int .i64 1]) w := run_build w 83 _ _ (by kernel_rfl)
theorem index83 (n : Nat) (w : World) : (Instr.index 83 (.agg #[.int .i64 0, .int .i64 2, .int .i64 3, .int .i64 1]) (.int .i64 ((n : Int) % 4))).run Try.prog w = .ok (.int .i64 (verF n)) w := by
  refine run_index_agg Try.underlying83 Try.underlying3 (by kernel_rfl) _ _ _ (n % 4) (by omega) (by omega) _ ?_ w
  unfold verF
  have h : n % 4 = 0 ∨ n % 4 = 1 ∨ n % 4 = 2 ∨ n % 4 = 3 := by omega
  rcases h with h | h | h | h <;> rw [h] <;> rfl
theorem version_any (v : Value) (hv : v.cells = #[v]) (n : Nat) (w : World) :
    Calls Try.prog 37 #[.agg #[v, .int .i64 n]] w fun e w' => e = .returned (.int .i64 (verF n)) ∧ Below w.heap.size w w' := by
  have hb := build83
  have hx := index83 n
  have b0 : Blk (w.alloc (.cells #[v, .int .i64 n] 62)) w.heap.size #[v, .int .i64 n] 62 := Blk.new' rfl
  have c1 : (w.alloc (.cells #[v, .int .i64 n] 62)).cell? ⟨w.heap.size, 1, none⟩ = some (.int .i64 n) := b0.cell 1
  clear b0
  go_enter Try.func37, Try.ntmps37
  go_wp2
  go_ret
  exact ⟨rfl, (Below.refl _ _).alloc (Nat.le_refl _) _⟩
theorem rversion_any (n : Nat) (w : World) :
    Calls Try.prog 38 #[.int .i64 n] w fun e w' => e = .returned (.int .i64 (verF n)) ∧ w' = w := by
  have h : n % 4 = 0 ∨ n % 4 = 1 ∨ n % 4 = 2 ∨ n % 4 = 3 := by omega
  have hr : (n : Int) % 4 = ((n % 4 : Nat) : Int) := by omega
  rcases h with h | h | h | h
  all_goals
    have hv : verF n = verF (n % 4) := by unfold verF; rw [Nat.mod_mod]
    rw [hv]
    rw [h] at hr ⊢
    clear h hv
    go_enter Try.func38, Try.ntmps38
    go_wp2
    go_ret
    exact ⟨rfl, rfl⟩
end Go.Proofs.Ythbpmofabcilhaa
