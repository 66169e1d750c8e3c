/-
  Counter mode: Own and Same of the third reference.
-/
import Derived.Test.YtdgmahgidmjniaaCtrD
import Derived.Test.YtdgmahgidmjniaaAes1
namespace Go.Proofs.Ytdgmahgidmjniaa
open Go.RowKit
attribute [-go_sem] Instr.build

theorem ownl_any (l : List UInt8) (a : Option Addr) (cap : Nat) (w : World) (hb : Byt w a l) (h0 : a = none → cap = 0) (hl : l.length ≤ 1000000) :
    Calls Try.prog 47 #[.slice a l.length cap] w fun e w' => ∃ v, e = .returned v ∧ w'.ownsRow w.heap.size 5 1 v l.length (l.map B) ∧ Below w.heap.size w w' := by
  obtain ⟨i0, hi, hz0, hz1, hz2⟩ := info_parts info5
  have HB := Lib.hid hb
  have H0 := Lib.hid h0
  clear hb h0
  go_enter Try.func47, Try.ntmps47
  go_wp2_with (at_builtin; refine wpList_append_bytes rfl _ _ 37 rfl w.heap.size 5 i0 Try.underlying37 hi hz0 hz1 hz2 _ [] rfl (World.ownsRow_nil _ _ _ _) a l cap rfl H0.out HB.out ?_ ?_ ?_; (simp; omega); (exact Nat.le_refl _); intro v' w1 hown hg)
  go_ret
  exact ⟨v', rfl, by simpa using hown, (Below.refl _ _).grown hg (Nat.le_refl _) (fun k hk => nomatch hk)⟩

theorem bytes_ne (x y : UInt8) : ((x.toNat : Int) != (y.toNat : Int)) = !decide (x = y) := by
  by_cases h : x = y
  · subst h; simp
  · have : x.toNat ≠ y.toNat := fun e => h (UInt8.toNat_inj.1 e)
    simp [h]
    omega
set_option maxRecDepth 100000 in
set_option maxHeartbeats 400000 in
theorem bsame_any (l m : List UInt8) (v u : Value) (w : World) (hv : Bsl w v l) (hu : Bsl w u m) (hl : l.length ≤ 1000000) :
    Calls Try.prog 44 #[v, u] w fun e w' => e = .returned (.bool (decide (l = m))) ∧ Below w.heap.size w w' := by
  obtain ⟨a, cap, rfl, h1, h2, h3, h4⟩ := hv
  obtain ⟨b, cap', rfl, k1, k2, k3, k4⟩ := hu
  by_cases hlen : l.length = m.length
  · have hne : ((l.length : Int) != (m.length : Int)) = false := by rw [hlen]; simp
    have hlm : m.length ≤ l.length := by omega
    have HL := Lib.hid hlen
    clear hlen h2 h3 k2 k3
    go_enter Try.func44, Try.ntmps44
    go_wp2
    go_loopw [5] (fun t wr => ∃ k : Nat, k ≤ l.length ∧ t = .int .i64 k ∧ (∀ i, i < k → gd l i = gd m i) ∧ Below w.heap.size w wr) (fun t _ => l.length - (intOf t).toNat)
    case atStart => exact ⟨0, by omega, rfl, fun i hi => absurd hi (by omega), Below.refl _ _⟩
    case round =>
      obtain ⟨k, hk, rfl, hp, hC⟩ := hrel
      have HP := Lib.hid hp
      clear hp
      by_cases hlt : k < l.length
      · obtain ⟨b8, o8, rfl, hbl8, hc8⟩ := h4 (by omega)
        obtain ⟨b10, o10, rfl, hbl10, hc10⟩ := k4 (by have := HL.out; omega)
        have c0 := (hC.cell (p := ⟨b8, o8 + k, none⟩) hbl8).trans (hc8 k hlt)
        have c1 := (hC.cell (p := ⟨b10, o10 + k, none⟩) hbl10).trans (hc10 k (by have := HL.out; omega))
        have hn := bytes_ne (gd l k) (gd m k)
        have hkm : k < m.length := by have := HL.out; omega
        clear hc8 hc10
        by_cases he : gd l k = gd m k
        · rw [decide_eq_true he, Bool.not_true] at hn
          have HE := Lib.hid he
          obtain ⟨X, hX⟩ : ∃ X : Int, X = ((gd l k).toNat : Int) := ⟨_, rfl⟩
          obtain ⟨Y, hY⟩ : ∃ X : Int, X = ((gd m k).toNat : Int) := ⟨_, rfl⟩
          rw [← hX] at c0 hn
          rw [← hY] at c1 hn
          clear hX hY he
          go_wp2_with fail
          go_still (by kernel_rfl)
          change Exit.then _ _ _ _ wr.drew
          go_wp2
          refine ⟨⟨k + 1, by omega, by go_num, fun i hi => ?_, hC.drew⟩, by simp [intOf]; omega⟩
          rcases Nat.lt_succ_iff_lt_or_eq.1 hi with h | rfl
          · exact HP.out i h
          · exact HE.out
        · rw [decide_eq_false he, Bool.not_false] at hn
          have HE := Lib.hid he
          obtain ⟨X, hX⟩ : ∃ X : Int, X = ((gd l k).toNat : Int) := ⟨_, rfl⟩
          obtain ⟨Y, hY⟩ : ∃ X : Int, X = ((gd m k).toNat : Int) := ⟨_, rfl⟩
          rw [← hX] at c0 hn
          rw [← hY] at c1 hn
          clear hX hY he
          go_wp2_with fail
          go_still (by kernel_rfl)
          change Exit.then _ _ _ _ wr.drew
          go_wp2
          go_ret
          rw [decide_eq_false (fun e => HE.out (by rw [e]))]
          exact ⟨rfl, hC.drew⟩
      · obtain rfl : k = l.length := by omega
        go_wp2
        go_ret
        rw [decide_eq_true (ext_gd HL.out HP.out)]
        exact ⟨rfl, hC⟩
  · have hne : ((l.length : Int) != (m.length : Int)) = true := by simp; omega
    have HL := Lib.hid hlen
    clear hlen h2 h3 h4 k2 k3 k4
    go_enter Try.func44, Try.ntmps44
    go_wp2
    go_ret
    rw [decide_eq_false (fun e => HL.out (by rw [e]))]
    exact ⟨rfl, Below.refl _ _⟩

end Go.Proofs.Ytdgmahgidmjniaa
