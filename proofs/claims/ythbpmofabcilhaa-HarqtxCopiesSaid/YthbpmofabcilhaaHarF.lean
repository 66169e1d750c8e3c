/-
  A transmitting process, walks: Load.
-/
import Derived.Test.YthbpmofabcilhaaHarD
set_option linter.unusedSimpArgs false
set_option linter.unusedVariables false
namespace Go.Proofs.Ythbpmofabcilhaa
open Go.RowKit
attribute [-go_sem] Instr.build

def loadE (m : Hq) (l : List UInt8) : Nat := if l.length = 0 ∨ 131072 < l.length then 2 else if okb l = false then 3 else if m.st ≠ 0 then 8 else 0
def loadS (m : Hq) (l : List UInt8) : Hq := if loadE m l = 0 then { m with st := 1, blk := l, num := 0 } else m
/-- Nothing below the heap's size has turned but block b; the slice v' is v or a new one. -/
def Kept (b : Nat) (v v' : Value) (w w' : World) : Prop := But b w.heap.size w w' ∧ (v' = v ∨ ∀ g, v'.ownBlock = some g → w.heap.size ≤ g)
theorem Kept.refl (b : Nat) (v : Value) (w : World) : Kept b v v w w := ⟨But.refl _ _ _, .inl rfl⟩
theorem Kept.below {b : Nat} {v : Value} {w w' : World} (h : Below w.heap.size w w') : Kept b v v w w' := ⟨(But.refl _ _ _).below h (Nat.le_refl _), .inl rfl⟩
theorem HP.below {w w' : World} {b : Nat} {v : Value} {m : Hq} (h : HP w b v m) (hb : Below w.heap.size w w') : HP w' b v m := ⟨h.1.below hb h.1.lt, own_below h.2 hb⟩
theorem HP.bsl {w : World} {b : Nat} {v : Value} {m : Hq} (h : HP w b v m) : Bsl w v m.blk := bsl_own h.2
theorem loadE_ok {m : Hq} {l : List UInt8} (h : loadE m l = 0) : l.length ≠ 0 ∧ l.length ≤ 131072 ∧ okb l = true ∧ m.st = 0 := by
  unfold loadE at h
  split at h
  · cases h
  · split at h
    · cases h
    · split at h
      · cases h
      · refine ⟨by omega, by omega, by simpa using ‹¬ okb l = false›, by omega⟩

set_option maxHeartbeats 400000 in
theorem load_any (b : Nat) (v : Value) (m : Hq) (l : List UInt8) (a : Option Addr) (cap : Nat) (w : World) (h : HP w b v m) (hl0 : m.lim ≠ 0) (hb : Byt w a l) (h0 : a = none → cap = 0) (hl : l.length ≤ 1000000) :
    Calls Try.prog 11 #[.pointer (some ⟨b, 0, none⟩), .slice a l.length cap] w fun e w' => ∃ v', e = .returned (.int .i64 (loadE m l)) ∧ HP w' b v' (loadS m l) ∧ Kept b v v' w w' := by
  have hd : decide (m.lim = 0) = false := by simpa using hl0
  have H0 := Lib.hid h0
  by_cases c1 : l.length = 0
  · have e1 : loadE m l = 2 := by unfold loadE; rw [if_pos (.inl c1)]
    have e2 : loadS m l = m := by unfold loadS; rw [e1]; rfl
    have x1 : ((l.length : Int) == 0) = true := by rw [c1]; rfl
    rw [e1, e2]
    clear c1 e1 e2 h0
    go_enter Try.func11, Try.ntmps11
    go_wp2_with (go_at_call 25; (with_reducible refine (none_any b v m _ h.1).mono ?_); rintro e w' ⟨rfl, hw⟩; subst w'; rw [hd])
    go_ret
    exact ⟨v, rfl, h, Kept.refl _ _ _⟩
  · have x1 : ((l.length : Int) == 0) = false := by simp; exact fun e => c1 (by rw [e]; rfl)
    by_cases c2 : 131072 < l.length
    · have e1 : loadE m l = 2 := by unfold loadE; rw [if_pos (.inr c2)]
      have e2 : loadS m l = m := by unfold loadS; rw [e1]; rfl
      have x2 : (131072 : Int) < (l.length : Int) := by omega
      rw [e1, e2]
      clear c1 c2 e1 e2 h0
      go_enter Try.func11, Try.ntmps11
      go_wp2_with (go_at_call 25; (with_reducible refine (none_any b v m _ h.1).mono ?_); rintro e w' ⟨rfl, hw⟩; subst w'; rw [hd])
      go_ret
      exact ⟨v, rfl, h, Kept.refl _ _ _⟩
    · have x2 : (l.length : Int) ≤ 131072 := by omega
      have hpos : 0 < l.length := by omega
      by_cases c3 : okb l = false
      · have e1 : loadE m l = 3 := by unfold loadE; rw [if_neg (by omega), if_pos c3]
        have e2 : loadS m l = m := by unfold loadS; rw [e1]; rfl
        have x3 : (1 : Int) < (mxL l : Int) := by have := (mxL_ok l).2 c3; omega
        rw [e1, e2]
        clear c1 c2 c3 e1 e2 h0
        go_enter Try.func11, Try.ntmps11
        go_wp2_with (first
          | (go_at_call 25; (with_reducible refine (none_any b v m _ h.1).mono ?_); rintro e w' ⟨rfl, hw⟩; subst w'; rw [hd])
          | (go_at_call 26; (with_reducible refine (max_any l a cap _ hb hpos hl).mono ?_); rintro e w' ⟨rfl, hw⟩; subst w'))
        go_ret
        exact ⟨v, rfl, h, Kept.refl _ _ _⟩
      · have x3 : (mxL l : Int) ≤ 1 := by have := mt (mxL_ok l).1 c3; omega
        by_cases c4 : m.st = 0
        · have e1 : loadE m l = 0 := by unfold loadE; rw [if_neg (by omega), if_neg c3, if_neg (by omega)]
          have e2 : loadS m l = { m with st := 1, blk := l, num := 0 } := by unfold loadS; rw [e1]; rfl
          have hC4 := Lib.hid (show (if m.st = 0 then (0 : Int) else 8) = 0 by rw [if_pos c4])
          rw [e1, e2]
          clear c1 c2 c3 c4 e1 e2 h0
          go_enter Try.func11, Try.ntmps11
          go_wp2_with (first
            | (go_at_call 25; (with_reducible refine (none_any b v m _ h.1).mono ?_); rintro e w' ⟨rfl, hw⟩; subst w'; rw [hd])
            | (go_at_call 26; (with_reducible refine (max_any l a cap _ hb hpos hl).mono ?_); rintro e w' ⟨rfl, hw⟩; subst w')
            | (go_at_call 27; (with_reducible refine (allowed_any b v m 0 _ ?_ _ h.1).mono ?_); (rfl); rintro e w' ⟨rfl, hw⟩; subst w'; rw [hC4.out])
            | (go_at_call 29; (with_reducible refine (clone_any l a cap _ hb H0.out hl).mono ?_); rintro e w1 ⟨u, rfl, hu, hb1⟩; obtain ⟨uA, uk, uc, rfl⟩ := own_form hu; have HU := Lib.hid hu; have HB1 := Lib.hid hb1; have g1 := h.below hb1; clear hu hb1)
            | (go_at_call 28; (with_reducible refine (enter_any b v m 1 0 _ _ ?_ ?_ uA uk uc _ g1.1).mono ?_); (rfl); (rfl); rintro e w2 ⟨rfl, hk, ho⟩; have HK := Lib.hid hk; have HO := Lib.hid ho; clear hk ho))
          go_ret
          refine ⟨_, rfl, ⟨HK.out, own_only (own_base HU.out (Nat.zero_le _)) HO.out (own_ne_blk HU.out g1.1 (by decide))⟩, ((But.refl _ _ _).below HB1.out (Nat.le_refl _)).only HO.out (.inl rfl), .inr (fun g hg => (HU.out.lt g hg).1)⟩
        · have e1 : loadE m l = 8 := by unfold loadE; rw [if_neg (by omega), if_neg c3, if_pos c4]
          have e2 : loadS m l = m := by unfold loadS; rw [e1]; rfl
          have hC4 := Lib.hid (show (if m.st = 0 then (0 : Int) else 8) = 8 by rw [if_neg c4])
          rw [e1, e2]
          clear c1 c2 c3 c4 e1 e2 h0
          go_enter Try.func11, Try.ntmps11
          go_wp2_with (first
            | (go_at_call 25; (with_reducible refine (none_any b v m _ h.1).mono ?_); rintro e w' ⟨rfl, hw⟩; subst w'; rw [hd])
            | (go_at_call 26; (with_reducible refine (max_any l a cap _ hb hpos hl).mono ?_); rintro e w' ⟨rfl, hw⟩; subst w')
            | (go_at_call 27; (with_reducible refine (allowed_any b v m 0 _ ?_ _ h.1).mono ?_); (rfl); rintro e w' ⟨rfl, hw⟩; subst w'; rw [hC4.out]))
          go_ret
          exact ⟨v, rfl, h, Kept.refl _ _ _⟩
end Go.Proofs.Ythbpmofabcilhaa
