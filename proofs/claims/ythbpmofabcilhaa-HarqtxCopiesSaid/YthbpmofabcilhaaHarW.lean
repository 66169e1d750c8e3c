/-
  The law's helpers, walks: both sides of an operation; Send, Feedback in one contract each.
-/
import Derived.Test.YthbpmofabcilhaaHarV
set_option linter.unusedSimpArgs false
set_option linter.unusedVariables false
namespace Go.Proofs.Ythbpmofabcilhaa
open Go.RowKit
attribute [-go_sem] Instr.build

theorem zero53 : (Try.prog.info? 53).map (·.size) = some 4 := by kernel_rfl
theorem own_form1 {w : World} {base : Nat} {v : Value} {l : List UInt8} (h : w.ownsRow base 5 1 v l.length (l.map B)) : ∃ A c, v = .slice A l.length c ∧ (A = none → c = 0) ∧ (∀ g o, A = some ⟨g, o, none⟩ → base ≤ g ∧ o = 0) := by
  rcases h with ⟨_, ⟨rfl, h0⟩ | ⟨g, cap, cur, rfl, hb, _⟩⟩
  · exact ⟨none, 0, by rw [h0], fun _ => rfl, fun _ _ e => nomatch e⟩
  · refine ⟨_, _, rfl, (fun e => nomatch e), fun g' o e => ?_⟩
    simp only [Option.some.injEq, Addr.mk.injEq] at e
    omega
/-- A process and the reference's, while an operation goes on: what lay below is kept but for the process's block. -/
structure DoI (w W : World) (b : Nat) (v u : Value) (m m' : Hq) : Prop where
  p : HP W b v m
  r : RP W u m'
  k : But b w.heap.size w W
section
variable {w W W' : World} {b : Nat} {v u : Value} {m m' : Hq}
theorem DoI.below (h : DoI w W b v u m m') (hb : Below W.heap.size W W') : DoI w W' b v u m m' := ⟨h.p.below hb, h.r.below hb, h.k.below hb h.k.size⟩
theorem DoI.only {g : Nat} (h : DoI w W b v u m m') (ho : Only g W W') (h1 : b ≠ g) (h2 : ∀ x, v.ownBlock = some x → x ≠ g) (h3 : ∀ x, u.ownBlock = some x → x ≠ g) (h4 : w.heap.size ≤ g) : DoI w W' b v u m m' :=
  ⟨⟨h.p.1.only ho h1, own_only h.p.2 ho h2⟩, own_only h.r ho h3, h.k.only ho (.inr h4)⟩
theorem DoI.store {g : Nat} {C : Array Value} {t : TypeId} (h : DoI w W b v u m m') (ho : Only g W W') (hg : Blk W g C t) (ht : 5 ≠ t) (h4 : w.heap.size ≤ g) (hb : b < w.heap.size) : DoI w W' b v u m m' :=
  h.only ho (by omega) (own_ne_blk h.p.2 hg ht) (own_ne_blk h.r hg ht) h4
theorem DoI.drew (h : DoI w W b v u m m') : DoI w W.drew b v u m m' := ⟨⟨h.p.1.drew, h.p.2⟩, h.r, ⟨h.k.os, h.k.tape, h.k.output, h.k.size, h.k.block⟩⟩
end
/-- Send, whatever is asked of it. -/
theorem fsend_any (b : Nat) (v : Value) (m : Hq) (t : Int) (w : World) (hP : HP w b v m) (hm : OkH m) :
    Calls Try.prog 12 #[.pointer (some ⟨b, 0, none⟩), .int .i64 t] w fun e w' => ∃ u l, e = .returned (.tuple #[.agg (sendT u m t), .int .i64 (sendE m t)]) ∧ w'.ownsRow w.heap.size 5 1 u l.length (l.map B) ∧ l = (if sendE m t = 0 then m.blk else []) ∧ HP w' b v (sendS m t) ∧ Kept b v v w w' := by
  have hl0 : m.lim ≠ 0 := by have := hm.l1; omega
  unfold sendT sendS sendE
  by_cases ht : 0 ≤ t ∧ t < 1073741824
  · by_cases hst : m.st = 1
    · rw [if_neg (not_not_intro ht), if_neg (not_not_intro hst), if_pos rfl, if_neg (not_not_intro ht), if_neg (not_not_intro hst)]
      refine (send_ok b v m t w hP hl0 ht hst (by have := hm.blk; omega)).mono ?_
      rintro e w' ⟨u, rfl, hu, h1, h2⟩
      exact ⟨u, m.blk, rfl, hu, rfl, h1, h2⟩
    · rw [if_neg (not_not_intro ht), if_pos hst, if_neg (by decide), if_neg (not_not_intro ht), if_pos hst]
      refine (send_state b v m t w hP hl0 ht hst).mono ?_
      rintro e w' ⟨rfl, h1, h2⟩
      exact ⟨.slice none 0 0, [], rfl, World.ownsRow_nil _ _ _ _, rfl, h1, h2⟩
  · rw [if_pos ht, if_neg (by decide), if_pos ht]
    refine (send_arg b v m t w hP hl0 ht).mono ?_
    rintro e w' ⟨rfl, h1, h2⟩
    exact ⟨.slice none 0 0, [], rfl, World.ownsRow_nil _ _ _ _, rfl, h1, h2⟩
/-- Feedback, whatever is asked of it. -/
theorem ffb_any (b : Nat) (v : Value) (m : Hq) (t a : Int) (w : World) (hP : HP w b v m) (hm : OkH m) :
    Calls Try.prog 15 #[.pointer (some ⟨b, 0, none⟩), .int .i64 t, .int .i64 a] w fun e w' => ∃ v', e = .returned (.tuple #[.int .i64 (fbO m t a), .int .i64 (fbE m t a)]) ∧ HP w' b v' (fbS m t a) ∧ But b w.heap.size w w' := by
  have hl0 : m.lim ≠ 0 := by have := hm.l1; omega
  have hs := hm.sent
  have hn := hm.now
  unfold fbO fbS fbE
  by_cases harg : ¬ (0 ≤ t ∧ t < 1073741824) ∨ a < 0 ∨ 2 < a
  · rw [if_pos harg, if_pos (by decide), if_pos harg]
    refine (fb_arg b v m t a w hP hl0 harg).mono ?_
    rintro e w' ⟨rfl, rfl⟩
    exact ⟨v, rfl, hP, But.refl _ _ _⟩
  · have ht : 0 ≤ t ∧ t < 1073741824 := by omega
    rw [if_neg harg, if_neg harg]
    by_cases hst : m.st ≠ 2 ∨ nowF m t < m.sent + 4
    · rw [if_pos hst, if_pos (by decide), if_pos hst]
      refine (fb_state b v m t a w hP hl0 ht (by omega) (by omega) hs hn (by omega)).mono ?_
      rintro e w' ⟨rfl, h1, h2⟩
      exact ⟨v, rfl, h1, h2.1⟩
    · rw [if_neg hst, if_neg (by decide), if_neg hst]
      by_cases ha : a = 1
      · subst ha
        rw [if_pos rfl, if_pos (.inl rfl)]
        refine (fb_pos b v m t w hP hl0 ht hs hn (by omega) (by omega)).mono ?_
        rintro e w' ⟨rfl, h1, h2⟩
        exact ⟨_, rfl, h1, h2.1⟩
      · rw [if_neg ha]
        have hnum := hm.num
        by_cases hl : m.lim ≤ m.num + 1
        · rw [if_pos hl, if_pos (.inr hl)]
          refine (fb_exh b v m t w hP hl0 ht hs hn (by omega) (by omega) a (by omega) (by omega) ha (by omega) hm.l16).mono ?_
          rintro e w' ⟨rfl, h1, h2⟩
          exact ⟨_, rfl, h1, h2.1⟩
        · rw [if_neg hl, if_neg (by omega)]
          refine (fb_next b v m t w hP hl0 ht hs hn (by omega) (by omega) a (by omega) (by omega) ha (by omega) (by have := hm.l16; omega)).mono ?_
          rintro e w' ⟨rfl, h1, h2⟩
          exact ⟨v, rfl, h1, h2.1⟩
/-- What an operation makes of the process. -/
def doS (kd t a : Int) (l : List UInt8) (m : Hq) : Hq := if kd = 0 then loadS m l else if kd = 1 then sendS m t else if kd = 2 then fbS m t a else if kd = 3 then (if m.st = 0 then m else idleR m) else m
theorem okH_load {m : Hq} (h : OkH m) (l : List UInt8) (hl : l.length ≤ 1000) : OkH (loadS m l) := by
  unfold loadS
  split
  · exact ⟨h.l1, h.l16, by show 1 ≤ 2; omega, by show 0 < m.lim; have := h.l1; omega, h.now, h.sent, hl⟩
  · exact h
theorem okH_send {m : Hq} (h : OkH m) (t : Int) : OkH (sendS m t) := by
  unfold sendS
  have hn := nowF_le m t
  split
  · exact h
  · rename_i ht
    have hn := hn (by omega) h.now
    split
    · exact ⟨h.l1, h.l16, h.st, h.num, hn, h.sent, h.blk⟩
    · exact ⟨h.l1, h.l16, Nat.le_refl 2, h.num, hn, hn, h.blk⟩
theorem okH_fb {m : Hq} (h : OkH m) (t a : Int) : OkH (fbS m t a) := by
  unfold fbS
  have hn := nowF_le m t
  split
  · exact h
  · rename_i ht
    have hn := hn (by omega) h.now
    split
    · exact ⟨h.l1, h.l16, h.st, h.num, hn, h.sent, h.blk⟩
    · split
      · exact ⟨h.l1, h.l16, Nat.zero_le _, by show 0 < m.lim; have := h.l1; omega, hn, h.sent, Nat.zero_le _⟩
      · exact ⟨h.l1, h.l16, by show 1 ≤ 2; omega, by show m.num + 1 < m.lim; omega, hn, h.sent, h.blk⟩
theorem okH_do {m : Hq} (h : OkH m) (kd t a : Int) (l : List UInt8) (hl : l.length ≤ 1000) : OkH (doS kd t a l m) := by
  unfold doS
  split
  · exact okH_load h l hl
  · split
    · exact okH_send h t
    · split
      · exact okH_fb h t a
      · split
        · split
          · exact h
          · exact ⟨h.l1, h.l16, Nat.zero_le _, by show 0 < m.lim; have := h.l1; omega, h.now, h.sent, Nat.zero_le _⟩
        · exact h
end Go.Proofs.Ythbpmofabcilhaa
