/-
  Fractions, walks: the stable sort in place: blocks sorted by insertion, then merged.
-/
import Derived.Test.YtdnpbemkobhlcaaRatI
namespace Go.Proofs.Ytdnpbemkobhlcaa
open Go.RowKit
attribute [-go_sem] Instr.build

/-- A block sorted within itself, with its own indices. -/
structure Seg (p : Nat → Nat × Nat) (g : Nat → Nat) (lo hi : Nat) : Prop where
  own : ∀ i, lo ≤ i → i < hi → lo ≤ g i ∧ g i < hi
  srt : Srt (ltF p) g lo hi
theorem Seg.congr {p : Nat → Nat × Nat} {g h : Nat → Nat} {lo hi : Nat} (s : Seg p g lo hi) (e : ∀ i, lo ≤ i → i < hi → h i = g i) : Seg p h lo hi :=
  ⟨fun i h1 h2 => by rw [e i h1 h2]; exact s.own i h1 h2, s.srt.congr e⟩
/-- Blocks of bs from 0 up to a. -/
def Pre (p : Nat → Nat × Nat) (g : Nat → Nat) (bs : Nat) : Nat → Nat → Prop
  | 0, a => a = 0
  | k + 1, a => ∃ a', Pre p g bs k a' ∧ a = a' + bs ∧ Seg p g a' a
/-- Blocks of bs from a up to n, the last one perhaps shorter. -/
def Cut (p : Nat → Nat × Nat) (g : Nat → Nat) (bs n : Nat) : Nat → Nat → Prop
  | 0, a => a = n
  | k + 1, a => a < n ∧ Seg p g a (min (a + bs) n) ∧ Cut p g bs n k (min (a + bs) n)
theorem Pre.congr {p : Nat → Nat × Nat} {g h : Nat → Nat} {bs : Nat} : ∀ (k a : Nat), Pre p g bs k a → (∀ i, i < a → h i = g i) → Pre p h bs k a
  | 0, _, e, _ => e
  | k + 1, a, ⟨a', p1, p2, p3⟩, e => ⟨a', Pre.congr k a' p1 (fun i hi => e i (by omega)), p2, p3.congr (fun i _ h2 => e i h2)⟩
theorem Cut.congr {p : Nat → Nat × Nat} {g h : Nat → Nat} {bs n : Nat} : ∀ (k a : Nat), Cut p g bs n k a → (∀ i, a ≤ i → h i = g i) → Cut p h bs n k a
  | 0, _, e, _ => e
  | k + 1, a, ⟨p1, p2, p3⟩, e => ⟨p1, p2.congr (fun i h1 _ => e i h1), Cut.congr k _ p3 (fun i hi => e i (by omega))⟩
theorem pre_cut {p : Nat → Nat × Nat} {g : Nat → Nat} {bs n : Nat} (hb : 0 < bs) : ∀ (k a : Nat), Pre p g bs k a → a ≤ n → (∃ j, Cut p g bs n j a) → ∃ j, Cut p g bs n j 0
  | 0, _, e, _, h => by rw [← (show _ = 0 from e)]; exact h
  | k + 1, a, ⟨a', p1, p2, p3⟩, hn, ⟨j, hj⟩ => by
    have e : min (a' + bs) n = a := by omega
    exact pre_cut hb k a' p1 (by omega) ⟨j + 1, by omega, by rw [e]; exact p3, by rw [e]; exact hj⟩
theorem cut_all {p : Nat → Nat × Nat} {g : Nat → Nat} {bs n : Nat} (h : ∃ j, Cut p g bs n j 0) (hn : n ≤ bs) : Srt (ltF p) g 0 n := by
  obtain ⟨j, hj⟩ := h
  cases j with
  | zero => exact Srt.tiny _ _ _ (by have : 0 = n := hj; omega)
  | succ j =>
    have := hj.2.1
    rw [show min (0 + bs) n = n by omega] at this
    exact this.srt
theorem tell_asc (p : Nat → Nat × Nat) {f : Nat → Nat} {a b : Nat} (h : ∀ i j, a ≤ i → i < j → j < b → f i < f j) : Tell (clF p) (ltF p) f a b := by
  intro i j h1 h2 h3
  have hl := h i j h1 h2 h3
  have n := cmpF_neg (p (f i)) (p (f j))
  unfold clF ltF
  simp only [decide_eq_true_eq, decide_eq_false_iff_not]
  constructor
  · intro k; exact .inl k
  · intro k; omega
/-- The state of the first loop: sorted blocks up to a, indices as they were behind it. -/
structure First (p : Nat → Nat × Nat) (n k a : Nat) (g : Nat → Nat) : Prop where
  an : a ≤ n
  pre : Pre p g 20 k a
  same : Same (fun i => i) g 0 n
  rest : ∀ i, a ≤ i → g i = i
theorem First.tell {p : Nat → Nat × Nat} {n k a : Nat} {g : Nat → Nat} (h : First p n k a g) (b : Nat) : Tell (clF p) (ltF p) g a b :=
  tell_asc p fun i j h1 h2 _ => by rw [h.rest i h1, h.rest j (by omega)]; exact h2
theorem First.below {p : Nat → Nat × Nat} {n k a : Nat} {g : Nat → Nat} (h : First p n k a g) : ∀ i, i < n → g i < n := fun i hi => by
  obtain ⟨j, _, j2, e⟩ := h.same.1 i (Nat.zero_le _) hi
  rw [e]; exact j2
theorem First.seg {p : Nat → Nat × Nat} {n k a b : Nat} {g g' : Nat → Nat} (h : First p n k a g) (s : Same g g' a b) (t : Srt (ltF p) g' a b) : Seg p g' a b :=
  ⟨fun i h1 h2 => s.range a b (fun j j1 j2 => by rw [h.rest j j1]; exact ⟨j1, j2⟩) i h1 h2, t⟩
theorem First.next {p : Nat → Nat × Nat} {n k a : Nat} {g g' : Nat → Nat} (h : First p n k a g) (hb : a + 20 ≤ n) (s : Same g g' a (a + 20)) (t : Srt (ltF p) g' a (a + 20)) : First p n (k + 1) (a + 20) g' :=
  ⟨hb, ⟨a, h.pre.congr _ _ (fun i hi => s.2.2 i (.inl hi)), rfl, h.seg s t⟩, h.same.trans (s.mono (Nat.zero_le _) hb), fun i hi => by rw [s.2.2 i (.inr hi)]; exact h.rest i (by omega)⟩
/-- The state of the outer loop: blocks of bs. -/
structure Level (p : Nat → Nat × Nat) (n bs : Nat) (g : Nat → Nat) : Prop where
  pos : 0 < bs
  cut : ∃ j, Cut p g bs n j 0
  same : Same (fun i => i) g 0 n
theorem First.level {p : Nat → Nat × Nat} {n k a : Nat} {g g' : Nat → Nat} (h : First p n k a g) (hb : n < a + 20) (s : Same g g' a n) (t : Srt (ltF p) g' a n) : Level p n 20 g' := by
  refine ⟨by omega, pre_cut (by omega) k a (h.pre.congr _ _ (fun i hi => s.2.2 i (.inl hi))) h.an ?_, h.same.trans (s.mono (Nat.zero_le _) (Nat.le_refl _))⟩
  by_cases e : a = n
  · exact ⟨0, e⟩
  · have := h.an
    have e2 : min (a + 20) n = n := by omega
    exact ⟨1, by omega, by rw [e2]; exact h.seg s t, e2⟩
/-- The state of the inner loop: blocks of 2 * bs up to a, blocks of bs behind it. -/
structure Inner (p : Nat → Nat × Nat) (n bs k a : Nat) (g : Nat → Nat) : Prop where
  pos : 0 < bs
  an : a ≤ n
  pre : Pre p g (2 * bs) k a
  cut : ∃ j, Cut p g bs n j a
  same : Same (fun i => i) g 0 n
theorem Level.inner {p : Nat → Nat × Nat} {n bs : Nat} {g : Nat → Nat} (h : Level p n bs g) : Inner p n bs 0 0 g := ⟨h.pos, Nat.zero_le _, rfl, h.cut, h.same⟩
theorem Inner.below {p : Nat → Nat × Nat} {n bs k a : Nat} {g : Nat → Nat} (h : Inner p n bs k a g) : ∀ i, i < n → g i < n := fun i hi => by
  obtain ⟨j, _, j2, e⟩ := h.same.1 i (Nat.zero_le _) hi
  rw [e]; exact j2
/-- Two blocks are fit to be merged; what the merging comes to. -/
theorem Inner.two {p : Nat → Nat × Nat} {n bs k a b : Nat} {g : Nat → Nat} (h : Inner p n bs k a g) (hb : b = min (a + 2 * bs) n) (hm : a + bs < n) :
    Halves p n n g a (a + bs) b ∧ ∀ g', Same g g' a b → Srt (ltF p) g' a b → Seg p g' a b ∧ (∃ j, Cut p g' bs n j b) ∧ Pre p g' (2 * bs) k a ∧ Same (fun i => i) g' 0 n := by
  obtain ⟨j, hj⟩ := h.cut
  have hp := h.pos
  have hbl := h.below
  cases j with
  | zero => exact absurd (show a = n from hj) (by omega)
  | succ j =>
    obtain ⟨q1, q2, q3⟩ := hj
    have e1 : min (a + bs) n = a + bs := by omega
    rw [e1] at q2 q3
    cases j with
    | zero => exact absurd (show a + bs = n from q3) (by omega)
    | succ j =>
      obtain ⟨r1, r2, r3⟩ := q3
      have e2 : min (a + bs + bs) n = b := by omega
      rw [e2] at r2 r3
      refine ⟨⟨by omega, by omega, by omega, hbl, q2.srt, r2.srt, LR.of_less p (less_id g a (a + bs) b (fun i h1 h2 => (q2.own i h1 h2).2) (fun i h1 h2 => (r2.own i h1 h2).1))⟩, fun g' s t => ⟨⟨fun i h1 h2 => s.range a b (fun x x1 x2 => ?_) i h1 h2, t⟩, ⟨j, r3.congr _ _ (fun i hi => s.2.2 i (.inr hi))⟩, h.pre.congr _ _ (fun i hi => s.2.2 i (.inl hi)), h.same.trans (s.mono (Nat.zero_le _) (by omega))⟩⟩
      by_cases c : x < a + bs
      · have := q2.own x x1 c; omega
      · have := r2.own x (by omega) x2; omega
theorem Inner.next {p : Nat → Nat × Nat} {n bs k a : Nat} {g : Nat → Nat} (h : Inner p n bs k a g) (hb : a + 2 * bs ≤ n) :
    Halves p n n g a (a + bs) (a + 2 * bs) ∧ ∀ g', Same g g' a (a + 2 * bs) → Srt (ltF p) g' a (a + 2 * bs) → Inner p n bs (k + 1) (a + 2 * bs) g' := by
  have hp := h.pos
  obtain ⟨h1, h2⟩ := h.two (b := a + 2 * bs) (by omega) (by omega)
  exact ⟨h1, fun g' s t => by
    obtain ⟨t1, t2, t3, t4⟩ := h2 g' s t
    exact ⟨hp, hb, ⟨a, t3, rfl, t1⟩, t2, t4⟩⟩
theorem Inner.last {p : Nat → Nat × Nat} {n bs k a : Nat} {g : Nat → Nat} (h : Inner p n bs k a g) (hb : n < a + 2 * bs) (hm : a + bs < n) :
    Halves p n n g a (a + bs) n ∧ ∀ g', Same g g' a n → Srt (ltF p) g' a n → Level p n (bs * 2) g' := by
  have hp := h.pos
  obtain ⟨h1, h2⟩ := h.two (b := n) (by omega) hm
  exact ⟨h1, fun g' s t => by
    obtain ⟨t1, t2, t3, t4⟩ := h2 g' s t
    refine ⟨by omega, ?_, t4⟩
    rw [Nat.mul_comm]
    refine pre_cut (by omega) k a t3 h.an ⟨1, by omega, ?_, ?_⟩
    · rw [show min (a + 2 * bs) n = n by omega]; exact t1
    · show min (a + 2 * bs) n = n
      omega⟩
theorem Inner.none {p : Nat → Nat × Nat} {n bs k a : Nat} {g : Nat → Nat} (h : Inner p n bs k a g) (hm : n ≤ a + bs) : Level p n (bs * 2) g := by
  have hp := h.pos
  refine ⟨by omega, ?_, h.same⟩
  rw [Nat.mul_comm]
  refine pre_cut (by omega) k a h.pre h.an ?_
  obtain ⟨j, hj⟩ := h.cut
  cases j with
  | zero => exact ⟨0, hj⟩
  | succ j =>
    obtain ⟨q1, q2, _⟩ := hj
    have e1 : min (a + bs) n = n := by omega
    have e2 : min (a + 2 * bs) n = n := by omega
    rw [e1] at q2
    exact ⟨1, q1, by rw [e2]; exact q2, e2⟩

theorem isort_at {p : Nat → Nat × Nat} {lb : Array Value} {N r : Nat} {w0 : World} (hS : SortBy p lb N r w0) (f : Nat → Nat) (n a b : Nat) (hab : a ≤ b) (hb : b ≤ n) (hn : n ≤ 1000) (hf : ∀ i, i < n → f i < N)
    (ht : Tell (clF p) (ltF p) f a b) (A B : Int) (hA : A = a) (hB : B = b) (w : World) (hk : SortAt r n w0 f w) :
    Calls Try.prog 69 #[.slice (some ⟨r, 0, none⟩) n n, .int .i64 A, .int .i64 B, .func (.func 60) #[] lb] w fun e w' => e = .returned (.tuple #[]) ∧ ∃ g, Same f g a b ∧ Srt (ltF p) g a b ∧ SortAt r n w0 g w' := by
  subst hA hB
  exact isort_any hS f n a b hab hb hn hf ht w hk
set_option maxRecDepth 100000 in
set_option maxHeartbeats 4000000 in
theorem stable_any {p : Nat → Nat × Nat} {lb : Array Value} {r n : Nat} {w0 : World} (hS : SortBy p lb n r w0) (hn : n ≤ 1000) (w : World) (hk : SortAt r n w0 (fun i => i) w) :
    Calls Try.prog 66 #[.slice (some ⟨r, 0, none⟩) n n, .int .i64 n, .func (.func 60) #[] lb] w fun e w' => e = .returned (.tuple #[]) ∧ ∃ g, Same (fun i => i) g 0 n ∧ Srt (ltF p) g 0 n ∧ SortAt r n w0 g w' := by
  go_enter Try.func66, Try.ntmps66
  go_wp2
  go_loopw [7, 8] (fun u v wr => ∃ (k a : Nat) (g : Nat → Nat), u = .int .i64 a ∧ v = .int .i64 ((a : Int) + 20) ∧ First p n k a g ∧ SortAt r n w0 g wr) (fun u _ _ => n + 1 - (intOf u).toNat)
  case atStart => exact ⟨0, 0, fun i => i, rfl, rfl, ⟨Nat.zero_le _, rfl, Same.refl _ _ _, fun _ _ => rfl⟩, hk⟩
  case round =>
    clear hk
    obtain ⟨k, a, g, rfl, rfl, hF, hk⟩ := hrel
    have han := hF.an
    by_cases hlt : a + 20 ≤ n
    · have i1 : IntKind.i64.wrap ((a : Int) + 20 + 20) = (a : Int) + 20 + 20 := IntWalk.i64_in _ (by omega)
      go_wp2_with (go_at_call 69; (with_reducible refine (isort_at hS g n a (a + 20) (by omega) hlt hn hF.below (hF.tell _) _ _ rfl (by omega) _ hk).mono ?_); rintro _ w1 ⟨rfl, g', hs, ht, hk1⟩)
      exact ⟨⟨k + 1, a + 20, g', by go_num, by go_num, hF.next hlt hs ht, hk1⟩, by simp [intOf]; omega⟩
    · go_wp2_with (go_at_call 69; (with_reducible refine (isort_at hS g n a n han (Nat.le_refl _) hn hF.below (hF.tell _) _ _ rfl rfl _ hk).mono ?_); rintro _ w1 ⟨rfl, g', hs, ht, hk1⟩)
      have hL := hF.level (by omega) hs ht
      clear hF hk hs ht
      go_loopw [6] (fun u wr => ∃ (bs : Nat) (g : Nat → Nat), u = .int .i64 bs ∧ bs < 4000 ∧ Level p n bs g ∧ SortAt r n w0 g wr) (fun u _ => n - (intOf u).toNat)
      case atStart => exact ⟨20, g', rfl, by omega, hL, hk1⟩
      case round =>
        clear hL hk1
        obtain ⟨bs, g, rfl, hbs, hL, hk⟩ := hrel
        have hpos := hL.pos
        by_cases hlt2 : bs < n
        · have i1 : IntKind.i64.wrap (2 * (bs : Int)) = ((2 * bs : Nat) : Int) := by rw [IntWalk.i64_in _ (by omega)]; omega
          have i1' : IntKind.i64.wrap ((bs : Int) * 2) = ((bs * 2 : Nat) : Int) := by rw [IntWalk.i64_in _ (by omega)]; omega
          go_wp2
          go_loopw [7, 8] (fun u v wr => ∃ (k a : Nat) (g : Nat → Nat), u = .int .i64 a ∧ v = .int .i64 ((a + 2 * bs : Nat) : Int) ∧ Inner p n bs k a g ∧ SortAt r n w0 g wr) (fun u _ _ => n + 1 - (intOf u).toNat)
          case atStart => exact ⟨0, 0, g, rfl, by rw [Nat.zero_add, Int.natCast_mul]; rfl, hL.inner, hk⟩
          case round =>
            clear hL hk
            obtain ⟨k, a, g, rfl, rfl, hI, hk⟩ := hrel
            have han := hI.an
            have i2 : IntKind.i64.wrap ((a : Int) + bs) = ((a + bs : Nat) : Int) := by rw [IntWalk.i64_in _ (by omega)]; omega
            by_cases hlt3 : a + 2 * bs ≤ n
            · obtain ⟨hH, hnx⟩ := hI.next hlt3
              have i3 : IntKind.i64.wrap (((a + 2 * bs : Nat) : Int) + ((2 * bs : Nat) : Int)) = ((a + 2 * bs + 2 * bs : Nat) : Int) := by rw [IntWalk.i64_in _ (by omega)]; omega
              have e1 : IntKind.i64.wrap (2 * (bs : Int)) = ((2 * bs : Nat) : Int) := i1
              replace hnx := Lib.hid hnx
              have hm : a + bs < a + 2 * bs := by omega
              obtain ⟨c, hc⟩ : ∃ c, c = a + 2 * bs := ⟨_, rfl⟩
              obtain ⟨d, hd⟩ : ∃ d, d = 2 * bs := ⟨_, rfl⟩
              obtain ⟨m, hmm⟩ : ∃ m, m = a + bs := ⟨_, rfl⟩
              obtain ⟨cd, hcd⟩ : ∃ x, x = c + d := ⟨_, rfl⟩
              rw [← hmm] at i2 hH
              rw [← hc] at hlt3 hH hnx ⊢
              rw [← hd] at i1
              rw [← hc, ← hd, ← hcd] at i3
              have hmeas : a < c := by omega
              replace hc := Lib.hid hc
              replace hd := Lib.hid hd
              replace hmm := Lib.hid hmm
              replace hcd := Lib.hid hcd
              clear e1 i1' hm
              go_wp2_with (go_at_call 70; (with_reducible refine (merge_any hS hn (c - a) g a m c (Nat.le_refl _) hH _ _ _ rfl rfl rfl _ hk).mono ?_); rintro _ w1 ⟨rfl, g', hs, ht, hk1⟩)
              exact ⟨⟨k + 1, c, g', rfl, by rw [hcd.out, hd.out], hnx.out g' hs ht, hk1⟩, by simp [intOf]; omega⟩
            · by_cases hlt4 : a + bs < n
              · obtain ⟨hH, hnx⟩ := hI.last (by omega) hlt4
                replace hnx := Lib.hid hnx
                have hc3 : ¬ (((a + 2 * bs : Nat) : Int) ≤ n) := by omega
                obtain ⟨m, hmm⟩ : ∃ m, m = a + bs := ⟨_, rfl⟩
                rw [← hmm] at i2 hH hlt4
                obtain ⟨b2, hb2⟩ : ∃ x, x = bs * 2 := ⟨_, rfl⟩
                rw [← hb2] at i1' hnx
                have hb2' : b2 < 4000 ∧ bs < b2 := by omega
                replace hmm := Lib.hid hmm
                replace hb2 := Lib.hid hb2
                clear i1
                go_wp2_with (go_at_call 70; (with_reducible refine (merge_any hS hn (n - a) g a m n (Nat.le_refl _) hH _ _ _ rfl rfl rfl _ hk).mono ?_); rintro _ w1 ⟨rfl, g', hs, ht, hk1⟩)
                exact ⟨⟨b2, g', rfl, hb2'.1, hnx.out g' hs ht, hk1⟩, by simp [intOf]; omega⟩
              · have hnx := hI.none (by omega)
                have hc3 : ¬ (((a + 2 * bs : Nat) : Int) ≤ n) := by omega
                have hc4 : ¬ (((a + bs : Nat) : Int) < n) := by omega
                obtain ⟨b2, hb2⟩ : ∃ x, x = bs * 2 := ⟨_, rfl⟩
                rw [← hb2] at i1' hnx
                have hb2' : b2 < 4000 ∧ bs < b2 := by omega
                replace hb2 := Lib.hid hb2
                clear i1
                go_wp2
                exact ⟨⟨b2, g, rfl, hb2'.1, hnx, hk⟩, by simp [intOf]; omega⟩
        · have hs := cut_all hL.cut (by omega)
          go_wp2
          go_end0
          exact ⟨rfl, g, hL.same, hs, hk⟩
theorem sortStable_any {p : Nat → Nat × Nat} {lb : Array Value} {r n : Nat} {w0 : World} (hS : SortBy p lb n r w0) (hn : n ≤ 1000) (w : World) (hk : SortAt r n w0 (fun i => i) w) :
    Calls Try.prog 59 #[.slice (some ⟨r, 0, none⟩) n n, .func (.func 60) #[] lb] w fun e w' => e = .returned (.tuple #[]) ∧ ∃ g, Same (fun i => i) g 0 n ∧ Srt (ltF p) g 0 n ∧ SortAt r n w0 g w' := by
  go_enter Try.func59, Try.ntmps59
  go_wp2_with (go_at_call 66; (with_reducible refine (stable_any hS hn _ hk).mono ?_); rintro _ w1 ⟨rfl, g', hs, ht, hk1⟩)
  go_end0
  exact ⟨rfl, g', hs, ht, hk1⟩
end Go.Proofs.Ytdnpbemkobhlcaa
