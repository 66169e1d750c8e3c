/-
  Rows as functions of the index; ranges exchanged, rotated; sorted rows merged (the law of a stable sort in place). No program in sight.
-/
namespace Go.Proofs.Ytdnpbemkobhlcaa
/-! Rows as functions of the index; ranges exchanged, rotated; sorted rows merged. -/
def upd (f : Nat → Nat) (k x : Nat) : Nat → Nat := fun i => if i = k then x else f i
def swp (f : Nat → Nat) (a b k : Nat) : Nat → Nat := fun i =>
  if a ≤ i ∧ i < a + k then f (b + (i - a)) else if b ≤ i ∧ i < b + k then f (a + (i - b)) else f i
def rot (f : Nat → Nat) (a m b : Nat) : Nat → Nat := fun i =>
  if a ≤ i ∧ i < a + (b - m) then f (m + (i - a)) else if a + (b - m) ≤ i ∧ i < b then f (i - (b - m)) else f i
theorem swp_zero (f : Nat → Nat) (a b : Nat) : swp f a b 0 = f := by
  funext i; unfold swp; repeat' split
  all_goals first | rfl | omega
theorem swp_succ (f : Nat → Nat) (a b k n : Nat) (hn : a + n ≤ b) (hk : k < n) : upd (upd (swp f a b k) (a + k) (f (b + k))) (b + k) (f (a + k)) = swp f a b (k + 1) := by
  funext i; unfold upd swp; repeat' split
  all_goals first | rfl | omega | (congr 1; omega)
theorem swp_left (f : Nat → Nat) (a b k n : Nat) (hn : a + n ≤ b) (hk : k < n) : swp f a b k (a + k) = f (a + k) := by
  unfold swp; repeat' split
  all_goals first | rfl | omega
theorem swp_right (f : Nat → Nat) (a b k n : Nat) (hn : a + n ≤ b) (hk : k < n) : swp f a b k (b + k) = f (b + k) := by
  unfold swp; repeat' split
  all_goals first | rfl | omega
theorem rot_same (f : Nat → Nat) (a m : Nat) : rot f a m m = f := by
  funext i; unfold rot; repeat' split
  all_goals first | rfl | omega | (congr 1; omega)
theorem rot_same' (f : Nat → Nat) (m b : Nat) : rot f m m b = f := by
  funext i; unfold rot; repeat' split
  all_goals first | rfl | omega | (congr 1; omega)
theorem rot_gt (f : Nat → Nat) (m i j : Nat) (him : i ≤ m) (h : j < i) : rot (swp f (m - i) m j) (m - i + j) m (m + j) = rot f (m - i) m (m + j) := by
  funext x; unfold rot swp; repeat' split
  all_goals first | rfl | omega | (congr 1; omega)
theorem rot_lt (f : Nat → Nat) (m i j : Nat) (him : i ≤ m) (h : i < j) : rot (swp f (m - i) (m + j - i) i) (m - i) m (m + j - i) = rot f (m - i) m (m + j) := by
  funext x; unfold rot swp; repeat' split
  all_goals first | rfl | omega | (congr 1; omega)
theorem rot_eq (f : Nat → Nat) (m i : Nat) (him : i ≤ m) : swp f (m - i) m i = rot f (m - i) m (m + i) := by
  funext x; unfold rot swp; repeat' split
  all_goals first | rfl | omega | (congr 1; omega)

def Same (f g : Nat → Nat) (a b : Nat) : Prop :=
  (∀ i, a ≤ i → i < b → ∃ j, a ≤ j ∧ j < b ∧ g i = f j) ∧ (∀ j, a ≤ j → j < b → ∃ i, a ≤ i ∧ i < b ∧ g i = f j) ∧ (∀ i, (i < a ∨ b ≤ i) → g i = f i)
theorem Same.refl (f : Nat → Nat) (a b : Nat) : Same f f a b := ⟨fun i h k => ⟨i, h, k, rfl⟩, fun i h k => ⟨i, h, k, rfl⟩, fun _ _ => rfl⟩
theorem Same.trans {f g h : Nat → Nat} {a b : Nat} (p : Same f g a b) (q : Same g h a b) : Same f h a b := by
  refine ⟨fun i h1 h2 => ?_, fun i h1 h2 => ?_, fun i h1 => (q.2.2 i h1).trans (p.2.2 i h1)⟩
  · obtain ⟨j, j1, j2, e⟩ := q.1 i h1 h2
    obtain ⟨k, k1, k2, e'⟩ := p.1 j j1 j2
    exact ⟨k, k1, k2, e.trans e'⟩
  · obtain ⟨j, j1, j2, e⟩ := p.2.1 i h1 h2
    obtain ⟨k, k1, k2, e'⟩ := q.2.1 j j1 j2
    exact ⟨k, k1, k2, e'.trans e⟩
theorem Same.mono {f g : Nat → Nat} {a b a' b' : Nat} (p : Same f g a b) (h : a' ≤ a) (k : b ≤ b') : Same f g a' b' := by
  refine ⟨fun i h1 h2 => ?_, fun i h1 h2 => ?_, fun i h1 => p.2.2 i (by omega)⟩
  · by_cases hi : a ≤ i ∧ i < b
    · obtain ⟨j, j1, j2, e⟩ := p.1 i hi.1 hi.2
      exact ⟨j, by omega, by omega, e⟩
    · exact ⟨i, h1, h2, p.2.2 i (by omega)⟩
  · by_cases hi : a ≤ i ∧ i < b
    · obtain ⟨j, j1, j2, e⟩ := p.2.1 i hi.1 hi.2
      exact ⟨j, by omega, by omega, e⟩
    · exact ⟨i, h1, h2, p.2.2 i (by omega)⟩
theorem same_rot (f : Nat → Nat) (a m b : Nat) (h1 : a ≤ m) (h2 : m ≤ b) : Same f (rot f a m b) a b := by
  refine ⟨fun i p q => ?_, fun i p q => ?_, fun i p => ?_⟩
  · by_cases hi : i < a + (b - m)
    · exact ⟨m + (i - a), by omega, by omega, by unfold rot; rw [if_pos ⟨p, hi⟩]⟩
    · exact ⟨i - (b - m), by omega, by omega, by unfold rot; rw [if_neg (by omega), if_pos (by omega)]⟩
  · by_cases hi : i < m
    · exact ⟨i + (b - m), by omega, by omega, by unfold rot; rw [if_neg (by omega), if_pos (by omega)]; congr 1; omega⟩
    · exact ⟨a + (i - m), by omega, by omega, by unfold rot; rw [if_pos (by omega)]; congr 1; omega⟩
  · unfold rot; rw [if_neg (by omega), if_neg (by omega)]

section
variable (cl : Nat → Nat → Bool) (lt : Nat → Nat → Prop)
structure Strict : Prop where
  irrefl : ∀ x, ¬ lt x x
  trans : ∀ x y z, lt x y → lt y z → lt x z
def Srt (f : Nat → Nat) (a b : Nat) : Prop := ∀ i j, a ≤ i → i < j → j < b → lt (f i) (f j)
def LR (f : Nat → Nat) (a m b : Nat) : Prop := ∀ i j, a ≤ i → i < m → m ≤ j → j < b → (cl (f j) (f i) = true → lt (f j) (f i)) ∧ (cl (f j) (f i) = false → lt (f i) (f j))
end
section
variable {cl : Nat → Nat → Bool} {lt : Nat → Nat → Prop}
theorem Srt.mono {f : Nat → Nat} {a b a' b' : Nat} (h : Srt lt f a b) (p : a ≤ a') (q : b' ≤ b) : Srt lt f a' b' := fun i j h1 h2 h3 => h i j (by omega) h2 (by omega)
theorem Srt.tiny (f : Nat → Nat) (a b : Nat) (h : b ≤ a + 1) : Srt lt f a b := fun i j h1 h2 h3 => by omega
theorem Srt.congr {f g : Nat → Nat} {a b : Nat} (h : Srt lt f a b) (e : ∀ i, a ≤ i → i < b → g i = f i) : Srt lt g a b := fun i j h1 h2 h3 => by
  rw [e i h1 (by omega), e j (by omega) h3]; exact h i j h1 h2 h3
theorem Srt.join {f : Nat → Nat} {a m b : Nat} (h : Srt lt f a m) (k : Srt lt f m b) (x : ∀ i j, a ≤ i → i < m → m ≤ j → j < b → lt (f i) (f j)) : Srt lt f a b := fun i j h1 h2 h3 => by
  by_cases hj : j < m
  · exact h i j h1 h2 hj
  · by_cases hi : i < m
    · exact x i j h1 hi (by omega) h3
    · exact k i j (by omega) h2 h3
theorem Srt.le {f : Nat → Nat} {a b : Nat} (h : Srt lt f a b) {i j : Nat} (h1 : a ≤ i) (h2 : i ≤ j) (h3 : j < b) : f i = f j ∨ lt (f i) (f j) := by
  by_cases e : i = j
  · exact .inl (by rw [e])
  · exact .inr (h i j h1 (by omega) h3)
/-- What answers 'no' at c answers 'no' before it; what answers 'yes' at c answers 'yes' behind it. -/
theorem no_before (hS : Strict lt) {f : Nat → Nat} {a m b p : Nat} (h1 : Srt lt f a m) (h2 : Srt lt f m b) (hL : LR cl lt f a m b) {c c' : Nat} (ha : a ≤ c') (hc : c' ≤ c) (hm : c < m) (hp : c ≤ p) (hpm : m ≤ p - c) (hb : p - c' < b)
    (hno : cl (f (p - c)) (f c) = false) : cl (f (p - c')) (f c') = false := by
  have l0 := (hL c (p - c) (by omega) hm hpm (by omega)).2 hno
  cases hy : cl (f (p - c')) (f c') with
  | false => rfl
  | true =>
    have l1 := (hL c' (p - c') ha (by omega) (by omega) hb).1 hy
    have l2 : lt (f c') (f (p - c)) := by
      rcases h1.le ha hc hm with e | e
      · rw [e]; exact l0
      · exact hS.trans _ _ _ e l0
    have l3 : lt (f c') (f (p - c')) := by
      rcases h2.le hpm (show p - c ≤ p - c' by omega) hb with e | e
      · rw [← e]; exact l2
      · exact hS.trans _ _ _ l2 e
    exact absurd (hS.trans _ _ _ l3 l1) (hS.irrefl _)
theorem yes_behind (hS : Strict lt) {f : Nat → Nat} {a m b p : Nat} (h1 : Srt lt f a m) (h2 : Srt lt f m b) (hL : LR cl lt f a m b) {c c' : Nat} (ha : a ≤ c) (hc : c ≤ c') (hm : c' < m) (hp : c' ≤ p) (hpm : m ≤ p - c') (hb : p - c < b)
    (hyes : cl (f (p - c)) (f c) = true) : cl (f (p - c')) (f c') = true := by
  cases hy : cl (f (p - c')) (f c') with
  | true => rfl
  | false =>
    have := no_before hS h1 h2 hL ha hc hm hp hpm hb hy
    rw [this] at hyes; cases hyes
/-- What the search comes to. -/
def Found (cl : Nat → Nat → Bool) (f : Nat → Nat) (lo hi p s : Nat) : Prop := lo ≤ s ∧ s ≤ hi ∧ (∀ c, lo ≤ c → c < s → cl (f (p - c)) (f c) = false) ∧ (∀ c, s ≤ c → c < hi → cl (f (p - c)) (f c) = true)
/-- Behind the rotation: the halves are apart, four sorted pieces. -/
theorem merge_halves (hS : Strict lt) {f : Nat → Nat} {a m b mid lo hi s : Nat} (h1 : Srt lt f a m) (h2 : Srt lt f m b) (hL : LR cl lt f a m b) (ham : a < m) (hmb : m < b) (hmid : mid = (a + b) / 2)
    (hlh : (mid < m ∧ lo = mid + m - b ∧ hi = mid) ∨ (m ≤ mid ∧ lo = a ∧ hi = m)) (hF : Found cl f lo hi (mid + m - 1) s) :
    a ≤ s ∧ s ≤ m ∧ s ≤ mid ∧ mid ≤ mid + m - s ∧ m ≤ mid + m - s ∧ mid + m - s ≤ b ∧ Srt lt (rot f s m (mid + m - s)) a s ∧ Srt lt (rot f s m (mid + m - s)) s mid ∧ Srt lt (rot f s m (mid + m - s)) mid (mid + m - s) ∧ Srt lt (rot f s m (mid + m - s)) (mid + m - s) b ∧
    (∀ i j, a ≤ i → i < mid → mid ≤ j → j < b → lt (rot f s m (mid + m - s) i) (rot f s m (mid + m - s) j)) ∧
    LR cl lt (rot f s m (mid + m - s)) a s mid ∧ LR cl lt (rot f s m (mid + m - s)) mid (mid + m - s) b := by
  obtain ⟨f1, f2, f3, f4⟩ := hF
  have hsa : a ≤ s := by omega
  have hsm : s ≤ m := by omega
  have hsd : s ≤ mid := by omega
  have heb : mid + m - s ≤ b := by omega
  obtain ⟨e, he⟩ : ∃ e, e = mid + m - s := ⟨_, rfl⟩
  rw [← he] at heb ⊢
  have g1 : ∀ i, i < s → rot f s m e i = f i := fun i hi => by unfold rot; rw [if_neg (by omega), if_neg (by omega)]
  have g2 : ∀ i, s ≤ i → i < mid → rot f s m e i = f (m + (i - s)) := fun i h k => by unfold rot; rw [if_pos (by omega)]
  have g3 : ∀ i, mid ≤ i → i < e → rot f s m e i = f (i - (e - m)) := fun i h k => by unfold rot; rw [if_neg (by omega), if_pos (by omega)]
  have g4 : ∀ i, e ≤ i → rot f s m e i = f i := fun i h => by unfold rot; rw [if_neg (by omega), if_neg (by omega)]
  -- the low part of the left row is before the high part of the right row, and so on
  have low : ∀ i j, a ≤ i → i < s → e ≤ j → j < b → lt (f i) (f j) := by
    intro i j h3 h4 h5 h6
    have hlo : lo ≤ s - 1 ∧ s - 1 < s := by omega
    have k1 := (hL (s - 1) e (by omega) (by omega) (by omega) (by omega)).2 (by have := f3 (s - 1) hlo.1 hlo.2; rwa [show mid + m - 1 - (s - 1) = e by omega] at this)
    have k2 : lt (f i) (f e) := by
      rcases h1.le h3 (show i ≤ s - 1 by omega) (by omega) with q | q
      · rw [q]; exact k1
      · exact hS.trans _ _ _ q k1
    rcases h2.le (show m ≤ e by omega) h5 h6 with q | q
    · rw [← q]; exact k2
    · exact hS.trans _ _ _ k2 q
  have high : ∀ i j, s ≤ i → i < m → m ≤ j → j < e → lt (f j) (f i) := by
    intro i j h3 h4 h5 h6
    have hlo : s < hi := by omega
    have k1 := (hL s (e - 1) (by omega) (by omega) (by omega) (by omega)).1 (by have := f4 s (Nat.le_refl _) hlo; rwa [show mid + m - 1 - s = e - 1 by omega] at this)
    have k2 : lt (f (e - 1)) (f i) := by
      rcases h1.le hsa h3 h4 with q | q
      · rw [← q]; exact k1
      · exact hS.trans _ _ _ k1 q
    rcases h2.le h5 (show j ≤ e - 1 by omega) (by omega) with q | q
    · rw [q]; exact k2
    · exact hS.trans _ _ _ q k2
  refine ⟨hsa, hsm, hsd, by omega, by omega, heb, ?_, ?_, ?_, ?_, ?_, ?_, ?_⟩
  · exact fun i j h3 h4 h5 => by rw [g1 i (by omega), g1 j h5]; exact h1 i j h3 h4 (by omega)
  · exact fun i j h3 h4 h5 => by rw [g2 i h3 (by omega), g2 j (by omega) h5]; exact h2 _ _ (by omega) (by omega) (by omega)
  · exact fun i j h3 h4 h5 => by rw [g3 i h3 (by omega), g3 j (by omega) h5]; exact h1 _ _ (by omega) (by omega) (by omega)
  · exact fun i j h3 h4 h5 => by rw [g4 i h3, g4 j (by omega)]; exact h2 _ _ (by omega) (by omega) (by omega)
  · intro i j h3 h4 h5 h6
    by_cases hi : i < s
    · rw [g1 i hi]
      by_cases hj : j < e
      · rw [g3 j h5 hj]; exact h1 _ _ h3 (by omega) (by omega)
      · rw [g4 j (by omega)]; exact low i j h3 hi (by omega) h6
    · rw [g2 i (by omega) h4]
      by_cases hj : j < e
      · rw [g3 j h5 hj]; exact high _ _ (by omega) (by omega) (by omega) (by omega)
      · rw [g4 j (by omega)]; exact h2 _ _ (by omega) (by omega) h6
  · intro i j h3 h4 h5 h6
    rw [g1 i h4, g2 j h5 h6]
    exact hL _ _ h3 (by omega) (by omega) (by omega)
  · intro i j h3 h4 h5 h6
    rw [g3 i h3 h4, g4 j h5]
    exact hL _ _ (by omega) (by omega) (by omega) h6
/-- Two halves that are apart, sorted each for itself. -/
theorem merge_end {g h k : Nat → Nat} {a mid b : Nat} (ham : a ≤ mid) (hmb : mid ≤ b) (p : Same g h a mid) (q : Same h k mid b) (s1 : Srt lt h a mid) (s2 : Srt lt k mid b) (x : ∀ i j, a ≤ i → i < mid → mid ≤ j → j < b → lt (g i) (g j)) :
    Srt lt k a b ∧ Same g k a b := by
  refine ⟨(s1.congr (fun i h1 h2 => q.2.2 i (by omega))).join s2 ?_, (p.mono (Nat.le_refl _) hmb).trans (q.mono ham (Nat.le_refl _))⟩
  intro i j h1 h2 h3 h4
  rw [q.2.2 i (by omega)]
  obtain ⟨i', i1, i2, e1⟩ := p.1 i h1 h2
  obtain ⟨j', j1, j2, e2⟩ := q.1 j h3 h4
  rw [e1, e2, p.2.2 j' (by omega)]
  exact x _ _ i1 i2 j1 j2
theorem LR.same {f g : Nat → Nat} {a m b : Nat} (h : LR cl lt f a m b) {g1 : Nat → Nat} (p : Same f g1 a m) (q : Same g1 g m b) : LR cl lt g a m b := by
  intro i j h1 h2 h3 h4
  rw [q.2.2 i (by omega)]
  obtain ⟨i', i1, i2, e1⟩ := p.1 i h1 h2
  obtain ⟨j', j1, j2, e2⟩ := q.1 j h3 h4
  rw [e1, e2, p.2.2 j' (by omega)]
  exact h _ _ i1 i2 j1 j2
/-- One element on the left: put behind all that come before it. -/
theorem merge_left {f : Nat → Nat} {a b s : Nat} (h2 : Srt lt f (a + 1) b) (hL : LR cl lt f a (a + 1) b) (hs : a + 1 ≤ s) (hsb : s ≤ b)
    (hyes : ∀ c, a + 1 ≤ c → c < s → cl (f c) (f a) = true) (hno : ∀ c, s ≤ c → c < b → cl (f c) (f a) = false) : Srt lt (rot f a (a + 1) s) a b := by
  have g1 : ∀ i, a ≤ i → i < s - 1 → rot f a (a + 1) s i = f (i + 1) := fun i h k => by unfold rot; rw [if_pos (by omega)]; congr 1; omega
  have g2 : rot f a (a + 1) s (s - 1) = f a := by unfold rot; rw [if_neg (by omega), if_pos (by omega)]; congr 1; omega
  have g3 : ∀ i, s ≤ i → rot f a (a + 1) s i = f i := fun i h => by unfold rot; rw [if_neg (by omega), if_neg (by omega)]
  intro i j h3 h4 h5
  by_cases hi : i < s - 1
  · rw [g1 i h3 hi]
    by_cases hj : j < s - 1
    · rw [g1 j (by omega) hj]; exact h2 _ _ (by omega) (by omega) (by omega)
    · by_cases hj' : j = s - 1
      · rw [hj', g2]; exact (hL a (i + 1) (Nat.le_refl _) (by omega) (by omega) (by omega)).1 (hyes _ (by omega) (by omega))
      · rw [g3 j (by omega)]; exact h2 _ _ (by omega) (by omega) h5
  · by_cases hi' : i = s - 1
    · rw [hi', g2, g3 j (by omega)]; exact (hL a j (Nat.le_refl _) (by omega) (by omega) h5).2 (hno _ (by omega) h5)
    · rw [g3 i (by omega), g3 j (by omega)]; exact h2 _ _ (by omega) h4 h5
/-- One element on the right: put ahead of all that come behind it. -/
theorem merge_right {f : Nat → Nat} {a m s : Nat} (h1 : Srt lt f a m) (hL : LR cl lt f a m (m + 1)) (hs : a ≤ s) (hsm : s ≤ m)
    (hno : ∀ c, a ≤ c → c < s → cl (f m) (f c) = false) (hyes : ∀ c, s ≤ c → c < m → cl (f m) (f c) = true) : Srt lt (rot f s m (m + 1)) a (m + 1) := by
  have g1 : ∀ i, i < s → rot f s m (m + 1) i = f i := fun i h => by unfold rot; rw [if_neg (by omega), if_neg (by omega)]
  have g2 : rot f s m (m + 1) s = f m := by unfold rot; rw [if_pos (by omega)]; congr 1; omega
  have g3 : ∀ i, s < i → i < m + 1 → rot f s m (m + 1) i = f (i - 1) := fun i h k => by unfold rot; rw [if_neg (by omega), if_pos (by omega)]; congr 1; omega
  intro i j h3 h4 h5
  by_cases hi : i < s
  · rw [g1 i hi]
    by_cases hj : j < s
    · rw [g1 j hj]; exact h1 _ _ h3 h4 (by omega)
    · by_cases hj' : j = s
      · rw [hj', g2]; exact (hL i m h3 (by omega) (Nat.le_refl _) (by omega)).2 (hno _ h3 hi)
      · rw [g3 j (by omega) h5]; exact h1 _ _ h3 (by omega) (by omega)
  · by_cases hi' : i = s
    · rw [hi', g2, g3 j (by omega) h5]; exact (hL (j - 1) m (by omega) (by omega) (Nat.le_refl _) (by omega)).1 (hyes _ (by omega) (by omega))
    · rw [g3 i (by omega) (by omega), g3 j (by omega) h5]; exact h1 _ _ (by omega) (by omega) (by omega)
/-! One step of the two loops that carry an element to its place. -/
theorem rot_left_step (f : Nat → Nat) (a k : Nat) (h : a ≤ k) : upd (upd (rot f a (a + 1) (k + 1)) k (rot f a (a + 1) (k + 1) (k + 1))) (k + 1) (rot f a (a + 1) (k + 1) k) = rot f a (a + 1) (k + 2) := by
  funext i; unfold upd rot; repeat' split
  all_goals first | rfl | omega | (congr 1; omega)
theorem rot_right_step (f : Nat → Nat) (k m : Nat) (h : k + 1 ≤ m) : upd (upd (rot f (k + 1) m (m + 1)) (k + 1) (rot f (k + 1) m (m + 1) k)) k (rot f (k + 1) m (m + 1) (k + 1)) = rot f k m (m + 1) := by
  funext i; unfold upd rot; repeat' split
  all_goals first | rfl | omega | (congr 1; omega)
end
end Go.Proofs.Ytdnpbemkobhlcaa
