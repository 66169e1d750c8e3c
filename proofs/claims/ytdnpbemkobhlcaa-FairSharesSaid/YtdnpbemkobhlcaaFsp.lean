/-
  Users in the order of their metrics: the reference's insertion; any sorted row of the same users is it. No program in sight.
-/
import Derived.Test.YtdnpbemkobhlcaaOrd
namespace Go.Proofs.Ytdnpbemkobhlcaa
/-- The metric of a user: rate and service. -/
def mt (r S : Nat → Nat) (u : Nat) : Nat × Nat := (r u, S u)
/-- Where user u goes among the first k of l, looked for from the end. -/
def insU (r S : Nat → Nat) (l : List Nat) (u : Nat) : Nat → Nat
  | 0 => 0
  | k + 1 => if 0 < cmpF (mt r S u) (mt r S (l.getD k 0)) then insU r S l u k else k + 1
/-- The users below i with a rate above 0, in the order of their metrics. -/
def ordU (r S : Nat → Nat) : Nat → List Nat
  | 0 => []
  | i + 1 => if 0 < r i then (ordU r S i).take (insU r S (ordU r S i) i (ordU r S i).length) ++ i :: (ordU r S i).drop (insU r S (ordU r S i) i (ordU r S i).length) else ordU r S i
theorem insU_le (r S : Nat → Nat) (l : List Nat) (u : Nat) : ∀ k, insU r S l u k ≤ k
  | 0 => Nat.le_refl _
  | k + 1 => by
    have := insU_le r S l u k
    rw [insU]; split <;> omega
theorem insU_yes (r S : Nat → Nat) (l : List Nat) (u : Nat) : ∀ k j, insU r S l u k ≤ j → j < k → 0 < cmpF (mt r S u) (mt r S (l.getD j 0))
  | 0, j, _, h => by omega
  | k + 1, j, h1, h2 => by
    rw [insU] at h1
    by_cases c : 0 < cmpF (mt r S u) (mt r S (l.getD k 0))
    · rw [if_pos c] at h1
      by_cases e : j = k
      · rw [e]; exact c
      · exact insU_yes r S l u k j h1 (by omega)
    · rw [if_neg c] at h1; omega
theorem insU_no (r S : Nat → Nat) (l : List Nat) (u : Nat) : ∀ k, insU r S l u k = 0 ∨ ¬ 0 < cmpF (mt r S u) (mt r S (l.getD (insU r S l u k - 1) 0))
  | 0 => .inl rfl
  | k + 1 => by
    rw [insU]
    by_cases c : 0 < cmpF (mt r S u) (mt r S (l.getD k 0))
    · rw [if_pos c]; exact insU_no r S l u k
    · rw [if_neg c]; exact .inr (by simpa using c)
theorem ordU_mem (r S : Nat → Nat) : ∀ i x, x ∈ ordU r S i ↔ x < i ∧ 0 < r x
  | 0, x => by simp [ordU]
  | i + 1, x => by
    have ih := ordU_mem r S i x
    have key : x ∈ ordU r S i ↔ x ∈ (ordU r S i).take (insU r S (ordU r S i) i (ordU r S i).length) ∨ x ∈ (ordU r S i).drop (insU r S (ordU r S i) i (ordU r S i).length) := by
      rw [← List.mem_append, List.take_append_drop]
    rw [ordU]
    by_cases c : 0 < r i
    · rw [if_pos c, List.mem_append, List.mem_cons]
      constructor
      · rintro (h | rfl | h)
        · have := ih.1 (key.2 (.inl h)); exact ⟨by omega, this.2⟩
        · exact ⟨by omega, c⟩
        · have := ih.1 (key.2 (.inr h)); exact ⟨by omega, this.2⟩
      · rintro ⟨h1, h2⟩
        by_cases e : x = i
        · exact .inr (.inl e)
        · rcases key.1 (ih.2 ⟨by omega, h2⟩) with h | h
          · exact .inl h
          · exact .inr (.inr h)
    · rw [if_neg c, ih]
      constructor
      · rintro ⟨h1, h2⟩; exact ⟨by omega, h2⟩
      · rintro ⟨h1, h2⟩
        have : x ≠ i := fun e => c (e ▸ h2)
        exact ⟨by omega, h2⟩
theorem ltF_irrefl (p : Nat → Nat × Nat) (x : Nat) : ¬ ltF p x x := by
  rintro (h | ⟨_, h⟩)
  · rw [cmpF_self] at h; omega
  · omega
theorem ltF_asym (p : Nat → Nat × Nat) (x y : Nat) (h : ltF p x y) (k : ltF p y x) : False := by
  have n := cmpF_neg (p x) (p y)
  rcases h with h | ⟨h, h'⟩ <;> rcases k with k | ⟨k, k'⟩ <;> omega
theorem ordU_sorted (r S : Nat → Nat) : ∀ i, (ordU r S i).Pairwise (ltF (mt r S))
  | 0 => List.Pairwise.nil
  | i + 1 => by
    have ih := ordU_sorted r S i
    have hm := ordU_mem r S i
    have hyes := insU_yes r S (ordU r S i) i (ordU r S i).length
    have hno := insU_no r S (ordU r S i) i (ordU r S i).length
    have hle := insU_le r S (ordU r S i) i (ordU r S i).length
    rw [ordU]
    by_cases c : 0 < r i
    · rw [if_pos c]
      generalize ordU r S i = l at *
      generalize insU r S l i l.length = k at *
      have hgood : ∀ x ∈ l, ¬ Bad (mt r S x) := fun x hx h => by
        have := (hm x).1 hx
        unfold mt Bad at h; simp only at h; omega
      have hat : ∀ j, j < l.length → l.getD j 0 ∈ l := fun j hj => by
        rw [List.getD_eq_getElem?_getD, List.getElem?_eq_getElem hj]; exact List.getElem_mem hj
      have hpre : ∀ x ∈ l.take k, ltF (mt r S) x i := by
        intro x hx
        obtain ⟨j, hj, rfl⟩ := List.getElem_of_mem hx
        rw [List.length_take] at hj
        rw [List.getElem_take]
        rcases hno with h | h
        · omega
        · have hk1 : l.getD (k - 1) 0 = l[k - 1]'(by omega) := by rw [List.getD_eq_getElem?_getD, List.getElem?_eq_getElem (by omega)]; rfl
          rw [hk1] at h
          have hmk := (hm (l[k - 1]'(by omega))).1 (List.getElem_mem _)
          have hmj := (hm (l[j]'(by omega))).1 (List.getElem_mem _)
          have n0 := cmpF_neg (mt r S i) (mt r S (l[k - 1]'(by omega)))
          have n1 := cmpF_neg (mt r S i) (mt r S (l[j]'(by omega)))
          by_cases e : j = k - 1
          · subst e
            by_cases z : cmpF (mt r S i) (mt r S (l[k - 1]'(by omega))) = 0
            · exact .inr ⟨z, hmk.1⟩
            · exact .inl (by omega)
          · have hlt := List.pairwise_iff_getElem.1 ih j (k - 1) (by omega) (by omega) (by omega)
            have n2 := cmpF_neg (mt r S (l[j]'(by omega))) (mt r S (l[k - 1]'(by omega)))
            have q1 : cmpF (mt r S (l[k - 1]'(by omega))) (mt r S (l[j]'(by omega))) ≤ 0 := by rcases hlt with h | h <;> omega
            have t := cmpF_trans _ _ _ (hgood _ (List.getElem_mem (by omega))) (show cmpF (mt r S i) (mt r S (l[k - 1]'(by omega))) ≤ 0 by omega) q1
            by_cases z : cmpF (mt r S i) (mt r S (l[j]'(by omega))) = 0
            · exact .inr ⟨z, hmj.1⟩
            · exact .inl (by omega)
      have hsuf : ∀ x ∈ l.drop k, ltF (mt r S) i x := by
        intro x hx
        obtain ⟨j, hj, rfl⟩ := List.getElem_of_mem hx
        rw [List.length_drop] at hj
        rw [List.getElem_drop]
        have h := hyes (k + j) (by omega) (by omega)
        rw [List.getD_eq_getElem?_getD, List.getElem?_eq_getElem (by omega), Option.getD_some] at h
        have n0 := cmpF_neg (mt r S i) (mt r S (l[k + j]'(by omega)))
        exact .inl (by omega)
      have hsp := ih
      rw [← List.take_append_drop k l, List.pairwise_append] at hsp
      obtain ⟨s1, s2, s3⟩ := hsp
      rw [List.pairwise_append]
      refine ⟨s1, List.pairwise_cons.2 ⟨hsuf, s2⟩, fun x hx y hy => ?_⟩
      rcases List.mem_cons.1 hy with rfl | hy
      · exact hpre x hx
      · exact s3 x hx y hy
    · rw [if_neg c]; exact ih
/-- Two sorted lists with the same elements are one. -/
theorem sorted_one (p : Nat → Nat × Nat) : ∀ l m : List Nat, l.Pairwise (ltF p) → m.Pairwise (ltF p) → (∀ x, x ∈ l ↔ x ∈ m) → l = m
  | [], [], _, _, _ => rfl
  | [], b :: m, _, _, h => by have := (h b).2 (List.mem_cons_self ..); cases this
  | a :: l, [], _, _, h => by have := (h a).1 (List.mem_cons_self ..); cases this
  | a :: l, b :: m, h1, h2, h => by
    obtain ⟨a1, a2⟩ := List.pairwise_cons.1 h1
    obtain ⟨b1, b2⟩ := List.pairwise_cons.1 h2
    have e : a = b := by
      apply Decidable.byContradiction
      intro ne
      rcases List.mem_cons.1 ((h a).1 (List.mem_cons_self ..)) with k | k
      · exact ne k
      · rcases List.mem_cons.1 ((h b).2 (List.mem_cons_self ..)) with k' | k'
        · exact ne k'.symm
        · exact ltF_asym p _ _ (a1 b k') (b1 a k)
    subst e
    have : l = m := sorted_one p l m a2 b2 fun x => by
      constructor
      · intro hx
        rcases List.mem_cons.1 ((h x).1 (List.mem_cons_of_mem _ hx)) with rfl | k
        · exact absurd (a1 x hx) (ltF_irrefl p x)
        · exact k
      · intro hx
        rcases List.mem_cons.1 ((h x).2 (List.mem_cons_of_mem _ hx)) with rfl | k
        · exact absurd (b1 x hx) (ltF_irrefl p x)
        · exact k
    rw [this]
/-- Ascending users with a rate, sorted by their fractions: the order. -/
theorem ord_of (r S : Nat → Nat) (n : Nat) (us : List Nat) (hus : us.Pairwise (· < ·)) (hm : ∀ x, x ∈ us ↔ x < n ∧ 0 < r x) (p : Nat → Nat × Nat) (hp : ∀ i, i < us.length → p i = mt r S (us.getD i 0))
    (g : Nat → Nat) (hs : Same (fun i => i) g 0 us.length) (ht : Srt (ltF p) g 0 us.length) : (List.range us.length).map (fun i => us.getD (g i) 0) = ordU r S n := by
  have hg : ∀ i, i < us.length → g i < us.length := fun i hi => by
    obtain ⟨j, _, hj, e⟩ := hs.1 i (Nat.zero_le _) hi
    simp only at e
    omega
  have hget : ∀ i, (hi : i < us.length) → us.getD i 0 = us[i] := fun i hi => by rw [List.getD_eq_getElem?_getD, List.getElem?_eq_getElem hi]; rfl
  refine sorted_one (mt r S) _ _ ?_ (ordU_sorted r S n) fun x => ?_
  · rw [List.pairwise_iff_getElem]
    intro i j hi hj hij
    simp only [List.length_map, List.length_range] at hi hj
    simp only [List.getElem_map, List.getElem_range]
    have h := ht i j (Nat.zero_le _) hij hj
    unfold ltF at h ⊢
    rw [hp _ (hg i hi), hp _ (hg j hj)] at h
    rcases h with h | ⟨h, k⟩
    · exact .inl h
    · refine .inr ⟨h, ?_⟩
      rw [hget _ (hg i hi), hget _ (hg j hj)]
      exact List.pairwise_iff_getElem.1 hus _ _ _ _ k
  · rw [ordU_mem, ← hm, List.mem_map]
    constructor
    · rintro ⟨i, hi, rfl⟩
      rw [hget _ (hg i (List.mem_range.1 hi))]
      exact List.getElem_mem _
    · intro hx
      obtain ⟨j, hj, rfl⟩ := List.getElem_of_mem hx
      obtain ⟨i, _, hi, e⟩ := hs.2.1 j (Nat.zero_le _) hj
      refine ⟨i, List.mem_range.2 hi, ?_⟩
      rw [e, hget j hj]
theorem ordU_length (r S : Nat → Nat) : ∀ i, (ordU r S i).length ≤ i
  | 0 => Nat.le_refl _
  | i + 1 => by
    have ih := ordU_length r S i
    have hle := insU_le r S (ordU r S i) i (ordU r S i).length
    rw [ordU]
    split
    · simp only [List.length_append, List.length_take, List.length_cons, List.length_drop]; omega
    · omega
end Go.Proofs.Ytdnpbemkobhlcaa
