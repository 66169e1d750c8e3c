/-
  A region that draws, whose loads lie beside allocations and whose last operations write what was loaded: S is held till number m comes up. Inside a fence too.
-/
import Derived.Deep.RegionHeld3
import Derived.StillTail
import Derived.Test.YtdgmahgidmjniaaTail
import Derived.Test.YtdgmahgidmjniaaCalm
namespace Go.Proofs.Ytdgmahgidmjniaa
open Go.RowKit
section
variable {P : Program} {ops : Array Oper} {Q : Exit → Act → World → Prop} {md : Region.Mode} {S : World → Prop} {m : Nat}

/-- As wpAnyH, but S is no longer asked when number m has come up. -/
def wpAnyT (P : Program) (md : Region.Mode) (ops : Array Oper) (Q : Exit → Act → World → Prop) (S : World → Prop) (m : Nat) : Nat → Array Bool → Act → World → Prop
  | 0, listed, a, w => Region.ready md ops listed = [] ∧ Q .normal a w
  | fuel + 1, listed, a, w =>
    (Region.ready md ops listed = [] → Q .normal a w) ∧
    ∀ i ∈ Region.ready md ops listed, wpOp P ops Q i (fun a' w' => ((listed.setIfInBounds i true).getD m false = true ∨ S w') ∧ wpAnyT P md ops Q S m fuel (listed.setIfInBounds i true) a' w') a w
theorem wpAny_of_till : ∀ (fuel : Nat) (listed : Array Bool) (a : Act) (w : World), wpAnyT P md ops Q S m fuel listed a w → wpAny P md ops Q fuel listed a w
  | 0, _, _, _, h => h
  | fuel + 1, _, _, _, h => ⟨h.1, fun i hi => wpOp_mono (fun a' w' h' => wpAny_of_till fuel _ a' w' h'.2) (h.2 i hi)⟩

/-- Each of the path waits for the one ahead of it. -/
def pathB (md : Region.Mode) (ops : Array Oper) : List Nat → Bool
  | i :: j :: r => (match ops[j]? with | some oj => oj.after.any (fun e => Region.binds md e && e.on == i) | none => false) && pathB md ops (j :: r)
  | _ => true
/-- What has come up had what it waits for come up. -/
def Closed (md : Region.Mode) (ops : Array Oper) (listed : Array Bool) : Prop :=
  listed.size = ops.size ∧ ∀ j oj, ops[j]? = some oj → listed.getD j false = true → ∀ e ∈ oj.after, Region.binds md e = true → listed.getD e.on false = true
theorem path_closed {listed : Array Bool} (hc : Closed md ops listed) : ∀ (p : List Nat) (i : Nat), pathB md ops (i :: p) = true → listed.getD i true = false →
    ∀ j ∈ p, listed.getD j true = false ∧ j ∉ Region.ready md ops listed
  | [], _, _, _ => fun j hj => by cases hj
  | j :: r, i, h, hi => by
    simp only [pathB, Bool.and_eq_true] at h
    obtain ⟨h1, h2⟩ := h
    cases hoj : ops[j]? with
    | none => rw [hoj] at h1; simp at h1
    | some oj =>
      rw [hoj] at h1
      simp only [Array.any_eq_true', Bool.and_eq_true, beq_iff_eq] at h1
      obtain ⟨e, he, hb, heq⟩ := h1
      have hjs : j < listed.size := by rw [hc.1]; exact (Array.getElem?_eq_some_iff.1 hoj).1
      have hjl : listed.getD j true = false := by
        refine getD_in hjs ?_
        cases hh : listed.getD j false with
        | false => rfl
        | true =>
          have := hc.2 j oj hoj hh e he hb
          rw [heq, getD_both hi] at this
          cases this
      have hnr : j ∉ Region.ready md ops listed := fun hr => by
        obtain ⟨_, oj', hoj', hall⟩ := mem_ready.1 hr
        rw [hoj] at hoj'
        cases hoj'
        have := hall e he hb
        rw [heq] at this
        rw [getD_both hi] at this
        cases this
      intro k hk
      rcases List.mem_cons.1 hk with rfl | hk
      · exact ⟨hjl, hnr⟩
      · exact path_closed hc r j h2 hjl k hk
theorem Closed.set {listed : Array Bool} (hc : Closed md ops listed) {i : Nat} (hr : i ∈ Region.ready md ops listed) : Closed md ops (listed.setIfInBounds i true) := by
  obtain ⟨hi, oi, hoi, hall⟩ := mem_ready.1 hr
  refine ⟨by simp [hc.1], fun j oj hoj hj e he hb => ?_⟩
  by_cases hij : i = j
  · subst hij
    rw [hoi] at hoj
    cases hoj
    exact getD_set_true (hall e he hb)
  · rw [getD_set_ne false hij] at hj
    exact getD_set_true (hc.2 j oj hoj hj e he hb)
theorem Closed.start : Closed md ops (Array.replicate ops.size false) :=
  ⟨by simp, fun j oj _ hl => (by rw [getD_replicate_false] at hl; cases hl)⟩
theorem wpAnyT_first {i : Nat} {oi : Oper} {v : Value} {p : List Nat} (hi : ops[i]? = some oi) (hsel : ∀ (j : Nat) (o : Oper) cs b, ops[j]? = some o → o.op ≠ .select cs b)
    (hQ : ∀ c a w, Q (.panic c) (a.put oi.dst v) w → Q (.panic c) a w) (hp : pathB md ops (i :: p) = true) (hm : m ∈ p) :
    ∀ (fuel : Nat) (listed : Array Bool) (a : Act) (w : World), Closed md ops listed →
      (∀ j oj, ops[j]? = some oj → j ≠ i → listed.getD j true = false → (∀ e ∈ oj.after, Region.binds md e = true → e.on ≠ i) → oi.apart ops oj = true) →
      i ∈ Region.ready md ops listed → YieldsIf P ops S oi v a → S w →
      wpAnyT P md ops Q S m fuel (listed.setIfInBounds i true) (a.put oi.dst v) w → wpAnyT P md ops Q S m (fuel + 1) listed a w := by
  intro fuel
  induction fuel with
  | zero =>
    intro listed a w _ _ hr hy hS H
    refine ⟨fun h => (by rw [h] at hr; cases hr), fun j hj => ?_⟩
    by_cases hji : j = i
    · subst hji; exact hy.wpOp hi hS ⟨.inr hS, H⟩
    · have := ready_mono hj hji
      rw [H.1] at this
      cases this
  | succ fuel ih =>
    intro listed a w hc hfree hr hy hS H
    refine ⟨fun h => (by rw [h] at hr; cases hr), fun j hj => ?_⟩
    by_cases hji : j = i
    · subst hji; exact hy.wpOp hi hS ⟨.inr hS, H⟩
    · have h1 := H.2 j (ready_mono hj hji)
      obtain ⟨hjun, oj, hoj, hall⟩ := mem_ready.1 hj
      have hiun := (mem_ready.1 hr).1
      have hmm := path_closed hc p i hp hiun m hm
      have hjm : j ≠ m := fun e => hmm.2 (e ▸ hj)
      have him : i ≠ m := fun e => hmm.2 (e ▸ hr)
      have hnot : ∀ e ∈ oj.after, Region.binds md e = true → e.on ≠ i := fun e he hb heq => by
        have h1 := hall e he hb
        rw [heq, getD_both hiun] at h1
        cases h1
      have h2 := wpOp_putIf hoj (hfree j oj hoj hji hjun hnot) (fun cs b => hsel i oi cs b hi) (fun cs b => hsel j oj cs b hoj) hQ hy h1
      have hfree' : ∀ k ok, ops[k]? = some ok → k ≠ i → (listed.setIfInBounds j true).getD k true = false →
          (∀ e ∈ ok.after, Region.binds md e = true → e.on ≠ i) → oi.apart ops ok = true := fun k ok hk hki hun hno => by
        refine hfree k ok hk hki ?_ hno
        by_cases hjk : j = k
        · subst hjk; exact hjun
        · rw [getD_set_ne true hjk] at hun; exact hun
      refine wpOp_mono (fun a' w' h3 => ?_) h2
      have hS' : S w' := by
        rcases h3.2.1 with h | h
        · rw [getD_set_ne false hjm, getD_set_ne false him, getD_both hmm.1] at h
          cases h
        · exact h
      refine ⟨.inr hS', ih (listed.setIfInBounds j true) a' w' (hc.set hj) hfree' (ready_mono hr (Ne.symm hji)) h3.1 hS' ?_⟩
      rw [Array.setIfInBounds_comm _ _ hji]
      exact h3.2.2
def closedB (md : Region.Mode) (ops : Array Oper) (listed : Array Bool) : Bool :=
  decide (listed.size = ops.size) && (List.range ops.size).all fun j => match ops[j]? with
    | some oj => !listed.getD j false || oj.after.all fun e => !Region.binds md e || listed.getD e.on false
    | none => true
theorem closedB_spec {listed : Array Bool} (h : closedB md ops listed = true) : Closed md ops listed := by
  simp only [closedB, Bool.and_eq_true, decide_eq_true_eq, List.all_eq_true, List.mem_range] at h
  refine ⟨h.1, fun j oj hoj hj e he hb => ?_⟩
  have := h.2 j (Array.getElem?_eq_some_iff.1 hoj).1
  rw [hoj] at this
  simp only [hj, Bool.not_true, Bool.false_or, Array.all_eq_true'] at this
  simpa [hb] using this e he
/-- Number i is taken first: p leads from what waits for it to number m. -/
theorem wpAnyT_take (i : Nat) (p : List Nat) {oi : Oper} {v : Value} {fuel : Nat} {listed : Array Bool} {a : Act} {w : World} (hi : ops[i]? = some oi)
    (hs : Region.noSelect ops = true) (hf : Region.free md ops listed i = true) (hr : (Region.ready md ops listed).contains i = true) (hp : (closedB md ops listed && pathB md ops (i :: p) && p.contains m) = true)
    (hQ : ∀ c a w, Q (.panic c) (a.put oi.dst v) w → Q (.panic c) a w) (hy : YieldsIf P ops S oi v a) (hS : S w)
    (h : wpAnyT P md ops Q S m fuel (listed.setIfInBounds i true) (a.put oi.dst v) w) : wpAnyT P md ops Q S m (fuel + 1) listed a w := by
  simp only [Bool.and_eq_true] at hp
  exact wpAnyT_first hi (Region.noSelect_spec hs) hQ hp.1.2 (by simpa using hp.2) fuel listed a w (closedB_spec hp.1.1) (Region.free_spec hi hf) (by simpa using hr) hy hS h
/-- Only number i can come up next. -/
theorem wpAnyT_one {fuel : Nat} {listed : Array Bool} {a : Act} {w : World} (i : Nat) {o : Oper} (ho : ops[i]? = some o) (hr : Region.ready md ops listed = [i])
    (h : ∀ K' : Act → World → Prop, Shut (∀ a w, ((listed.setIfInBounds i true).getD m false = true ∨ S w) → wpAnyT P md ops Q S m fuel (listed.setIfInBounds i true) a w → K' a w) → if Region.wanted o (yielded ops a.tmps) = true then Oper.wp P o a w K' Q else K' (a.put o.dst undef) w) :
    wpAnyT P md ops Q S m (fuel + 1) listed a w :=
  ⟨fun h0 => (by rw [hr] at h0; cases h0), fun j hj => by
    rw [hr] at hj
    have : j = i := by simpa using hj
    subst this
    exact wpOp_step ho (fun K' hK => h K' (fun a w hS hW => hK a w ⟨hS, hW⟩))⟩
theorem wpAnyT_done {listed : Array Bool} {a : Act} {w : World} (hr : Region.ready md ops listed = []) (h : Q .normal a w) : ∀ fuel, wpAnyT P md ops Q S m fuel listed a w
  | 0 => ⟨hr, h⟩
  | _ + 1 => ⟨fun _ => h, by rw [hr]; simp⟩
/-- A load of one cell that is known in every world of S. -/
theorem yieldsIf_load_cell {op : Oper} {a : Act} (hw : Region.wanted op (yielded ops a.tmps) = true) (ty : TypeId) (x : Operand) (ho : op.op = .load ty x) (p : Addr) (v : Value)
    (hx : a.eval x = .pointer (some p)) (hrun : ∀ w, w.cell? p = some v → (Instr.loadAt ty (.pointer (some p))).run P w = .ok v w) (hS : ∀ w, S w → w.cell? p = some v) : YieldsIf P ops S op v a :=
  .inl ⟨hw, fun w hw' => by
    unfold execOp
    simp only [ho, hx, Sem.run_bind, hrun w (hS w hw'), Result.andThen_ok, Sem.run_pure]⟩
end
end Go.Proofs.Ytdgmahgidmjniaa
