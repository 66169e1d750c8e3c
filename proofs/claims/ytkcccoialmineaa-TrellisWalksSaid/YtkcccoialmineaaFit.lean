/-
  A region goes into a round of the wide fence from its plain walk: calls of functions too.
-/
import Derived.Test.YtkcccoialmineaaCalm
namespace Go.Proofs.Ytkcccoialmineaa
open Go.RowKit
section
variable {n : Nat} {P : Program} {ops : Array Oper} {Q : Exit → Act → World → Prop} {md : Region.Mode} {r : Nat}
theorem rowsIn_wide {row : String} {args : Array Value} {w : World} {R : Value → World → Prop} (h : Rows P row args w R) : RowsIn Fence.wide n P row args w R :=
  fun c cs _ => let ⟨v, w', q, s⟩ := h c cs; ⟨v, w', q, stepsIn_wide.2 s⟩
theorem wpIn_of_wp {o : Oper} (hd : ∀ c, o.op ≠ .defer c) {a : Act} {w : World} {K : Act → World → Prop} (h : o.wp P a w K Q) : o.wpIn (Fence.wide.inRound r) n P a w K Q := by
  unfold Oper.wp at h
  unfold Oper.wpIn
  rw [Oper.semAt_eq _ _ _ hd]
  refine ⟨fun _ _ => trivial, ?_⟩
  revert h
  generalize (execOp a.eval o).run P w = x
  intro h
  rcases x with ⟨x, w'⟩ | ⟨x, w'⟩
  · cases x with
    | value v => exact h
    | skip => exact h
    | defer d => exact h
    | enter f args => exact ⟨fun h0 => (by cases h0), callsIn_wide.2 h⟩
    | row s args => exact ⟨fun h0 => (by cases h0), rowsIn_wide h⟩
    | round l f t as b => exact h.elim
    | _ => exact h.elim
  · cases x <;> first | exact h | exact h.elim
/-- No operation lays a deferred call. -/
def noDefer (ops : Array Oper) : Bool := ops.all fun o => match o.op with | .defer _ => false | _ => true
theorem noDefer_at {i : Nat} {o : Oper} (hc : noDefer ops = true) (ho : ops[i]? = some o) : ∀ c, o.op ≠ .defer c := by
  obtain ⟨hi, rfl⟩ := Array.getElem?_eq_some_iff.1 ho
  have := (Array.all_eq_true.1 hc) i hi
  intro c e
  rw [e] at this
  cases this
theorem wpOpIn_of_wp {i : Nat} {a : Act} {w : World} {K : Act → World → Prop} (hc : noDefer ops = true) (hq : ¬ LetsOut Q) (h : wpOp P ops Q i K a w) : wpOpIn (Fence.wide.inRound r) n P ops Q i K a w := by
  unfold wpOp at h
  unfold wpOpIn
  cases ho : ops[i]? with
  | none => rw [ho] at h; exact h
  | some o =>
    rw [ho] at h
    have hco := noDefer_at hc ho
    simp only at h ⊢
    split
    · rename_i hw; rw [if_pos hw] at h; exact wpIn_of_wp hco (h.resolve_right fun x => hq x.2)
    · rename_i hw; rw [if_neg hw] at h; exact ⟨fun _ _ => trivial, h⟩
theorem wpAnyIn_of_wp (hc : noDefer ops = true) (hq : ¬ LetsOut Q) : ∀ (fuel : Nat) (listed : Array Bool) (a : Act) (w : World), wpAny P md ops Q fuel listed a w → wpAnyIn (Fence.wide.inRound r) n P md ops Q fuel listed a w
  | 0, _, _, _, h => h
  | fuel + 1, _, _, _, h => ⟨h.1, fun i hi => wpOpIn_of_wp hc hq (wpOp_mono (fun a w h' => wpAnyIn_of_wp hc hq fuel _ a w h') (h.2 i hi))⟩
/-- A region that draws. -/
theorem wpIn_draw_fit {id : Nat} {a : Act} {w : World} (hm : P.follows .mixedOrders = true) (hc : noDefer ops = true) (hq : ¬ LetsOut Q)
    (h : wpAny P .any ops Q ops.size (Array.replicate ops.size false) a w.drew) : (Code.region id ops true).wpIn (Fence.wide.inRound r) n P Q a w :=
  wpIn_region_any hm (wpAnyIn_of_wp hc hq _ _ _ _ h)
theorem wpOpsIn_of_wp (hc : noDefer ops = true) (hq : ¬ LetsOut Q) : ∀ (l : List Nat) (a : Act) (w : World), wpOps P ops Q l a w → wpOpsIn (Fence.wide.inRound r) n P ops Q l a w
  | [], _, _, h => h
  | i :: rest, a, w, h => by
    rw [wpOpsIn_cons]
    rw [wpOps_cons] at h
    exact wpOpIn_of_wp hc hq (wpOp_mono (fun a w h' => wpOpsIn_of_wp hc hq rest a w h') h)
/-- A region that does not draw. -/
theorem wpIn_fit {id : Nat} {l : List Oper} {a : Act} {w : World} (hc : noDefer l.toArray = true) (hq : ¬ LetsOut Q) (h : wpList P l.toArray Q l a w) : (Code.region id l.toArray false).wpIn (Fence.wide.inRound r) n P Q a w :=
  wpIn_region (by
    rw [List.range_eq_range', ← Array.length_toList]
    refine wpOpsIn_of_wp hc hq _ _ _ ?_
    rw [wpOps_eq_wpList l.toArray.toList 0 (by simp)]; exact h)
end
end Go.Proofs.Ytkcccoialmineaa
