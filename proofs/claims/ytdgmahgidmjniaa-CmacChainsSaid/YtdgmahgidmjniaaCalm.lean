import Derived.RangeFuncNested
import Derived.RangeFuncBound
import Derived.RangeFuncCalls
import Derived.RangeFuncLeaves
import Derived.OrdersHeld
import Derived.OrdersIn
import Derived.TacticsIn
import Derived.StillTail
import Derived.Test.YtdgmahgidmjniaaBase
namespace Go.Proofs.Ytdgmahgidmjniaa
open Go.RowKit

/-- Operations that enter no function and lay no deferred call. -/
def calmOp : Op → Bool
  | .move _ | .assign _ | .pick .. | .alloc _ | .box .. | .build .. | .buildSlice .. | .load .. | .store .. | .binOp .. | .unOp .. | .convert .. | .makeSlice .. | .slice .. | .fieldAddr .. | .field .. | .indexAddr .. | .index .. | .extract .. | .makeFunc .. => true
  | .call c => match c.callee with | .builtin .append | .builtin .len | .builtin .cap | .builtin .copy => true | _ => false
  | _ => false

def calmNext : Result Next → Prop
  | .ok (.value _) _ => True
  | .ok .skip _ => True
  | .halt _ _ => True
  | _ => False
theorem calm_v (s : Sem Value) (P : Program) (w : World) : calmNext ((do pure (.value (← s)) : Sem Next).run P w) := by
  simp only [Sem.run_bind]
  cases s.run P w <;> simp [calmNext, Result.andThen]
theorem calm_u (s : Sem Unit) (P : Program) (w : World) : calmNext ((do s; pure .skip : Sem Next).run P w) := by
  simp only [Sem.run_bind]
  cases s.run P w <;> simp [calmNext, Result.andThen]
theorem calm_run {o : Oper} (h : calmOp o.op = true) (ρ : Operand → Value) (P : Program) (w : World) : calmNext ((execOp ρ o).run P w) := by
  unfold execOp
  cases ho : o.op <;> rw [ho] at h <;> first
    | (simp [calmOp] at h; done)
    | exact calm_v _ _ _
    | exact calm_u _ _ _
    | trivial
    | skip
  · rename_i c a b
    simp only [Sem.run_bind]
    cases (asBool (ρ c)).run P w <;> simp [calmNext, Result.andThen]
  · rename_i c
    simp only [calmOp] at h
    simp only [resolve]
    cases hc : c.callee with
    | builtin b =>
      rw [hc] at h
      simp only [Sem.run_bind, Sem.run_pure, Result.andThen, invoke]
      cases b <;> first | (simp at h; done) | exact calm_v _ _ _
    | _ => rw [hc] at h; simp at h

section
variable {F : Fence} {n : Nat} {P : Program} {ops : Array Oper} {Q : Exit → Act → World → Prop} {md : Region.Mode}
theorem about_calm {o : Oper} (h : calmOp o.op = true) (ρ : Operand → Value) (w : World) : o.about P w ρ = none := by
  unfold Oper.about
  cases ho : o.op <;> rw [ho] at h <;> first | rfl | skip
  rename_i c
  simp only [calmOp] at h
  cases hc : c.callee with
  | builtin b => simp [resolve, hc, Sem.run_pure, Target.leads]
  | _ => rw [hc] at h; simp at h
theorem calm_defer {o : Oper} (h : calmOp o.op = true) : ∀ c, o.op ≠ .defer c := by
  intro c hc
  rw [hc] at h
  simp [calmOp] at h
theorem wpIn_of_calm {o : Oper} (hc : calmOp o.op = true) {a : Act} {w : World} {K : Act → World → Prop} (h : o.wp P a w K Q) : o.wpIn F n P a w K Q := by
  unfold Oper.wp at h
  unfold Oper.wpIn
  rw [Oper.semAt_eq _ _ _ (calm_defer hc)]
  refine ⟨(fun f hf => by rw [about_calm hc] at hf; cases hf), ?_⟩
  have hr := calm_run hc a.eval P w
  revert h hr
  generalize (execOp a.eval o).run P w = r
  intro h hr
  rcases r with ⟨x, w'⟩ | ⟨x, w'⟩
  · cases x <;> first | exact hr.elim | exact h
  · cases x <;> first | exact h | exact h.elim
theorem calm_at {i : Nat} {o : Oper} (hc : (ops.all fun o => calmOp o.op) = true) (ho : ops[i]? = some o) : calmOp o.op = true := by
  obtain ⟨hi, rfl⟩ := Array.getElem?_eq_some_iff.1 ho
  exact (Array.all_eq_true.1 hc) i hi
theorem wpOpIn_of_calm {i : Nat} {a : Act} {w : World} {K : Act → World → Prop} (hc : (ops.all fun o => calmOp o.op) = true) (hq : ¬ LetsOut Q) (h : wpOp P ops Q i K a w) : wpOpIn F n P ops Q i K a w := by
  unfold wpOp at h
  unfold wpOpIn
  cases ho : ops[i]? with
  | none => rw [ho] at h; exact h
  | some o =>
    rw [ho] at h
    have hco := calm_at hc ho
    simp only at h ⊢
    split
    · rename_i hw; rw [if_pos hw] at h; exact wpIn_of_calm hco (h.resolve_right fun x => hq x.2)
    · rename_i hw; rw [if_neg hw] at h; exact ⟨(fun f hf => by rw [about_calm hco] at hf; cases hf), h⟩
theorem wpAnyIn_of_calm (hc : (ops.all fun o => calmOp o.op) = true) (hq : ¬ LetsOut Q) : ∀ (fuel : Nat) (listed : Array Bool) (a : Act) (w : World), wpAny P md ops Q fuel listed a w → wpAnyIn F n P md ops Q fuel listed a w
  | 0, _, _, _, h => h
  | fuel + 1, _, _, _, h => ⟨h.1, fun i hi => wpOpIn_of_calm hc hq (wpOp_mono (fun a w h' => wpAnyIn_of_calm hc hq fuel _ a w h') (h.2 i hi))⟩
/-- A region that draws and enters no function, inside a fence, in a round too. -/
theorem wpIn_draw_calm {id : Nat} {a : Act} {w : World} (hm : P.follows .mixedOrders = true) (hc : (ops.all fun o => calmOp o.op) = true) (hq : ¬ LetsOut Q)
    (h : wpAny P .any ops Q ops.size (Array.replicate ops.size false) a w.drew) : (Code.region id ops true).wpIn F n P Q a w :=
  wpIn_region_any hm (wpAnyIn_of_calm hc hq _ _ _ _ h)
/-- A region whose head only reads and whose tail is forced, inside a fence, in a round too. -/
theorem wpIn_draw_still {id : Nat} {m : Nat} {a : Act} {w : World} {l : List Oper} (n : Nat) (hm : P.follows .mixedOrders = true) (hcl : (l.toArray.all fun o => calmOp o.op) = true) (hq : ¬ LetsOut Q) (hB : Region.lexTailB .any l.toArray n = true)
    (h : wpStill P l.toArray w.drew (fun a' => wpList P l.toArray Q (l.drop n) a' w.drew) (l.take n) a) : (Code.region id l.toArray true).wpIn F m P Q a w := by
  simp only [Region.lexTailB, Bool.and_eq_true, decide_eq_true_eq] at hB
  obtain ⟨⟨⟨⟨hsel, hn⟩, hs⟩, hc⟩, hlex⟩ := hB
  have hn' : n < l.length := by simpa using hn
  have htl : (l.take n).length = n := by simp; omega
  have hdl : (l.drop n).length = l.toArray.size - n := by simp
  have inv0 : HeadInv .any l.toArray n (Array.replicate l.toArray.size false) :=
    ⟨by simp, fun j oj _ hl => (by rw [getD_replicate_false] at hl; cases hl), fun t _ ht => getD_in (by simpa using ht) (getD_replicate_false _ _)⟩
  have H := wpAnyL_lex (md := .any) (g := l.toArray.size - n) hsel hs hc hn (l.take n) 0 _ a (fun j hj => by
    have hj' : j < n := by rw [htl] at hj; exact hj
    simp [hj']) (by simpa using htl) inv0 (by rw [htl]; exact hlex) h
  refine wpIn_draw_calm hm hcl hq ?_
  have := wpAny_of_head (Q' := Q) (g := l.toArray.size - n) (fun listed a' hL => by
    have := wpAny_of_seq (md := .any) (Q' := Q) (l.drop n) n listed a' w.drew (fun j => by simp [List.getElem?_drop]) (by rw [hdl]; exact hL.1) hL.2
    rwa [hdl] at this) _ _ _ H
  rw [htl, show n + (l.toArray.size - n) = l.toArray.size by omega] at this
  exact this
theorem wpOpsIn_of_calm (hc : (ops.all fun o => calmOp o.op) = true) (hq : ¬ LetsOut Q) : ∀ (l : List Nat) (a : Act) (w : World), wpOps P ops Q l a w → wpOpsIn F n P ops Q l a w
  | [], _, _, h => h
  | i :: rest, a, w, h => by
    rw [wpOpsIn_cons]
    rw [wpOps_cons] at h
    exact wpOpIn_of_calm hc hq (wpOp_mono (fun a w h' => wpOpsIn_of_calm hc hq rest a w h') h)
/-- A region that does not draw. -/
theorem wpIn_calm {id : Nat} {l : List Oper} {a : Act} {w : World} (hc : (l.toArray.all fun o => calmOp o.op) = true) (hq : ¬ LetsOut Q) (h : wpList P l.toArray Q l a w) : (Code.region id l.toArray false).wpIn F n P Q a w :=
  wpIn_region (by
    rw [List.range_eq_range', ← Array.length_toList]
    refine wpOpsIn_of_calm hc hq _ _ _ ?_
    rw [wpOps_eq_wpList l.toArray.toList 0 (by simp)]; exact h)
end
end Go.Proofs.Ytdgmahgidmjniaa
