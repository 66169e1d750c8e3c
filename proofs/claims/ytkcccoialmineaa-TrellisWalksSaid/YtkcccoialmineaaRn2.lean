/-
  A range over a function with two variables, which no closure holds.
-/
import Derived.Test.YtkcccoialmineaaRng
namespace Go.Proofs.Ytkcccoialmineaa
open Go.RowKit
section
variable {F : Fence} {n : Nat} {P : Program}
def setTwo (t : Array Value) (p p' q q' : Tmp) (v v' : Value) : Array Value := (((t.setIfInBounds p v).setIfInBounds p' v').setIfInBounds q v).setIfInBounds q' v'
theorem wpIn_rangeFunc_two {α : Type} {g : Operand} {p p' q q' : Tmp} {e e' : α → Value} {assign body : Code} {Q : Exit → Act → World → Prop} {a : Act} {w : World}
    (hro : F.round = none) (h1 : 1 ≤ n) {gf : Nat} {lb : Array Value} (hg : a.eval g = .func (.func gf) #[] lb) (hFg : F.fn gf) (eg : ∀ args w, (callFunc gf args).run P w = .ok (.enter gf args) w)
    {K : Nat → Prop} {G : List α → Prop} {R : List α → α → Prop} {S : List α → Prop} {w0 : World} (hseq : SeqAt F (n - 1) P gf lb (fun x => #[e x, e' x]) K G R S w0)
    (hb0 : Below w0.heap.size w0 w) (hKw : ∀ k, K k → k < w.heap.size)
    (I : List α → World → Prop) (Ix : Code → List α → World → Prop) (hI : ∀ s A A', I s A → Below w.heap.size A A' → I s A') (hIx : ∀ c s A A', Ix c s A → Below w.heap.size A A' → Ix c s A') (hG : ∀ pre W, I pre W → G pre) (h0 : I [] w)
    (hassign : ∀ (l : Nat) (x : α) (W : World) (C : Act → World → Prop), C { tmps := setTwo a.tmps p p' q q' (e x) (e' x), defers := [] } W → assign.wpIn (F.inRound l) (n - 1 - 1) P (Exit.then C (fun _ _ _ => False)) { tmps := (a.tmps.setIfInBounds p (e x)).setIfInBounds p' (e' x), defers := [] } W)
    (hbody : ∀ (l : Nat) (pre : List α) (x : α) (W : World), w.heap.size + 2 ≤ W.heap.size → I pre W → R pre x → body.wpIn (F.inRound l) (n - 1 - 1) P (ownPostA w.heap.size K I Ix (pre ++ [x]) W) { tmps := setTwo a.tmps p p' q q' (e x) (e' x), defers := [] } W)
    (hdone : ∀ (D : Nat) (xs : List α) (W : World), w.heap.size ≤ D → S xs → I xs W → W.heap[D]? = some (.deferred (some [])) → Q .normal { a with defers := { target := .collected D, args := #[] } :: a.defers } W)
    (hstop : ∀ (D : Nat) (c : Code) (pre : List α) (W : World), w.heap.size ≤ D → Ix c pre W → W.heap[D]? = some (.deferred (some [])) → c.wpIn F n P Q { a with defers := { target := .collected D, args := #[] } :: a.defers } W) :
    (Code.rangeFunc g #[p, p'] assign body).wpIn F n P Q a w :=
  wpIn_rangeFunc_at hro h1 hg hFg eg hseq hb0 hKw (fun _ => rfl) I Ix hI hIx hG h0 (fun x a' _ => a' = { tmps := setTwo a.tmps p p' q q' (e x) (e' x), defers := [] }) (fun _ _ _ _ _ h _ => h)
    (fun l _ x W C _ _ hC => by have := hassign l x W C (hC _ _ (Below.refl _ _) rfl); simpa using this) (fun l pre x a' W hs hi hr ha => by subst ha; exact hbody l pre x W hs hi hr) hdone hstop
end
theorem roundIn_wide {m m' l' : Nat} {P : Program} {l : Nat} {f : FuncId} {tmps : Array Value} {assign body : Code} {w : World} {R : Ending → World → Prop} (h : RoundIn Fence.wide m P l f tmps assign body w R) : RoundIn (Fence.wide.inRound l') m' P l f tmps assign body w R :=
  ⟨h.1, fun c cs _ => h.2 c cs (room_wide _)⟩
end Go.Proofs.Ytkcccoialmineaa
