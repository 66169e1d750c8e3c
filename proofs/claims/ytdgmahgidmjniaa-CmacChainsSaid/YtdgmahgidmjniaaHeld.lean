/-
  In a region that draws its order, under a condition that is kept: what may be taken first.
-/
import Derived.Test.YtdgmahgidmjniaaTail
import Derived.Test.YtdgmahgidmjniaaEq
namespace Go.Proofs.Ytdgmahgidmjniaa
open Go.RowKit
section
variable {P : Program} {ops : Array Oper} {S : World → Prop} {op : Oper} {a : Act}
theorem yieldsIf_move (hw : Region.wanted op (yielded ops a.tmps) = true) (x : Operand) (ho : op.op = .move x) (v : Value) (hv : a.eval x = v) : YieldsIf P ops S op v a :=
  .inl ⟨hw, fun w _ => by unfold execOp; simp only [ho, hv]; simp⟩
theorem yieldsIf_eql (hw : Region.wanted op (yielded ops a.tmps) = true) (ty t2 : TypeId) (x y : Operand) (ho : op.op = .binOp .eql ty x y t2) {n : Nat} (h : ArrTy P ty n) (hg : P.eqGuardType P.depth ty = false) (l m : List UInt8)
    (hx : a.eval x = .agg (bytesV l)) (hy : a.eval y = .agg (bytesV m)) (hl : l.length = n) (hm : m.length = n) : YieldsIf P ops S op (.bool (decide (l = m))) a :=
  .inl ⟨hw, fun w _ => by
    unfold execOp
    simp only [ho, hx, hy, Sem.run_bind, run_eqGuard_agg w _ _ _ _ _ _ hg, Result.andThen_ok, run_eql_arr h l m hl hm]
    simp⟩
end
end Go.Proofs.Ytdgmahgidmjniaa
