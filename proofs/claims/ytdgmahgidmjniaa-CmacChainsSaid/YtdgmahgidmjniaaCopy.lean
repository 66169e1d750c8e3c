/-
  copy over blocks of bytes; two results of which the first lies in a block.
-/
import Derived.Test.YtdgmahgidmjniaaBas2
import Derived.Laws.CopyOwn
namespace Go.Proofs.Ytdgmahgidmjniaa
open Go.RowKit
section
variable {P : Program}
theorem Only.setRow (b : Nat) (w : World) (C : Array Value) : Only b w (w.setRow b C) := ⟨rfl, rfl, rfl, size_setRow _ _ _, fun _ hk => heap_setRow_other _ _ _ _ hk⟩
theorem B_one (l : List UInt8) : ∀ v ∈ l.map B, v.oneCell' = true := by
  intro v hv
  obtain ⟨x, _, rfl⟩ := List.mem_map.1 hv
  rfl
theorem wpList_copy_bytes {w : World} {ops : Array Oper} {rest : List Oper} {op : Oper} {a : Act} {Q : Exit → Act → World → Prop} (hgd : op.guard = none) (d s : Operand) (dT sT : TypeId)
    (ho : op.op = .call { callee := .builtin .copy, args := #[d, s], argTypes := #[dT, sT] }) (elem : TypeId) (hu : P.underlying dT = some (.slice elem)) (hsz : (P.info? elem).map (·.size) = some 1)
    (g o dLen dCap b p sLen sCap : Nat) (hd : a.eval d = .slice (some ⟨g, o, none⟩) dLen dCap) (hs : a.eval s = .slice (some ⟨b, p, none⟩) sLen sCap)
    {L M : List UInt8} {t t' : TypeId} (hg : Blk w g (bytesV L) t) (hb : Blk w b (bytesV M) t') (n : Nat) (hn : n = Nat.min sLen dLen) (hM : p + n ≤ M.length) (hL : o + n ≤ L.length)
    (h : ∀ w', Blk w' g (bytesV (L.take o ++ (M.drop p).take n ++ L.drop (o + n))) t → Only g w w' → wpList P ops Q rest (a.put op.dst (.int .i64 n)) w') : wpList P ops Q (op :: rest) a w := by
  have hl : (((M.drop p).take n).map B).length = n := by simp; omega
  refine wpList_copy_own hgd d s dT sT ho elem hu hsz g o dLen dCap ⟨b, p, none⟩ sLen sCap hd hs (bytesV L) t hg (((M.drop p).take n).map B) (by rw [hl, hn]) ?_ (by rw [hl, bytesV_size]; exact hL) (B_one _) ?_
  · intro j v hj
    have hj' : j < n := by
      have := (List.getElem?_eq_some_iff.1 hj).1
      rwa [hl] at this
    rw [show (⟨b, p, none⟩ : Addr).add j = ⟨b, p + j, none⟩ from by unfold Addr.add; split <;> simp_all, hb.cell, bytesV_get, ← hj, List.getElem?_map, List.getElem?_take_of_lt hj', List.getElem?_drop]
  · rw [hl]
    have e : ((bytesV L).toList.take o ++ (((M.drop p).take n).map B ++ (bytesV L).toList.drop (o + n))).toArray = bytesV (L.take o ++ (M.drop p).take n ++ L.drop (o + n)) := by
      rw [bytesV_toList]; simp [bytesV, List.map_take, List.map_drop]
    rw [e]
    exact h _ (hg.setRow _) (Only.setRow _ _ _)
/-- A load of a whole row under a guard that is met. -/
theorem wpList_load_blk_g {ops : Array Oper} {rest : List Oper} {op : Oper} {a : Act} {w : World} {Q : Exit → Act → World → Prop} (ty : TypeId) (x : Operand) (ho : op.op = .load ty x)
    (b o n : Nat) (hx : a.eval x = .pointer (some ⟨b, o, none⟩)) {C : Array Value} {t : TypeId} (hb : Blk w b C t) (hr : RowTy P ty n) (hw : Region.wanted op (yielded ops a.tmps) = true) (hle : o + n ≤ C.size) (V : Array Value) (hV : C.extract o (o + n) = V)
    (h : wpList P ops Q rest (a.put op.dst (.agg V)) w) : wpList P ops Q (op :: rest) a w := by
  obtain ⟨⟨d, hu, hd⟩, hi⟩ := hr
  subst hV
  have hl : (C.extract o (o + n)).toList.length = n := by simp; omega
  refine wpList_step fun K hK => ?_
  rw [if_pos hw]
  refine wp_load_mid ty x ho b o hx (C.extract o (o + n)).toList d (hb.range o n) hu hd (by rw [hl]; exact hi) ?_
  rw [Array.toArray_toList]
  exact hK _ _ h
/-- A store of an integer into a cell of a block: the world behind it is known by its blocks. -/
theorem wpList_store_int {ops : Array Oper} {rest : List Oper} {op : Oper} {a : Act} {w : World} {Q : Exit → Act → World → Prop} (hgd : op.guard = none) (ty : TypeId) (x y : Operand) (ho : op.op = .store ty x y)
    (b o : Nat) (k : IntKind) (n : Int) (hx : a.eval x = .pointer (some ⟨b, o, none⟩)) (hy : a.eval y = .int k n) {C : Array Value} {t : TypeId} (hb : Blk w b C t) (hs : (P.info? ty).map (·.size) = some 1) (hlt : o < C.size)
    (h : ∀ w', Blk w' b (C.setIfInBounds o (.int k n)) t → Only b w w' → wpList P ops Q rest (a.put op.dst undef) w') : wpList P ops Q (op :: rest) a w := by
  have hst := run_storeCells_cells (P := P) b o [.int k n] 0 w (fun j hj => by
      have : j = 0 := by simpa using hj
      subst this
      rw [Nat.add_zero, hb.cell, Array.getElem?_eq_getElem hlt]; rfl) (fun j _ => hb.frozen _) (fun v hv => by
      have : v = .int k n := by simpa using hv
      subst this; rfl)
  have hrun : (storeVar ty ⟨b, o, none⟩ (.int k n)).run P w = .ok () (w.setCell ⟨b, o, none⟩ (.int k n)) := by
    cases hq : P.info? ty with
    | none => simp [hq] at hs
    | some i =>
      have hi : i.size = 1 := by simpa [hq] using hs
      simp [storeVar, sizeOf, typeInfo, hq, hi, Value.cells, hst, World.setCells]
  refine wpList_plain hgd fun K hK => ?_
  unfold Oper.wp execOp
  simp only [ho, hx, hy, Instr.storeAt, Instr.sureAddr, Sem.run_bind, Sem.run_pure, Result.andThen_ok, hrun]
  exact hK _ _ (h _ (hb.set o _) (Only.setCell w o _))
theorem results_blk_tmp {fn : Func} {p q : Tmp} {ty : TypeId} (h : fn.results = #[.cell p ty, .tmp q]) (tmps : Array Value) (w : World) (b : Nat) (C : Array Value) (t : TypeId) (n : Nat) (v : Value)
    (hp : tmps.getD p undef = .pointer (some ⟨b, 0, none⟩)) (hv : tmps.getD q undef = v) (hb : Blk w b C t) (hr : RowTy P ty n) (hn : C.size = n) : (results fn tmps).run P w = .ok (.tuple #[.agg C, v]) w := by
  obtain ⟨⟨d, hu, hd⟩, hi⟩ := hr
  subst hn hv
  have hp' : tmps[p]?.getD undef = .pointer (some ⟨b, 0, none⟩) := by simpa using hp
  simp [results, h, hp', asAddr, run_loadVar_row w b t ty C (0, 0) d hb hu (by cases d <;> first | rfl | cases hd) hi]
end
end Go.Proofs.Ytdgmahgidmjniaa
