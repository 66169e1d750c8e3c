/-
  Codes: the iterator over the blocks of a message; the sum.
-/
import Derived.Test.YtdgmahgidmjniaaCmcA
import Derived.Laws.CopyRow
import Derived.Laws.IdiomCopy
import Derived.Laws.EntriesVeiled
/-! Codes: the walks of the block, of the doubling. -/
/-! Message authentication codes: the iterator over the blocks of a message. -/
namespace Go.Proofs.Ytdgmahgidmjniaa
open Go.RowKit
attribute [-go_sem] Instr.build
attribute [local go_sem] Oper.semAt_some

/-! ### Plain: the blocks of a message -/
/-- How many bytes block i has. -/
def bln (l : List UInt8) (i : Nat) : Nat := min 16 (l.length - 16 * i)
/-- Block i, filled with zeros. -/
def blk (l : List UInt8) (i : Nat) : List UInt8 := (l.drop (16 * i)).take 16 ++ List.replicate (16 - bln l i) 0
theorem blk_length (l : List UInt8) (i : Nat) : (blk l i).length = 16 := by simp [blk, bln]; omega
/-- How many blocks. -/
def nbl (l : List UInt8) : Nat := if l.length = 0 then 1 else (l.length + 15) / 16
def blkU (l : List UInt8) (k : Nat) : List (List UInt8 × Nat) := (List.range k).map fun i => (blk l i, bln l i)
theorem blkU_length (l : List UInt8) (k : Nat) : (blkU l k).length = k := by simp [blkU]
theorem blkU_succ (l : List UInt8) (k : Nat) : blkU l (k + 1) = blkU l k ++ [(blk l k, bln l k)] := by simp [blkU, List.range_succ]

/-! ### Memory: slices of slices, copies -/
theorem info37 : (Try.prog.info? (Try.prog.elem 37)).map (·.size) = some 1 := by kernel_rfl
theorem run_slice37 (w : World) (a : Option Addr) (n cap m : Nat) (hm : m ≤ n) : (Instr.sliceAt 37 (.slice a n cap) (some (.int .i64 (m : Int))) none none).run Try.prog w = .ok (sliced a m n cap 1) w := by
  have h0 : (0 : Int) ≤ m := by omega
  have h1 : (m : Int) ≤ n := by omega
  have hu : Try.prog.underlying 37 = some (.slice (Try.prog.elem 37)) := by kernel_rfl
  rw [run_sliceAt_slice w 37 _ _ _ _ hu, run_slice_l w 37 a n cap hu .i64 m h0 h1]
  have hs : (sizeOf (Try.prog.elem 37)).run Try.prog w = .ok 1 w := by
    have h := info37
    cases hq : Try.prog.info? (Try.prog.elem 37) with
    | none => rw [hq] at h; cases h
    | some i =>
      rw [hq] at h
      have : i.size = 1 := by simpa using h
      simp [sizeOf, typeInfo, hq, this]
  rw [hs]
  simp
theorem bsl_sliced {w : World} {a : Option Addr} {n cap : Nat} {X : List UInt8} (h : Bsl w (.slice a n cap) X) (m : Nat) (hm : m ≤ n) : Bsl w (sliced a m n cap 1) (X.drop m) := by
  obtain ⟨a1, c1, e, h1, h2, h3, h4⟩ := h
  simp only [Value.slice.injEq] at e
  obtain ⟨rfl, rfl, rfl⟩ := e
  have hl : (X.drop m).length = X.length - m := by simp
  unfold sliced
  refine ⟨_, _, by rw [hl], by rw [hl]; omega, by omega, ?_, ?_⟩
  · intro h
    split at h
    · omega
    · cases a with
      | none => have := h3 rfl; omega
      | some a => cases h
  · intro h0
    rw [hl] at h0
    obtain ⟨b, o, e, hb, hc⟩ := h4 (by omega)
    subst e
    rw [if_neg (by omega)]
    refine ⟨b, o + m, by simp [Addr.add], hb, fun i hi => ?_⟩
    rw [hl] at hi
    rw [Nat.add_assoc, hc (m + i) (by omega), gd_drop]
theorem sliced_blk {a : Option Addr} {m n cap : Nat} {a' : Option Addr} {n' cap' : Nat} (e : sliced a m n cap 1 = .slice a' n' cap') : ∀ b o s, a' = some ⟨b, o, s⟩ → ∃ o' s', a = some ⟨b, o', s'⟩ := by
  intro b o s h
  unfold sliced at e
  simp only [Value.slice.injEq] at e
  obtain ⟨e, _, _⟩ := e
  rw [h] at e
  split at e
  · exact ⟨o, s, e⟩
  · cases a with
    | none => cases e
    | some x =>
      obtain ⟨b', o', s'⟩ := x
      simp only [Option.map_some, Option.some.injEq] at e
      have e' : b' = b := by
        unfold Addr.add at e
        split at e <;> simp_all
      exact ⟨o', s', by rw [e']⟩
/-- copy of a slice's bytes to the head of a block. -/
theorem run_copy_bsl {w : World} {g t : Nat} {L X : List UInt8} {a : Option Addr} {n cap : Nat} (ty : TypeId) (hg : Blk w g (bytesV L) t) (hs : Bsl w (.slice a n cap) X) (k : Nat) (hL : L.length = k) :
    ∃ w', (Builtin.copy_ #[37, 37] ty #[.slice (some ⟨g, 0, none⟩) k k, .slice a n cap]).run Try.prog w = .ok (.int .i64 (min n k : Nat)) w' ∧ Blk w' g (bytesV (X.take k ++ L.drop (min n k))) t ∧ Only g w w' := by
  obtain ⟨a1, c1, e, h1, h2, h3, h4⟩ := hs
  simp only [Value.slice.injEq] at e
  obtain ⟨rfl, rfl, rfl⟩ := e
  by_cases h0 : min X.length k = 0
  · refine ⟨w, ?_, ?_, Only.refl _ _⟩
    · rw [run_copy_none w 37 37 ty 5 _ _ _ _ _ _ elem37 size5 h0, h0]; rfl
    · rw [h0, List.drop_zero]
      have : X.take k = [] := by
        apply List.eq_nil_of_length_eq_zero
        rw [List.length_take]; omega
      rw [this]; exact hg
  · obtain ⟨b, o, e, hb, hc⟩ := h4 (by omega)
    subst e
    have hl : (X.take k).length = min X.length k := by simp; omega
    have hr := run_copy_row Try.prog w 37 37 ty 5 g 0 k k ⟨b, o, none⟩ X.length cap (bytesV L) t ((X.take k).map B) elem37 size5 hg (by rw [List.length_map, hl]) (fun j v hj => ?_) (by rw [List.length_map, hl, bytesV_size]; omega) (B_one _)
    · refine ⟨_, hr.trans ?_, hg.setRow _, Only.setRow _ _ _⟩
      · rw [List.length_map, hl]
        have e : ((bytesV L).toList.take 0 ++ (X.take k).map B ++ (bytesV L).toList.drop (0 + min X.length k)).toArray = bytesV (X.take k ++ L.drop (min X.length k)) := by
          rw [bytesV_toList]; simp [bytesV, List.map_take, List.map_drop]
        rw [e]; rfl
    · rw [List.getElem?_map] at hj
      have hj' : j < (X.take k).length := by
        apply Decidable.byContradiction
        intro hn
        rw [List.getElem?_eq_none (by omega)] at hj
        cases hj
      rw [List.getElem?_eq_getElem hj', Option.map_some, Option.some.injEq] at hj
      rw [Go.WideShapes.add_plain, hc j (by omega), ← hj]
      simp [gd, B, show j < X.length by omega]
section
variable {F : Fence} {n : Nat} {ops : Array Oper} {rest : List Oper} {op : Oper} {a : Act} {w : World} {Q : Exit → Act → World → Prop}
theorem wpListIn_copy_bsl (hgd : op.guard = none) (d s : Operand) (ho : op.op = .call { callee := .builtin .copy, args := #[d, s], argTypes := #[37, 37] })
    {g t : Nat} {L X : List UInt8} {ad : Option Addr} {m cap : Nat} (k : Nat) (hd : a.eval d = .slice (some ⟨g, 0, none⟩) k k) (hs : a.eval s = .slice ad m cap) (hg : Blk w g (bytesV L) t) (hb : Bsl w (.slice ad m cap) X) (hL : L.length = k)
    (h : ∀ w', Blk w' g (bytesV (X.take k ++ L.drop (min m k))) t → Only g w w' → wpListIn F n Try.prog ops Q rest (a.put op.dst (.int .i64 (min m k : Nat))) w') : wpListIn F n Try.prog ops Q (op :: rest) a w := by
  obtain ⟨w', hr, h1, h2⟩ := run_copy_bsl op.type hg hb k hL
  refine wpListIn_plain hgd fun K hK => wpIn_of_calm (by rw [ho]; rfl) ?_
  unfold Oper.wp
  simp [execOp, ho, resolve, invoke, builtin, hd, hs, hr, Result.andThen]
  exact hK _ _ (h w' h1 h2)
theorem wpListIn_slice_bsl (hgd : op.guard = none) (x y : Operand) (ho : op.op = .slice 37 x (some y) none none) {ad : Option Addr} {N cap : Nat} (m : Nat) (hx : a.eval x = .slice ad N cap) (hy : a.eval y = .int .i64 m) (hm : m ≤ N)
    (h : wpListIn F n Try.prog ops Q rest (a.put op.dst (sliced ad m N cap 1)) w) : wpListIn F n Try.prog ops Q (op :: rest) a w := by
  refine wpListIn_plain hgd fun K hK => wpIn_of_calm (by rw [ho]; rfl) ?_
  unfold Oper.wp
  simp only [execOp, ho, hx, hy, Option.map_some, Option.map_none, Sem.run_bind, run_slice37 w ad N cap m hm, Result.andThen_ok, Sem.run_pure]
  exact hK _ _ h
theorem wpListIn_load_blk {P : Program} (hgd : op.guard = none) (ty : TypeId) (x : Operand) (ho : op.op = .load ty x)
    (b o m : Nat) (hx : a.eval x = .pointer (some ⟨b, o, none⟩)) {C : Array Value} {t : TypeId} (hb : Blk w b C t) (hr : RowTy P ty m) (hle : o + m ≤ C.size) (V : Array Value) (hV : C.extract o (o + m) = V)
    (h : wpListIn F n P ops Q rest (a.put op.dst (.agg V)) w) : wpListIn F n P ops Q (op :: rest) a w := by
  obtain ⟨⟨d, hu, hd⟩, hi⟩ := hr
  subst hV
  have hl : (C.extract o (o + m)).toList.length = m := by simp; omega
  refine wpListIn_plain hgd fun K hK => wpIn_of_calm (by rw [ho]; rfl) ?_
  refine wp_load_mid ty x ho b o hx (C.extract o (o + m)).toList d (hb.range o m) hu hd (by rw [hl]; exact hi) ?_
  rw [Array.toArray_toList]
  exact hK _ _ h
end

def msgK (k1 : Nat) (a : Option Addr) (n k : Nat) : Prop := k = k1 ∨ (0 < n ∧ ∃ o s, a = some ⟨k, o, s⟩)
theorem bsl_keeps {B : Nat} {K : Nat → Prop} {W W' : World} {a : Option Addr} {n cap : Nat} {l : List UInt8} (h : Bsl W (.slice a n cap) l) (k : Keeps B K W W') (hK : ∀ b o, a = some ⟨b, o, none⟩ → B ≤ b ∨ K b) : Bsl W' (.slice a n cap) l := by
  obtain ⟨a1, c1, e, h1, h2, h3, h4⟩ := h
  refine ⟨a1, c1, e, h1, h2, h3, fun h0 => ?_⟩
  simp only [Value.slice.injEq] at e
  obtain ⟨rfl, rfl, rfl⟩ := e
  obtain ⟨b, o, e, hlt, hc⟩ := h4 h0
  exact ⟨b, o, e, Nat.lt_of_lt_of_le hlt k.size, fun i hi => cell_keeps (p := ⟨b, o + i, none⟩) (hc i hi) k hlt (hK b o e)⟩
theorem nbl_last (l : List UInt8) (i : Nat) (hi : i < nbl l) : (bln l i = (l.drop (16 * i)).length ↔ i + 1 = nbl l) := by
  unfold nbl at *
  unfold bln
  rw [List.length_drop]
  split at hi <;> rename_i h0
  · rw [if_pos h0]; omega
  · rw [if_neg h0]; omega
set_option maxRecDepth 100000 in
set_option maxHeartbeats 4000000 in
theorem blocks_seq (n : Nat) (hn : 1 ≤ n) (l : List UInt8) (a : Option Addr) (cap k1 : Nat) (w : World) (hlen : l.length ≤ 100000) (hk1 : Blk w k1 #[.slice a l.length cap] 37) (hb : Bsl w (.slice a l.length cap) l) :
    SeqAt Fence.wide n Try.prog 91 #[.pointer (some ⟨k1, 0, none⟩)] (fun x : List UInt8 × Nat => #[.agg (bytesV x.1), .int .i64 x.2])
      (msgK k1 a l.length) (fun _ => True) (fun pre x => pre.length < nbl l ∧ x = (blk l pre.length, bln l pre.length)) (fun xs => xs = blkU l (nbl l)) w := fun lp J Jx W hW hJ hJx hG hY h0 => by
  have z1 : ∀ w, (zeroValue 97).run Try.prog w = .ok (.agg (bytesV Z16)) w := (zero_of_info zero97).1
  have d1 := hk1.below hW hk1.lt
  have db := hb.below hW
  have f1 := d1.cell 0
  simp only [List.getElem?_toArray, List.getElem?_cons_zero] at f1
  have hY' := Lib.hid hY
  have hJ' := Lib.hid hJ
  clear hG hY hJx hb hk1 hW hJ
  have hKw : Keeps W.heap.size (msgK k1 a l.length) W W := Keeps.refl _ _ _
  refine callsIn_of_wp Try.func91 rfl trivial ?_ rfl
  simp only [Try.ntmps91, List.size_toArray, List.length_cons, List.length_nil, Nat.reduceAdd, Nat.reduceSub, Array.replicate_succ, Array.replicate_zero, List.push_toArray, List.append_toArray, List.nil_append, List.cons_append]
  gi_wp2
  gi_loopw [3] (fun t3 wr => ∃ (k : Nat) (ar : Option Addr) (cr : Nat), k < nbl l ∧ t3 = .slice ar (l.drop (16 * k)).length cr ∧ Bsl wr (.slice ar (l.drop (16 * k)).length cr) (l.drop (16 * k)) ∧ (∀ b o s, ar = some ⟨b, o, s⟩ → ∃ o' s', a = some ⟨b, o', s'⟩) ∧ J (blkU l k) wr ∧ Keeps W.heap.size (msgK k1 a l.length) W wr) (fun t _ => match t with | .slice _ m _ => m | _ => 0)
  case atStart => exact ⟨0, a, cap, by unfold nbl; split <;> omega, rfl, db, fun b o s h => ⟨o, s, h⟩, h0, hKw⟩
  case round =>
    clear h0 hKw db
    obtain ⟨k, ar, cr, hk, rfl, hr, har, h0, hKw⟩ := hrel
    have hlast := Lib.hid (nbl_last l k hk)
    obtain ⟨X, hX⟩ : ∃ X, X = l.drop (16 * k) := ⟨_, rfl⟩
    have hXl : X.length ≤ 100000 := by rw [hX, List.length_drop]; omega
    rw [← hX] at hr hlast ⊢
    have hXl' := Lib.hid hXl
    have hbk : bln l k = min X.length 16 := by rw [bln, hX, List.length_drop]; omega
    have hbl : blk l k = X.take 16 ++ Z16.drop (min X.length 16) := by
      rw [blk, hbk, hX]; congr 1
      rw [Z16, List.drop_replicate]
    obtain ⟨m, hm⟩ : ∃ m, m = min X.length 16 := ⟨_, rfl⟩
    rw [← hm] at hbk hbl
    have hmX : m ≤ X.length := by omega
    have hm16 : m ≤ 16 := by omega
    have hsl := fun w' (h : Bsl w' (.slice ar X.length cr) X) => bsl_sliced h m hmX
    obtain ⟨ar', cr', hsd, har'⟩ : ∃ ar' cr', sliced ar m X.length cr 1 = .slice ar' (X.length - m) cr' ∧ ∀ b o s, ar' = some ⟨b, o, s⟩ → ∃ o' s', ar = some ⟨b, o', s'⟩ := ⟨_, _, rfl, sliced_blk (n := X.length) rfl⟩
    rw [hsd] at hsl
    have hK9 : ∀ b o s, ar' = some ⟨b, o, s⟩ → ∃ o' s', a = some ⟨b, o', s'⟩ := fun b o s h => by
      obtain ⟨o1, s1, h1⟩ := har' b o s h
      exact har b o1 s1 h1
    replace hX := Lib.hid hX
    replace hbl := Lib.hid hbl
    replace hbk := Lib.hid hbk
    replace hm := Lib.hid hm
    replace hsl := Lib.hid hsl
    replace hsd := Lib.hid hsd
    replace har := Lib.hid har
    replace har' := Lib.hid har'
    replace hK9 := Lib.hid hK9
    have hnx := Lib.hid (blkU_succ l k)
    have hr1 := hr.below ((Below.refl wr.heap.size wr).alloc (Nat.le_refl _) (.cells (bytesV Z16) 97))
    have hXi : (X.length : Int) ≤ 100000 := by omega
    by_cases hz : X.length ≤ 16
    · have hmz : X.length - m = 0 := by have := hm.out; omega
      rw [hmz] at hsd hsl
      gi_wp2_with (first
        | ((with_reducible refine wpListIn_copy_bsl rfl (.tmp 7) (.tmp 8) rfl (L := Z16) (X := X) (t := 97) 16 rfl rfl (Blk.new' rfl) hr1 rfl ?_); intro w2 d2 o2; rw [← hm.out]; rw [← hm.out, ← hbl.out] at d2; (have hb2 := below_only ((Below.refl wr.heap.size wr).alloc (Nat.le_refl _) (.cells (bytesV Z16) 97)) o2 (Nat.le_refl _)); (obtain ⟨fn, tmps, assign, body, hy, hR⟩ := hY'.out _ (blk l k, bln l k) w2 (hJ'.out _ _ _ h0 (hb2.mono hKw.size)) ⟨by rw [blkU_length]; exact hk, by rw [blkU_length]⟩); dsimp only at hy; rw [hbk.out] at hy)
        | ((with_reducible refine wpListIn_slice_bsl rfl (.tmp 10) (.tmp 11) rfl m rfl rfl hmX ?_); rw [hsd.out])
        | ((with_reducible refine wpListIn_load_blk rfl 97 (.tmp 4) rfl wr.heap.size 0 16 rfl d2 row97 ?_ (bytesV (blk l k)) ?_ ?_); (rw [bytesV_size, blk_length]; exact Nat.le_refl _); (exact bytesV_whole _ _ (blk_length _ _)))
        | fail)
      refine hR.mono ?_
      rintro e W3 (⟨rfl, hJ3, hk3⟩ | ⟨rfl, hJx3, hk3⟩)
      · gi_wp2
        refine bodyPost_ret (results_none rfl _ _ _) rfl ?_
        have hk1 : k + 1 = nbl l := hlast.out.1 (by rw [hbk.out]; omega)
        exact ⟨⟨_, rfl⟩, .inl ⟨_, rfl, by rw [← hk1, hnx.out]; exact hJ3⟩⟩
      · gi_wp2
        refine bodyPost_ret (results_none rfl _ _ _) rfl ?_
        exact ⟨⟨_, rfl⟩, .inr ⟨_, hJx3⟩⟩
    · obtain ⟨n', hn'⟩ : ∃ n', n' = X.length - m := ⟨_, rfl⟩
      rw [← hn'] at hsd hsl
      have hn0 : 0 < n' := by have := hm.out; omega
      have hni : ¬ (n' : Int) = 0 := by omega
      replace hn' := Lib.hid hn'
      gi_wp2_with (first
        | ((with_reducible refine wpListIn_copy_bsl rfl (.tmp 7) (.tmp 8) rfl (L := Z16) (X := X) (t := 97) 16 rfl rfl (Blk.new' rfl) hr1 rfl ?_); intro w2 d2 o2; rw [← hm.out]; rw [← hm.out, ← hbl.out] at d2; (have hb2 := below_only ((Below.refl wr.heap.size wr).alloc (Nat.le_refl _) (.cells (bytesV Z16) 97)) o2 (Nat.le_refl _)); (obtain ⟨fn, tmps, assign, body, hy, hR⟩ := hY'.out _ (blk l k, bln l k) w2 (hJ'.out _ _ _ h0 (hb2.mono hKw.size)) ⟨by rw [blkU_length]; exact hk, by rw [blkU_length]⟩); dsimp only at hy; rw [hbk.out] at hy)
        | ((with_reducible refine wpListIn_slice_bsl rfl (.tmp 10) (.tmp 11) rfl m rfl rfl hmX ?_); rw [hsd.out])
        | ((with_reducible refine wpListIn_load_blk rfl 97 (.tmp 4) rfl wr.heap.size 0 16 rfl d2 row97 ?_ (bytesV (blk l k)) ?_ ?_); (rw [bytesV_size, blk_length]; exact Nat.le_refl _); (exact bytesV_whole _ _ (blk_length _ _)))
        | fail)
      have hk9 : ∀ b o, ar' = some ⟨b, o, none⟩ → W.heap.size ≤ b ∨ msgK k1 a l.length b := fun b o h => .inr (.inr ⟨by have h1 := hX.out; rw [h1, List.length_drop] at hz; omega, hK9.out b o none h⟩)
      have hsw : Bsl w2 (.slice ar' n' cr') (X.drop m) := hsl.out _ (hr.below hb2)
      have hKw2 := hKw.next hb2
      have hm16e : m = 16 := by have := hm.out; omega
      have hXd : X.drop m = l.drop (16 * (k + 1)) := by
        rw [hX.out, List.drop_drop, hm16e]; rfl
      have hdl : (l.drop (16 * (k + 1))).length = n' := by rw [← hXd, List.length_drop, hn'.out]
      have hk1 : k + 1 < nbl l := by
        have h1 : ¬ k + 1 = nbl l := fun h => by
          have := hlast.out.2 h
          rw [hbk.out] at this
          omega
        omega
      replace hXd := Lib.hid hXd
      replace hdl := Lib.hid hdl
      replace hm16e := Lib.hid hm16e
      refine hR.mono ?_
      rintro e W3 (⟨rfl, hJ3, hk3⟩ | ⟨rfl, hJx3, hk3⟩)
      · gi_wp2
        have hb3 := bsl_keeps hsw hk3 hk9
        go_roundw
        case rel => exact ⟨k + 1, ar', cr', hk1, by rw [hdl.out], by rw [hdl.out, ← hXd.out]; exact hb3, hK9.out, by rw [hnx.out]; exact hJ3, hKw2.trans hk3⟩
        case measure => have := hn'.out; have := hm16e.out; simp; omega
      · gi_wp2
        refine bodyPost_ret (results_none rfl _ _ _) rfl ?_
        exact ⟨⟨_, rfl⟩, .inr ⟨_, hJx3⟩⟩
end Go.Proofs.Ytdgmahgidmjniaa

/-! Message authentication codes: the last block. -/
namespace Go.Proofs.Ytdgmahgidmjniaa
open Go.RowKit
attribute [-go_sem] Instr.build

/-- The last block (with n bytes of the message) as it is combined. -/
def lastL (key b : List UInt8) (n : Nat) : List UInt8 := if n = 16 then xrL b (sub1 key) else xrL (b.set n 0x80) (sub2 key)
theorem lastL_length (key b : List UInt8) (n : Nat) (hb : b.length = 16) : (lastL key b n).length = 16 := by
  unfold lastL
  split
  · rw [xrL_length, sub1_length]; omega
  · rw [xrL_length, sub2_length, List.length_set]; omega
set_option maxRecDepth 100000 in
set_option maxHeartbeats 4000000 in
theorem last_any (key : List UInt8) (hk : key.length = 16) (g : Nat) (b : List UInt8) (hb : b.length = 16) (n : Nat) (hn : n ≤ 16) (w : World) (hg : Blk w g (bytesV key) 22) :
    Calls Try.prog 86 #[.agg (bytesV b), .int .i64 n, .pointer (some ⟨g, 0, none⟩)] w fun e w' => e = .returned (.agg (bytesV (lastL key b n))) ∧ Below w.heap.size w w' := by
  have z1 : ∀ w, (zeroValue 97).run Try.prog w = .ok (.agg (bytesV Z16)) w := (zero_of_info zero97).1
  have z2 : ∀ w, (zeroValue 22).run Try.prog w = .ok (.agg (bytesV Z16)) w := (zero_of_info zero22).1
  have hsub := fun w => subkeys_any key hk w
  obtain ⟨A, hA⟩ : ∃ A, A = sub1 key := ⟨_, rfl⟩
  obtain ⟨D, hD⟩ : ∃ D, D = sub2 key := ⟨_, rfl⟩
  have hAl := Lib.hid (show A.length = 16 by rw [hA, sub1_length])
  have hDl := Lib.hid (show D.length = 16 by rw [hD, sub2_length])
  rw [← hA, ← hD] at hsub
  obtain ⟨W, hW⟩ : ∃ W, W = (w.alloc (.cells (bytesV b) 97)).alloc (.cells (bytesV Z16) 97) := ⟨_, rfl⟩
  have b0 : Blk W w.heap.size (bytesV b) 97 := by rw [hW]; exact (Blk.new' rfl).alloc _
  have b1 : Blk W (w.heap.size + 1) (bytesV Z16) 97 := by rw [hW]; exact Blk.new' (by simp)
  have bg : Blk W g (bytesV key) 22 := by rw [hW]; exact (hg.alloc _).alloc _
  have hB : Below w.heap.size w W := by rw [hW]; exact ((Below.refl _ _).alloc (Nat.le_refl _) _).alloc (by simp) _
  have hgl := hg.lt
  have HW := Lib.hid hW
  clear hW hg
  have s5 : (Try.prog.info? 5).map (·.size) = some 1 := by kernel_rfl
  have hni : (n : Int) ≤ 16 := by omega
  by_cases h16 : n = 16
  · have hL : lastL key b n = xrL b A := by rw [lastL, if_pos h16, hA]
    have hXl := Lib.hid (show (xrL b A).length = 16 by rw [xrL_length, hAl.out]; omega)
    have hpl := fun w => plus_any b A hb hAl.out w
    rw [hL]
    obtain ⟨X, hX⟩ : ∃ X, X = xrL b A := ⟨_, rfl⟩
    rw [← hX] at hXl hpl ⊢
    clear hX hL hA hD
    subst h16
    go_enter Try.func86, Try.ntmps86
    go_wp2_with (first
      | ((with_reducible refine wpList_load_blk rfl 22 (.tmp 2) rfl g 0 16 rfl (HW.out ▸ bg) row22 ?_ (bytesV key) ?_ ?_); (rw [bytesV_size, hk]; exact Nat.le_refl _); (exact bytesV_whole _ _ hk))
      | (go_at_call 49; rw [← HW.out]; (with_reducible refine (hsub _).mono ?_); rintro e w2 ⟨rfl, hb1⟩; replace b0 := b0.below hb1 b0.lt; replace b1 := b1.below hb1 b1.lt; replace hB := bnext hB hb1; clear hb1 bg; have n0 := b1.lt; (obtain ⟨V, hV⟩ : ∃ V, V = (w2.alloc (.cells (bytesV Z16) 22)).alloc (.cells (bytesV Z16) 22) := ⟨_, rfl⟩); have c0 : Blk V w2.heap.size (bytesV Z16) 22 := (by rw [hV]; exact (Blk.new' rfl).alloc _); have c1 : Blk V (w2.heap.size + 1) (bytesV Z16) 22 := (by rw [hV]; exact Blk.new' (by simp)); have hbV : Below w2.heap.size w2 V := (by rw [hV]; exact ((Below.refl _ _).alloc (Nat.le_refl _) _).alloc (by simp) _); have HV := Lib.hid hV; clear hV; replace b0 := b0.below hbV b0.lt; replace b1 := b1.below hbV b1.lt; replace hB := bnext hB hbV)
      | (rw [← HV.out]; (with_reducible refine wpList_store_blk rfl 22 (.tmp 6) (.tmp 11) rfl w2.heap.size 0 16 (bytesV A) rfl rfl c0 row22 ?_ ?_ (bytesV_one _) ?_); (rw [bytesV_size, hAl.out]); (rw [bytesV_size]; decide); intro w3 d0 o3; rw [splice_all _ _ (by rw [hAl.out]; rfl)] at d0; replace c1 := c1.only o3 (by omega); replace b0 := b0.only o3 (by omega); replace b1 := b1.only o3 (by omega); replace hB := below_only hB o3 (by omega); clear o3 c0)
      | ((with_reducible refine wpList_store_blk rfl 22 (.tmp 7) (.tmp 12) rfl (w2.heap.size + 1) 0 16 (bytesV D) rfl rfl c1 row22 ?_ ?_ (bytesV_one _) ?_); (rw [bytesV_size, hDl.out]); (rw [bytesV_size]; decide); intro w4 d1 o4; rw [splice_all _ _ (by rw [hDl.out]; rfl)] at d1; replace d0 := d0.only o4 (by omega); replace b0 := b0.only o4 (by omega); replace b1 := b1.only o4 (by omega); replace hB := below_only hB o4 (by omega); clear o4 c1)
      | ((with_reducible refine wpList_load_blk rfl 97 (.tmp 3) rfl w.heap.size 0 16 rfl b0 row97 ?_ (bytesV b) ?_ ?_); (rw [bytesV_size, hb]; exact Nat.le_refl _); (exact bytesV_whole _ _ hb))
      | ((with_reducible refine wpList_load_blk rfl 22 (.tmp 6) rfl w2.heap.size 0 16 rfl d0 row22 ?_ (bytesV A) ?_ ?_); (rw [bytesV_size, hAl.out]; exact Nat.le_refl _); (exact bytesV_whole _ _ hAl.out))
      | (go_at_call 87; (with_reducible refine (hpl _).mono ?_); rintro e w5 ⟨rfl, hb5⟩; replace b1 := b1.below hb5 b1.lt; replace hB := bnext hB hb5; clear hb5 d0 d1)
      | ((with_reducible refine wpList_store_blk rfl 97 (.tmp 5) (.tmp 17) rfl (w.heap.size + 1) 0 16 (bytesV X) rfl rfl b1 row97 ?_ ?_ (bytesV_one _) ?_); (rw [bytesV_size, hXl.out]); (rw [bytesV_size]; decide); intro w6 d6 o6; rw [splice_all _ _ (by rw [hXl.out]; rfl)] at d6)
      | fail)
    refine bodyPost_ret (results_blk rfl _ _ _ (bytesV X) 97 16 rfl d6 row97 (by rw [bytesV_size, hXl.out])) rfl ?_
    exact ⟨rfl, below_only hB o6 (by omega)⟩
  · have hL : lastL key b n = xrL (b.set n 0x80) D := by rw [lastL, if_neg h16, hD]
    obtain ⟨b2, hb2⟩ : ∃ b2, b2 = b.set n 0x80 := ⟨_, rfl⟩
    have hb2l := Lib.hid (show b2.length = 16 by rw [hb2, List.length_set, hb])
    rw [← hb2] at hL
    have hXl := Lib.hid (show (xrL b2 D).length = 16 by rw [xrL_length, hb2l.out, hDl.out]; omega)
    have hpl := fun w => plus_any b2 D hb2l.out hDl.out w
    rw [hL]
    obtain ⟨X, hX⟩ : ∃ X, X = xrL b2 D := ⟨_, rfl⟩
    rw [← hX] at hXl hpl ⊢
    have HB2 := Lib.hid hb2
    clear hX hL hA hD hb2
    have hnl : (n : Int) < 16 := by omega
    have hne : ¬ (n : Int) = 16 := by omega
    clear h16
    go_enter Try.func86, Try.ntmps86
    go_wp2_with (first
      | ((with_reducible refine wpList_load_blk rfl 22 (.tmp 2) rfl g 0 16 rfl (HW.out ▸ bg) row22 ?_ (bytesV key) ?_ ?_); (rw [bytesV_size, hk]; exact Nat.le_refl _); (exact bytesV_whole _ _ hk))
      | (go_at_call 49; rw [← HW.out]; (with_reducible refine (hsub _).mono ?_); rintro e w2 ⟨rfl, hb1⟩; replace b0 := b0.below hb1 b0.lt; replace b1 := b1.below hb1 b1.lt; replace hB := bnext hB hb1; clear hb1 bg; have n0 := b1.lt; (obtain ⟨V, hV⟩ : ∃ V, V = (w2.alloc (.cells (bytesV Z16) 22)).alloc (.cells (bytesV Z16) 22) := ⟨_, rfl⟩); have c0 : Blk V w2.heap.size (bytesV Z16) 22 := (by rw [hV]; exact (Blk.new' rfl).alloc _); have c1 : Blk V (w2.heap.size + 1) (bytesV Z16) 22 := (by rw [hV]; exact Blk.new' (by simp)); have hbV : Below w2.heap.size w2 V := (by rw [hV]; exact ((Below.refl _ _).alloc (Nat.le_refl _) _).alloc (by simp) _); have HV := Lib.hid hV; clear hV; replace b0 := b0.below hbV b0.lt; replace b1 := b1.below hbV b1.lt; replace hB := bnext hB hbV)
      | (rw [← HV.out]; (with_reducible refine wpList_store_blk rfl 22 (.tmp 6) (.tmp 11) rfl w2.heap.size 0 16 (bytesV A) rfl rfl c0 row22 ?_ ?_ (bytesV_one _) ?_); (rw [bytesV_size, hAl.out]); (rw [bytesV_size]; decide); intro w3 d0 o3; rw [splice_all _ _ (by rw [hAl.out]; rfl)] at d0; replace c1 := c1.only o3 (by omega); replace b0 := b0.only o3 (by omega); replace b1 := b1.only o3 (by omega); replace hB := below_only hB o3 (by omega); clear o3 c0)
      | ((with_reducible refine wpList_store_blk rfl 22 (.tmp 7) (.tmp 12) rfl (w2.heap.size + 1) 0 16 (bytesV D) rfl rfl c1 row22 ?_ ?_ (bytesV_one _) ?_); (rw [bytesV_size, hDl.out]); (rw [bytesV_size]; decide); intro w4 d1 o4; rw [splice_all _ _ (by rw [hDl.out]; rfl)] at d1; replace d0 := d0.only o4 (by omega); replace b0 := b0.only o4 (by omega); replace b1 := b1.only o4 (by omega); replace hB := below_only hB o4 (by omega); clear o4 c1)
      | ((with_reducible refine wpList_store_int rfl 5 (.tmp 19) _ rfl w.heap.size n .u8 128 rfl rfl b0 s5 ?_ ?_); (rw [bytesV_size, hb]; omega); intro w7 e0 o7; replace e0 : Blk w7 w.heap.size (bytesV b2) 97 := (by rw [HB2.out, ← bytesV_set]; exact e0); replace d1 := d1.only o7 (by omega); replace b1 := b1.only o7 (by omega); replace hB := below_only hB o7 (Nat.le_refl _); clear o7 b0 d0)
      | ((with_reducible refine wpList_load_blk rfl 97 (.tmp 3) rfl w.heap.size 0 16 rfl e0 row97 ?_ (bytesV b2) ?_ ?_); (rw [bytesV_size, hb2l.out]; exact Nat.le_refl _); (exact bytesV_whole _ _ hb2l.out))
      | ((with_reducible refine wpList_load_blk rfl 22 (.tmp 7) rfl (w2.heap.size + 1) 0 16 rfl d1 row22 ?_ (bytesV D) ?_ ?_); (rw [bytesV_size, hDl.out]; exact Nat.le_refl _); (exact bytesV_whole _ _ hDl.out))
      | (go_at_call 87; (with_reducible refine (hpl _).mono ?_); rintro e w5 ⟨rfl, hb5⟩; replace b1 := b1.below hb5 b1.lt; replace hB := bnext hB hb5; clear hb5 d1)
      | ((with_reducible refine wpList_store_blk rfl 97 (.tmp 5) (.tmp 22) rfl (w.heap.size + 1) 0 16 (bytesV X) rfl rfl b1 row97 ?_ ?_ (bytesV_one _) ?_); (rw [bytesV_size, hXl.out]); (rw [bytesV_size]; decide); intro w6 d6 o6; rw [splice_all _ _ (by rw [hXl.out]; rfl)] at d6)
      | fail)
    refine bodyPost_ret (results_blk rfl _ _ _ (bytesV X) 97 16 rfl d6 row97 (by rw [bytesV_size, hXl.out])) rfl ?_
    exact ⟨rfl, below_only hB o6 (by omega)⟩
end Go.Proofs.Ytdgmahgidmjniaa

/-! Message authentication codes: the code of a message of any length. -/
namespace Go.Proofs.Ytdgmahgidmjniaa
open Go.RowKit
attribute [-go_sem] Instr.build
attribute [local go_sem] Oper.semAt_some

/-- Block i of l as it is combined. -/
def macB (key l : List UInt8) (i : Nat) : List UInt8 := if i + 1 = nbl l then lastL key (blk l i) (bln l i) else blk l i
/-- The state after k blocks. -/
def macS (key l : List UInt8) : Nat → List UInt8
  | 0 => Z16
  | i + 1 => encR (ksL key 160) (xrL (macS key l i) (macB key l i)) 10
/-- The code of l. -/
def cmacL (key l : List UInt8) : List UInt8 := macS key l (nbl l)
theorem macB_length (key l : List UInt8) (i : Nat) : (macB key l i).length = 16 := by
  unfold macB
  split
  · exact lastL_length _ _ _ (blk_length _ _)
  · exact blk_length _ _
theorem macS_length (key l : List UInt8) (i : Nat) : (macS key l i).length = 16 := by
  cases i with
  | zero => rfl
  | succ i => exact encR_length _ _ _
theorem cmacL_length (key l : List UInt8) : (cmacL key l).length = 16 := macS_length _ _ _

section
variable {F : Fence} {n : Nat} {P : Program} {ops : Array Oper} {rest : List Oper} {op : Oper} {a : Act} {w : World} {Q : Exit → Act → World → Prop}
theorem wpListIn_store_blk (hgd : op.guard = none) (ty : TypeId) (x y : Operand) (ho : op.op = .store ty x y)
    (b o m : Nat) (V : Array Value) (hx : a.eval x = .pointer (some ⟨b, o, none⟩)) (hy : a.eval y = .agg V) {C : Array Value} {t : TypeId} (hb : Blk w b C t) (hr : RowTy P ty m) (hV : V.size = m) (hle : o + m ≤ C.size)
    (h1 : V.all (·.oneCell') = true) (h : ∀ w', Blk w' b (splice C o V.toList) t → Only b w w' → wpListIn F n P ops Q rest (a.put op.dst undef) w') : wpListIn F n P ops Q (op :: rest) a w := by
  refine wpListIn_plain hgd fun K hK => wpIn_of_calm (by rw [ho]; rfl) ?_
  exact wp_store_blk ty x y ho b o m V hx hy hb hr hV hle h1 fun w' h2 h3 => hK _ _ (h w' h2 h3)
end
theorem blocks_any (a : Option Addr) (n cap : Nat) (w : World) :
    Calls Try.prog 88 #[.slice a n cap] w fun e w' => ∃ B, B = w.heap.size ∧ e = .returned (.func (.func 91) #[] #[.pointer (some ⟨B, 0, none⟩)]) ∧ Blk w' B #[.slice a n cap] 37 ∧ Below w.heap.size w w' ∧ w'.heap.size = w.heap.size + 1 := by
  go_enter Try.func88, Try.ntmps88
  go_wp2
  go_ret
  exact ⟨_, rfl, rfl, Blk.new' rfl, (Below.refl _ _).alloc (Nat.le_refl _) _, by simp⟩
theorem cf91 (args : Array Value) (w : World) : (callFunc 91 args).run Try.prog w = .ok (.enter 91 args) w := Go.MuLone.run_callFunc_enter (f := 91) Try.func91 rfl rfl args w

theorem wpAnyT_takeD {P : Program} {md : Region.Mode} {ops : Array Oper} {Q : Exit → Act → World → Prop} {S : World → Prop} {m : Nat} (i : Nat) (d : Option Tmp) (p : List Nat) {oi : Oper} {v : Value} {fuel : Nat} {listed : Array Bool} {a : Act} {w : World} (hi : ops[i]? = some oi) (hd : oi.dst = d)
    (hs : Region.noSelect ops = true) (hf : Region.free md ops listed i = true) (hr : (Region.ready md ops listed).contains i = true) (hp : (closedB md ops listed && pathB md ops (i :: p) && p.contains m) = true)
    (hQ : ∀ c a w, Q (.panic c) (a.put oi.dst v) w → Q (.panic c) a w) (hy : YieldsIf P ops S oi v a) (hS : S w)
    (h : wpAnyT P md ops Q S m fuel (listed.setIfInBounds i true) (a.put d v) w) : wpAnyT P md ops Q S m (fuel + 1) listed a w := by
  subst hd; exact wpAnyT_take i p hi hs hf hr hp hQ hy hS h
/-- The frame of a round whose first variable lies in a block. -/
def setBlk (t : Array Value) (p p' q q' : Tmp) (v v' : Value) (g : Nat) : Array Value := (((t.setIfInBounds p v).setIfInBounds p' v').setIfInBounds q (.pointer (some ⟨g, 0, none⟩))).setIfInBounds q' v'
section
variable {F : Fence} {n : Nat} {P : Program}
theorem wpIn_rangeFunc_blk {α : Type} {f : Operand} {p p' q q' : Tmp} {t : TypeId} {e : α → List UInt8} {e' : α → Value} {assign body : Code} {Q : Exit → Act → World → Prop} {a : Act} {w : World}
    (hro : F.round = none) (h1 : 1 ≤ n) {gf : Nat} {lb : Array Value} (hg : a.eval f = .func (.func gf) #[] lb) (hFg : F.fn gf) (eg : ∀ args w, (callFunc gf args).run P w = .ok (.enter gf args) w)
    {K : Nat → Prop} {G : List α → Prop} {R : List α → α → Prop} {S : List α → Prop} {w0 : World} (hseq : SeqAt F (n - 1) P gf lb (fun x => #[.agg (bytesV (e x)), e' x]) K G R S w0)
    (hb0 : Below w0.heap.size w0 w) (hKw : ∀ k, K k → k < w.heap.size)
    (I : List α → World → Prop) (Ix : Code → List α → World → Prop) (hI : ∀ s A A', I s A → Below w.heap.size A A' → I s A') (hIx : ∀ c s A A', Ix c s A → Below w.heap.size A A' → Ix c s A') (hG : ∀ pre W, I pre W → G pre) (h0 : I [] w)
    (hassign : ∀ (l : Nat) (pre : List α) (x : α) (W : World) (C : Act → World → Prop), R pre x → (∀ g W', W.heap.size ≤ g → Blk W' g (bytesV (e x)) t → Below W.heap.size W W' → C { tmps := setBlk a.tmps p p' q q' (.agg (bytesV (e x))) (e' x) g, defers := [] } W') →
      assign.wpIn (F.inRound l) (n - 1 - 1) P (Exit.then C (fun _ _ _ => False)) { tmps := (a.tmps.setIfInBounds p (.agg (bytesV (e x)))).setIfInBounds p' (e' x), defers := [] } W)
    (hbody : ∀ (l : Nat) (pre : List α) (x : α) (N g : Nat) (W : World), w.heap.size + 2 ≤ N → N ≤ W.heap.size → I pre W → R pre x → N ≤ g → Blk W g (bytesV (e x)) t →
      body.wpIn (F.inRound l) (n - 1 - 1) P (ownPostN N w.heap.size K I Ix (pre ++ [x]) W) { tmps := setBlk a.tmps p p' q q' (.agg (bytesV (e x))) (e' x) g, defers := [] } W)
    (hdone : ∀ (D : Nat) (xs : List α) (W : World), w.heap.size ≤ D → S xs → I xs W → W.heap[D]? = some (.deferred (some [])) → Q .normal { a with defers := { target := .collected D, args := #[] } :: a.defers } W)
    (hstop : ∀ (D : Nat) (c : Code) (pre : List α) (W : World), w.heap.size ≤ D → Ix c pre W → W.heap[D]? = some (.deferred (some [])) → c.wpIn F n P Q { a with defers := { target := .collected D, args := #[] } :: a.defers } W) :
    (Code.rangeFunc f #[p, p'] assign body).wpIn F n P Q a w :=
  wpIn_rangeFunc_new hro h1 hg hFg eg hseq hb0 hKw (fun _ => rfl) I Ix hI hIx hG h0 (fun x N a' A => ∃ g, N ≤ g ∧ Blk A g (bytesV (e x)) t ∧ a' = { tmps := setBlk a.tmps p p' q q' (.agg (bytesV (e x))) (e' x) g, defers := [] })
    (fun x N a' A A' hN ⟨g, h1, h2, h3⟩ hk => ⟨g, h1, h2.keeps hk (.inr (by omega)), h3⟩)
    (fun l pre x W C _ _ hR hC => by have := hassign l pre x W C hR (fun g W' h1 h2 h3 => hC _ _ h3 ⟨g, h1, h2, rfl⟩); simpa using this)
    (fun l pre x N a' W hN hs hi hr ⟨g, h1, h2, ha⟩ => by subst ha; exact hbody l pre x N g W hN hs hi hr h1 h2) hdone hstop
end
/-- What lies when k blocks have come. -/
structure SumI (w : World) (key K l : List UInt8) (bC c5 c6 c7 : Nat) (k : Nat) (W : World) : Prop where
  kb : Blk W w.heap.size (bytesV key) 22
  st : Blk W (w.heap.size + 1) (bytesV (macS key l k)) 97
  p5 : Blk W c5 #[.pointer (some ⟨bC, 0, none⟩)] 47
  cph : Blk W bC (bytesV (cip K)) 59
  p6 : Blk W c6 #[.func (.func 86) #[] #[.pointer (some ⟨w.heap.size, 0, none⟩)]] 109
  p7 : Blk W c7 #[.int .i64 ((l.length - 16 * k : Nat) : Int)] 3
  below : Below w.heap.size w W
theorem SumI.same {w : World} {key K l : List UInt8} {bC c5 c6 c7 k B : Nat} {W W' : World} (h : SumI w key K l bC c5 c6 c7 k W) (hb : Below B W W') (h1 : w.heap.size + 1 < B) (h2 : c5 < B) (h3 : bC < B) (h4 : c6 < B) (h5 : c7 < B) : SumI w key K l bC c5 c6 c7 k W' :=
  ⟨h.kb.below hb (by omega), h.st.below hb h1, h.p5.below hb h2, h.cph.below hb h3, h.p6.below hb h4, h.p7.below hb h5, h.below.trans (hb.mono (by omega))⟩
set_option maxRecDepth 100000 in
set_option maxHeartbeats 8000000 in
theorem sum_any (key : List UInt8) (hk : key.length = 16) (v : Value) (l : List UInt8) (w : World) (hv : Bsl w v l) (hlen : l.length ≤ 100000) :
    Calls Try.prog 74 #[.agg (bytesV key), v] w fun e w' => e = .returned (.agg (bytesV (cmacL key l))) ∧ Below w.heap.size w w' := by
  have z1 : ∀ w, (zeroValue 97).run Try.prog w = .ok (.agg (bytesV Z16)) w := (zero_of_info zero97).1
  obtain ⟨K, hK⟩ : ∃ K, K = ksL key 160 := ⟨_, rfl⟩
  have hKl := Lib.hid (show K.length = 176 by rw [hK, ksL_length key hk])
  have hnew := fun w => new_at key hk w
  rw [← hK] at hnew
  have HK := Lib.hid hK
  clear hK
  obtain ⟨a, cap, rfl, q1, q2, q3, q4⟩ := hv
  have hv : Bsl w (.slice a l.length cap) l := ⟨a, cap, rfl, q1, q2, q3, q4⟩
  have hab : ∀ b o s, a = some ⟨b, o, s⟩ → 0 < l.length → b < w.heap.size := fun b o s e h0 => by
    obtain ⟨b', o', e', hb, _⟩ := q4 h0
    rw [e] at e'
    cases e'
    exact hb
  clear q1 q2 q3 q4
  refine (callsIn_wide (n := 3)).1 ?_
  refine callsIn_of_wp_marks Try.func74 rfl trivial ?_ rfl
  generalize hQ : bodyPostM Fence.wide 3 Try.prog _ _ = Q
  replace hQ := Lib.hid hQ
  simp only [Try.ntmps74, List.size_toArray, List.length_cons, List.length_nil, Nat.reduceAdd, Nat.reduceSub, Array.replicate_succ, Array.replicate_zero, List.push_toArray, List.append_toArray, List.nil_append, List.cons_append]
  refine (wpIn_wide).2 ?_
  obtain ⟨W0, hW0⟩ : ∃ W0, W0 = (w.alloc (.cells (bytesV key) 22)).alloc (.cells (bytesV Z16) 97) := ⟨_, rfl⟩
  have b0 : Blk W0 w.heap.size (bytesV key) 22 := by rw [hW0]; exact (Blk.new' rfl).alloc _
  have b1 : Blk W0 (w.heap.size + 1) (bytesV (macS key l 0)) 97 := by rw [hW0]; exact Blk.new' (by simp)
  have hB : Below w.heap.size w W0 := by rw [hW0]; exact ((Below.refl _ _).alloc (Nat.le_refl _) _).alloc (by simp) _
  have hs0 : w.heap.size + 2 = W0.heap.size := by rw [hW0]; simp
  have HW := Lib.hid hW0
  replace hs0 := Lib.hid hs0
  clear hW0
  go_wp2_with (first
    | ((with_reducible refine wpList_load_blk rfl 22 (.tmp 2) rfl w.heap.size 0 16 rfl (HW.out ▸ b0) row22 ?_ (bytesV key) ?_ ?_); (rw [bytesV_size, hk]; exact Nat.le_refl _); (exact bytesV_whole _ _ hk))
    | (go_at_call 39; rw [← HW.out]; refine (hnew _).mono ?_; rintro e w2 ⟨bC, rfl, hC, hb1, hbC⟩; replace b0 := b0.below hb1 b0.lt; replace b1 := b1.below hb1 b1.lt; replace hB := bnext hB hb1; clear hb1)
    | (go_at_call 88; refine (blocks_any _ _ _ _).mono ?_; rintro e wL ⟨K0, hK0, rfl, k1, hbL, hsL⟩; replace hK0 := Lib.hid hK0; replace hsL := Lib.hid hsL)
    | fail)
  replace hK0 := hK0.out
  replace hsL := hsL.out
  obtain ⟨W3, hW3⟩ : ∃ W3, W3 = (((w2.alloc (.cells #[.pointer (some ⟨bC, 0, none⟩)] 47)).alloc (.cells #[.func (.func 86) #[] #[.pointer (some ⟨w.heap.size, 0, none⟩)]] 109)).alloc (.cells #[.int .i64 (l.length : Int)] 3)) := ⟨_, rfl⟩
  have hs3 : W3.heap.size = w2.heap.size + 3 := by rw [hW3]; simp
  have e5 : Blk W3 w2.heap.size #[.pointer (some ⟨bC, 0, none⟩)] 47 := by rw [hW3]; exact ((Blk.new' rfl).alloc _).alloc _
  have e6 : Blk W3 (w2.heap.size + 1) #[.func (.func 86) #[] #[.pointer (some ⟨w.heap.size, 0, none⟩)]] 109 := by rw [hW3]; exact (Blk.new' (by simp)).alloc _
  have e7 : Blk W3 (w2.heap.size + 1 + 1) #[.int .i64 (l.length : Int)] 3 := by rw [hW3]; exact Blk.new' (by simp)
  have hb3 : Below w2.heap.size w2 W3 := by rw [hW3]; exact (((Below.refl _ _).alloc (Nat.le_refl _) _).alloc (by simp) _).alloc (by simp; omega) _
  rw [← hW3] at hbL hK0 hsL
  clear hW3
  have h1lt := b1.lt
  have hClt := hC.lt
  have hI0 : SumI w key K l bC w2.heap.size (w2.heap.size + 1) (w2.heap.size + 1 + 1) 0 wL :=
    ⟨(b0.below hb3 b0.lt).below hbL (by omega), (b1.below hb3 b1.lt).below hbL (by omega), e5.below hbL (by omega), (hC.below hb3 hC.lt).below hbL (by omega), e6.below hbL (by omega), e7.below hbL (by omega), bnext (bnext hB hb3) hbL⟩
  have hvL := ((hv.below hB).below hb3).below hbL
  have hsw := hB.size
  have hseq := blocks_seq 2 (by decide) l a cap K0 wL hlen k1 hvL
  have hbx : ∀ k, msgK K0 a l.length k → k < wL.heap.size := by
    rintro k (rfl | ⟨h0, o, s, e⟩)
    · omega
    · have := hab k o s e h0; omega
  have hN1 : ¬ msgK K0 a l.length (w.heap.size + 1) := by
    rintro (h | ⟨h0, o, s, e⟩)
    · omega
    · have := hab _ o s e h0; omega
  have hN7 : ¬ msgK K0 a l.length (w2.heap.size + 1 + 1) := by
    rintro (h | ⟨h0, o, s, e⟩)
    · omega
    · have := hab _ o s e h0; omega
  have hc0 := hs0.out
  obtain ⟨c7, hc7⟩ : ∃ c7, c7 = w2.heap.size + 1 + 1 := ⟨_, rfl⟩
  obtain ⟨c6, hc6⟩ : ∃ c6, c6 = w2.heap.size + 1 := ⟨_, rfl⟩
  obtain ⟨c5, hc5⟩ : ∃ c5, c5 = w2.heap.size := ⟨_, rfl⟩
  have hord : w.heap.size + 1 < bC ∧ bC < c5 ∧ c5 < c6 ∧ c6 < c7 ∧ c7 < wL.heap.size := by omega
  rw [← hc7] at hI0 hN7 ⊢
  rw [← hc6] at hI0 ⊢
  rw [← hc5] at hI0 ⊢
  clear hc7 hc6 hc5 hK0 hsL hs3 e5 e6 e7 hb3 hbL k1 hvL hv hC b0 b1 hB hbC h1lt hClt hsw hc0 hs0 HW hnew hab
  obtain ⟨hd1, hd2, hd3, hd4, hd5⟩ := hord
  refine (wpIn_wide (n := 3)).1 ?_
  refine wpIn_rangeFunc_blk (F := Fence.wide) (n := 3) (P := Try.prog) (t := 97) (p := 17) (p' := 18) (q := 8) (q' := 9) (e := fun x : List UInt8 × Nat => x.1) (e' := fun x : List UInt8 × Nat => .int .i64 x.2) rfl (by decide) (gf := 91) (lb := #[.pointer (some ⟨K0, 0, none⟩)]) rfl trivial cf91
    (K := msgK K0 a l.length) (G := fun _ => True) (R := fun pre x => pre.length < nbl l ∧ x = (blk l pre.length, bln l pre.length)) (S := fun xs => xs = blkU l (nbl l)) (w0 := wL) hseq (Below.refl _ _) hbx
    (fun pre A => (pre = blkU l pre.length ∧ pre.length ≤ nbl l) ∧ SumI w key K l bC c5 c6 c7 pre.length A) (fun _ _ _ => False)
    (fun s A A' h k => ⟨h.1, h.2.same k (by omega) (by omega) (by omega) (by omega) (by omega)⟩) (fun _ _ _ _ h _ => h) (fun _ _ _ => trivial) ⟨⟨rfl, Nat.zero_le _⟩, hI0⟩ ?assign ?body ?done ?stop
  case assign =>
    rintro r pre x W C ⟨_, rfl⟩ hC
    simp only [setBlk, List.setIfInBounds_toArray, List.set_cons_zero, List.set_cons_succ] at hC ⊢
    have hbl := blk_length l pre.length
    obtain ⟨b, hb⟩ : ∃ b, b = blk l pre.length := ⟨_, rfl⟩
    rw [← hb] at hbl hC ⊢
    clear hb
    have hbl' := Lib.hid hbl
    clear hbl
    have HC := Lib.hid hC
    clear hC
    gi_wp2_with (first
      | ((with_reducible refine wpListIn_store_blk rfl 97 (.tmp 8) (.tmp 17) rfl W.heap.size 0 16 (bytesV b) rfl rfl (C := bytesV Z16) (t := 97) ?_ row97 ?_ ?_ (bytesV_one _) ?_); (exact Blk.new' rfl); (rw [bytesV_size, hbl'.out]); (rw [bytesV_size]; decide); intro w4 d4 o4; rw [splice_all _ _ (by rw [hbl'.out]; rfl)] at d4; have hb4 := below_only ((Below.refl W.heap.size W).alloc (Nat.le_refl _) (.cells (bytesV Z16) 97)) o4 (Nat.le_refl _))
      | fail)
    exact HC.out _ _ (Nat.le_refl _) d4 hb4
  case body =>
    rintro r pre x N g W hN1' hN2 ⟨⟨hp, hpl⟩, hI⟩ ⟨hlt, rfl⟩ hg hb
    generalize pre.length = k at *
    simp only [setBlk, List.setIfInBounds_toArray, List.set_cons_zero, List.set_cons_succ]
    have x7 := hI.p7.cell 0
    have x7f := hI.p7.frozen 0
    simp only [List.getElem?_toArray, List.getElem?_cons_zero] at x7
    have hlen2 := Lib.hid (show (pre ++ [(blk l k, bln l k)]).length = k + 1 by rw [hp, List.length_append, blkU_length]; rfl)
    have hpn := Lib.hid (show pre ++ [(blk l k, bln l k)] = blkU l (k + 1) by rw [blkU_succ, hp])
    replace hp := Lib.hid hp
    obtain ⟨SS, hSS⟩ : ∃ SS, SS = macS key l k := ⟨_, rfl⟩
    have hSl := Lib.hid (show SS.length = 16 by rw [hSS, macS_length])
    have hbkl := Lib.hid (blk_length l k)
    have hlast := nbl_last l k hlt
    rw [List.length_drop] at hlast
    obtain ⟨m, hm⟩ : ∃ m, m = bln l k := ⟨_, rfl⟩
    obtain ⟨L, hL⟩ : ∃ L, L = l.length - 16 * k := ⟨_, rfl⟩
    have hm1 : m = min 16 L := by rw [hm, hL]; rfl
    have hLn : l.length - 16 * (k + 1) = L - m := by omega
    rw [← hm, ← hL] at hlast
    rw [← hm] at hlen2 hpn ⊢
    rw [← hL] at x7
    have hm16 : m ≤ 16 := by omega
    have hmL : (m : Int) ≤ L := by omega
    have hLi : (L : Int) ≤ 100000 := by omega
    have i6 := hI.p6
    have hst := hI.st
    rw [← hSS] at hst
    replace hSS := Lib.hid hSS
    have hglt := hb.lt
    have hon := Only.setCell (b := c7) W 0 (.int .i64 ((L - m : Nat) : Int))
    by_cases hz : k + 1 = nbl l
    · have hLm : L - m = 0 := by have := hlast.2 hz; omega
      have hsub : (L : Int) - m = 0 := by omega
      obtain ⟨BB, hBB⟩ : ∃ BB, BB = macB key l k := ⟨_, rfl⟩
      have hBl := Lib.hid (show BB.length = 16 by rw [hBB, macB_length])
      have hla := Lib.hid (fun (v : World) (h : Blk v w.heap.size (bytesV key) 22) => last_any key hk w.heap.size (blk l k) (blk_length l k) m hm16 v h)
      have hBe := Lib.hid (show lastL key (blk l k) m = BB by rw [hBB, macB, if_pos hz, hm])
      replace hBB := Lib.hid hBB
      rw [hLm] at hon
      have i70 := hI.p7.set 0 (.int .i64 ((L - m : Nat) : Int))
      rw [hLm] at i70
      obtain ⟨V1, hV1⟩ : ∃ V1, V1 = W.setCell ⟨c7, 0, none⟩ (.int .i64 0) := ⟨_, rfl⟩
      have hon1 : Only c7 W V1 := by rw [hV1]; exact hon
      have v7 : Blk V1 c7 #[.int .i64 ((l.length - 16 * (k + 1) : Nat) : Int)] 3 := by rw [hLn, hLm, hV1]; exact i70
      have vb := hb.only hon1 (by omega)
      have vkb := hI.kb.only hon1 (by omega)
      have vS := hst.only hon1 (by omega)
      have v5 := hI.p5.only hon1 (by omega)
      have vC := hI.cph.only hon1 (by omega)
      have v6 := i6.only hon1 (by omega)
      have vB := below_only hI.below hon1 (by omega)
      have hKV : KeepsN N wL.heap.size (msgK K0 a l.length) W V1 := (KeepsN.refl _ _ _ _).only hon1 (.inr ⟨by omega, hN7⟩)
      have hNV : N ≤ V1.heap.size := by rw [hon1.size]; exact hN2
      have f6 := v6.cell 0
      rw [hV1] at f6
      simp only [List.getElem?_toArray, List.getElem?_cons_zero] at f6
      have HV := Lib.hid hV1
      clear hV1 hon hon1 i70 hb hI hst i6
      replace hlast := Lib.hid hlast
      replace hm := Lib.hid hm
      replace hL := Lib.hid hL
      replace hm1 := Lib.hid hm1
      replace hLn := Lib.hid hLn
      replace hLm := Lib.hid hLm
      replace hz := Lib.hid hz
      gi_wp2_with (first
        | (rw [← HV.out]; (with_reducible refine wpListIn_load_blk rfl 97 (.tmp 8) rfl g 0 16 rfl vb row97 ?_ (bytesV (blk l k)) ?_ ?_); (rw [bytesV_size, hbkl.out]; exact Nat.le_refl _); (exact bytesV_whole _ _ hbkl.out))
        | (refine ⟨trivial, ?_⟩; gi_at_call 86; refine (CallsIn.inRound r (callsIn_wide.2 (hla.out _ vkb))).mono ?_; rintro e w2 ⟨rfl, hb2⟩; rw [hBe.out])
        | ((with_reducible refine wpListIn_store_blk rfl 97 (.tmp 8) (.tmp 27) rfl g 0 16 (bytesV BB) rfl rfl (vb.below hb2 vb.lt) row97 ?_ ?_ (bytesV_one _) ?_); (rw [bytesV_size, hBl.out]); (rw [bytesV_size, hbkl.out]; exact Nat.le_refl _); intro W1 ib o3; rw [splice_all _ _ (by rw [hBl.out, hbkl.out])] at ib)
        | fail)
      have i5 := (v5.below hb2 v5.lt).only o3 (by omega)
      have iS := (vS.below hb2 vS.lt).only o3 (by omega)
      have iC := (vC.below hb2 vC.lt).only o3 (by omega)
      have ikb := (vkb.below hb2 vkb.lt).only o3 (by omega)
      have i6 := (v6.below hb2 v6.lt).only o3 (by omega)
      have i7 := (v7.below hb2 v7.lt).only o3 (by omega)
      have iB := below_only (vB.trans (hb2.mono vB.size)) o3 (by omega)
      have hKN := (hKV.next hNV hb2).only o3 (.inl hg)
      have hNW : N ≤ W1.heap.size := by rw [o3.size]; exact Nat.le_trans hNV hb2.size
      clear f6 x7 x7f
      have j5 : ∀ w', Below W1.heap.size W1 w' → w'.cell? ⟨c5, 0, none⟩ = some (.pointer (some ⟨bC, 0, none⟩)) := fun w' h => by have := (i5.below h i5.lt).cell 0; simpa using this
      have jS : ∀ w', Below W1.heap.size W1 w' → w'.rangeAt (w.heap.size + 1) 0 (bytesV SS).toList := fun w' h => by
        have := (iS.below h iS.lt).range 0 16
        rwa [bytesV_whole SS 16 hSl.out] at this
      have jb : ∀ w', Below W1.heap.size W1 w' → w'.rangeAt g 0 (bytesV BB).toList := fun w' h => by
        have := (ib.below h ib.lt).range 0 16
        rwa [bytesV_whole BB 16 hBl.out] at this
      have rS : (Try.prog.info? 97).map (·.size) = some (bytesV SS).toList.length := by rw [Array.length_toList, bytesV_size, hSl.out]; exact row97.2
      have rb : (Try.prog.info? 97).map (·.size) = some (bytesV BB).toList.length := by rw [Array.length_toList, bytesV_size, hBl.out]; exact row97.2
      have s0 : Below W1.heap.size W1 W1.drew := (Below.refl _ W1).drew
      have hpl := Lib.hid (fun w => plus_any SS BB hSl.out hBl.out w)
      have hXl := Lib.hid (show (xrL SS BB).length = 16 by rw [xrL_length, hSl.out, hBl.out]; rfl)
      have hen := Lib.hid (fun (v : World) (h : Blk v bC (bytesV (cip K)) 59) => encrypt_any K hKl.out (xrL SS BB) hXl.out (.pointer (some ⟨bC, 0, none⟩)) v (.inl ⟨bC, rfl, h⟩))
      have hnx : encR K (xrL SS BB) 10 = macS key l (k + 1) := by rw [macS, hSS.out, hBB.out, ← HK.out]
      have HN := Lib.hid hnx
      clear hnx
      refine wpIn_draw_fit (by kernel_rfl) (by kernel_rfl) (by rintro ⟨_, _, hf⟩; exact hf) ?_
      refine wpAny_of_till (S := fun w' => Below W1.heap.size W1 w') (m := 5) _ _ _ _ ?_
      refine wpAnyT_takeD 0 (some 28) [4, 5] rfl rfl (by kernel_rfl) (by kernel_rfl) (by kernel_rfl) (by kernel_rfl) (fun _ _ _ h => h) (yieldsIf_load_cell rfl 47 _ rfl _ _ rfl (fun w h => by go_simp) j5) s0 ?_
      try simp only [Act.put, List.setIfInBounds_toArray, List.set_cons_zero, List.set_cons_succ, Array.toArray_toList]
      refine wpAnyT_takeD 1 (some 29) [3, 4, 5] rfl rfl (by kernel_rfl) (by kernel_rfl) (by kernel_rfl) (by kernel_rfl) (fun _ _ _ h => h) (yieldsIf_load_mid rfl 97 _ rfl (w.heap.size + 1) 0 rfl (bytesV SS).toList _ jS Try.underlying97 rfl rS) s0 ?_
      try simp only [Act.put, List.setIfInBounds_toArray, List.set_cons_zero, List.set_cons_succ, Array.toArray_toList]
      refine wpAnyT_takeD 2 (some 30) [3, 4, 5] rfl rfl (by kernel_rfl) (by kernel_rfl) (by kernel_rfl) (by kernel_rfl) (fun _ _ _ h => h) (yieldsIf_load_mid rfl 97 _ rfl g 0 rfl (bytesV BB).toList _ jb Try.underlying97 rfl rb) s0 ?_
      try simp only [Act.put, List.setIfInBounds_toArray, List.set_cons_zero, List.set_cons_succ, Array.toArray_toList]
      refine wpAnyT_one 3 rfl (by kernel_rfl) (fun K' hK' => ?_)
      go_simp
      (go_at_call 87; (with_reducible refine (hpl.out _).mono ?_); rintro e w5 ⟨rfl, hb5⟩)
      go_wp2
      have s5 : Below W1.heap.size W1 w5 := s0.trans (hb5.mono (Nat.le_refl _))
      refine hK'.out _ _ (.inr s5) ?_; clear hK' K'; try simp only [Act.put, List.setIfInBounds_toArray, List.set_cons_zero, List.set_cons_succ]
      refine wpAnyT_one 4 rfl (by kernel_rfl) (fun K' hK' => ?_)
      go_simp
      (go_at_call 40; (with_reducible refine (hen.out _ (iC.below s5 iC.lt)).mono ?_); rintro e w6 ⟨rfl, hb6⟩)
      go_wp2
      have s6 : Below W1.heap.size W1 w6 := s5.trans (hb6.mono s5.size)
      refine hK'.out _ _ (.inr s6) ?_; clear hK' K'; try simp only [Act.put, List.setIfInBounds_toArray, List.set_cons_zero, List.set_cons_succ]
      refine wpAnyT_one 5 rfl (by kernel_rfl) (fun K' hK' => ?_)
      refine ite_go rfl ?_
      refine wp_store_blk 97 (.tmp 4) (.tmp 32) rfl (w.heap.size + 1) 0 16 _ rfl rfl (iS.below s6 iS.lt) row97 (by rw [bytesV_size, encR_length]) (by rw [bytesV_size, hSl.out]; exact Nat.le_refl _) (bytesV_one _) ?_
      intro wz iz oz
      rw [splice_all _ _ (by rw [hSl.out, encR_length]), HN.out] at iz
      refine hK'.out _ _ (.inl rfl) ?_; clear hK' K'; try simp only [Act.put, List.setIfInBounds_toArray, List.set_cons_zero, List.set_cons_succ]
      refine wpAnyT_done (by kernel_rfl) ?_ _
      have hfin : SumI w key K l bC c5 c6 c7 (k + 1) wz :=
        ⟨(ikb.below s6 ikb.lt).only oz (by omega), iz, (i5.below s6 i5.lt).only oz (by omega), (iC.below s6 iC.lt).only oz (by omega), (i6.below s6 i6.lt).only oz (by omega), (i7.below s6 i7.lt).only oz (by omega), below_only (iB.trans (s6.mono iB.size)) oz (by omega)⟩
      have hkeep := (hKN.next hNW s6).only oz (.inr ⟨by omega, hN1⟩)
      gi_wp2
      exact ⟨hkeep, ⟨by rw [hlen2.out]; exact hpn.out, by rw [hlen2.out]; omega⟩, by rw [hlen2.out]; exact hfin⟩
    · obtain ⟨L', hL'⟩ : ∃ L', L' = L - m := ⟨_, rfl⟩
      have hLp : 0 < L' := by
        have : ¬ m = L := fun h => hz (hlast.1 h)
        omega
      have hsub : (L : Int) - m = L' := by omega
      have hne : ¬ (L' : Int) = 0 := by omega
      obtain ⟨BB, hBB⟩ : ∃ BB, BB = blk l k := ⟨_, rfl⟩
      rw [← hBB] at hb hbkl hlen2 hpn ⊢
      have hBB2 : BB = macB key l k := by rw [macB, if_neg hz, hBB]
      have hBl := hbkl
      clear hBB
      have hBB := Lib.hid hBB2
      clear hBB2
      rw [← hL'] at hon
      have i70 := hI.p7.set 0 (.int .i64 (L' : Int))
      obtain ⟨W1, hV1⟩ : ∃ V1, V1 = W.setCell ⟨c7, 0, none⟩ (.int .i64 (L' : Int)) := ⟨_, rfl⟩
      have hon1 : Only c7 W W1 := by rw [hV1]; exact hon
      have i7 : Blk W1 c7 #[.int .i64 ((l.length - 16 * (k + 1) : Nat) : Int)] 3 := by rw [hLn, ← hL', hV1]; exact i70
      have ib := hb.only hon1 (by omega)
      have ikb := hI.kb.only hon1 (by omega)
      have iS := hst.only hon1 (by omega)
      have i5 := hI.p5.only hon1 (by omega)
      have iC := hI.cph.only hon1 (by omega)
      replace i6 := i6.only hon1 (by omega)
      have iB := below_only hI.below hon1 (by omega)
      have hKN : KeepsN N wL.heap.size (msgK K0 a l.length) W W1 := (KeepsN.refl _ _ _ _).only hon1 (.inr ⟨by omega, hN7⟩)
      have hNW : N ≤ W1.heap.size := by rw [hon1.size]; exact hN2
      have HV := Lib.hid hV1
      clear hV1 hon hon1 i70 hb hI hst
      replace hlast := Lib.hid hlast
      replace hm := Lib.hid hm
      replace hL := Lib.hid hL
      replace hL' := Lib.hid hL'
      replace hm1 := Lib.hid hm1
      replace hLn := Lib.hid hLn
      gi_wp2
      rw [← HV.out]
      clear x7 x7f
      have j5 : ∀ w', Below W1.heap.size W1 w' → w'.cell? ⟨c5, 0, none⟩ = some (.pointer (some ⟨bC, 0, none⟩)) := fun w' h => by have := (i5.below h i5.lt).cell 0; simpa using this
      have jS : ∀ w', Below W1.heap.size W1 w' → w'.rangeAt (w.heap.size + 1) 0 (bytesV SS).toList := fun w' h => by
        have := (iS.below h iS.lt).range 0 16
        rwa [bytesV_whole SS 16 hSl.out] at this
      have jb : ∀ w', Below W1.heap.size W1 w' → w'.rangeAt g 0 (bytesV BB).toList := fun w' h => by
        have := (ib.below h ib.lt).range 0 16
        rwa [bytesV_whole BB 16 hBl.out] at this
      have rS : (Try.prog.info? 97).map (·.size) = some (bytesV SS).toList.length := by rw [Array.length_toList, bytesV_size, hSl.out]; exact row97.2
      have rb : (Try.prog.info? 97).map (·.size) = some (bytesV BB).toList.length := by rw [Array.length_toList, bytesV_size, hBl.out]; exact row97.2
      have s0 : Below W1.heap.size W1 W1.drew := (Below.refl _ W1).drew
      have hpl := Lib.hid (fun w => plus_any SS BB hSl.out hBl.out w)
      have hXl := Lib.hid (show (xrL SS BB).length = 16 by rw [xrL_length, hSl.out, hBl.out]; rfl)
      have hen := Lib.hid (fun (v : World) (h : Blk v bC (bytesV (cip K)) 59) => encrypt_any K hKl.out (xrL SS BB) hXl.out (.pointer (some ⟨bC, 0, none⟩)) v (.inl ⟨bC, rfl, h⟩))
      have hnx : encR K (xrL SS BB) 10 = macS key l (k + 1) := by rw [macS, hSS.out, hBB.out, ← HK.out]
      have HN := Lib.hid hnx
      clear hnx
      refine wpIn_draw_fit (by kernel_rfl) (by kernel_rfl) (by rintro ⟨_, _, hf⟩; exact hf) ?_
      refine wpAny_of_till (S := fun w' => Below W1.heap.size W1 w') (m := 5) _ _ _ _ ?_
      refine wpAnyT_takeD 0 (some 28) [4, 5] rfl rfl (by kernel_rfl) (by kernel_rfl) (by kernel_rfl) (by kernel_rfl) (fun _ _ _ h => h) (yieldsIf_load_cell rfl 47 _ rfl _ _ rfl (fun w h => by go_simp) j5) s0 ?_
      try simp only [Act.put, List.setIfInBounds_toArray, List.set_cons_zero, List.set_cons_succ, Array.toArray_toList]
      refine wpAnyT_takeD 1 (some 29) [3, 4, 5] rfl rfl (by kernel_rfl) (by kernel_rfl) (by kernel_rfl) (by kernel_rfl) (fun _ _ _ h => h) (yieldsIf_load_mid rfl 97 _ rfl (w.heap.size + 1) 0 rfl (bytesV SS).toList _ jS Try.underlying97 rfl rS) s0 ?_
      try simp only [Act.put, List.setIfInBounds_toArray, List.set_cons_zero, List.set_cons_succ, Array.toArray_toList]
      refine wpAnyT_takeD 2 (some 30) [3, 4, 5] rfl rfl (by kernel_rfl) (by kernel_rfl) (by kernel_rfl) (by kernel_rfl) (fun _ _ _ h => h) (yieldsIf_load_mid rfl 97 _ rfl g 0 rfl (bytesV BB).toList _ jb Try.underlying97 rfl rb) s0 ?_
      try simp only [Act.put, List.setIfInBounds_toArray, List.set_cons_zero, List.set_cons_succ, Array.toArray_toList]
      refine wpAnyT_one 3 rfl (by kernel_rfl) (fun K' hK' => ?_)
      go_simp
      (go_at_call 87; (with_reducible refine (hpl.out _).mono ?_); rintro e w5 ⟨rfl, hb5⟩)
      go_wp2
      have s5 : Below W1.heap.size W1 w5 := s0.trans (hb5.mono (Nat.le_refl _))
      refine hK'.out _ _ (.inr s5) ?_; clear hK' K'; try simp only [Act.put, List.setIfInBounds_toArray, List.set_cons_zero, List.set_cons_succ]
      refine wpAnyT_one 4 rfl (by kernel_rfl) (fun K' hK' => ?_)
      go_simp
      (go_at_call 40; (with_reducible refine (hen.out _ (iC.below s5 iC.lt)).mono ?_); rintro e w6 ⟨rfl, hb6⟩)
      go_wp2
      have s6 : Below W1.heap.size W1 w6 := s5.trans (hb6.mono s5.size)
      refine hK'.out _ _ (.inr s6) ?_; clear hK' K'; try simp only [Act.put, List.setIfInBounds_toArray, List.set_cons_zero, List.set_cons_succ]
      refine wpAnyT_one 5 rfl (by kernel_rfl) (fun K' hK' => ?_)
      refine ite_go rfl ?_
      refine wp_store_blk 97 (.tmp 4) (.tmp 32) rfl (w.heap.size + 1) 0 16 _ rfl rfl (iS.below s6 iS.lt) row97 (by rw [bytesV_size, encR_length]) (by rw [bytesV_size, hSl.out]; exact Nat.le_refl _) (bytesV_one _) ?_
      intro wz iz oz
      rw [splice_all _ _ (by rw [hSl.out, encR_length]), HN.out] at iz
      refine hK'.out _ _ (.inl rfl) ?_; clear hK' K'; try simp only [Act.put, List.setIfInBounds_toArray, List.set_cons_zero, List.set_cons_succ]
      refine wpAnyT_done (by kernel_rfl) ?_ _
      have hfin : SumI w key K l bC c5 c6 c7 (k + 1) wz :=
        ⟨(ikb.below s6 ikb.lt).only oz (by omega), iz, (i5.below s6 i5.lt).only oz (by omega), (iC.below s6 iC.lt).only oz (by omega), (i6.below s6 i6.lt).only oz (by omega), (i7.below s6 i7.lt).only oz (by omega), below_only (iB.trans (s6.mono iB.size)) oz (by omega)⟩
      have hkeep := (hKN.next hNW s6).only oz (.inr ⟨by omega, hN1⟩)
      gi_wp2
      exact ⟨hkeep, ⟨by rw [hlen2.out]; exact hpn.out, by rw [hlen2.out]; omega⟩, by rw [hlen2.out]; exact hfin⟩
  case done =>
    rintro D xs A hD hS ⟨⟨hp, hpl⟩, hI⟩ hK'
    have hxl : xs.length = nbl l := by rw [hS, blkU_length]
    rw [hxl] at hI
    have hst := hI.st
    have hcl := Lib.hid (cmacL_length key l)
    have hst' : Blk A (w.heap.size + 1) (bytesV (cmacL key l)) 97 := hst
    obtain ⟨CM, hCM⟩ : ∃ CM, CM = cmacL key l := ⟨_, rfl⟩
    rw [← hCM] at hst' hcl hQ
    have hDne : D ≠ w.heap.size + 1 := by omega
    have hBA := hI.below
    clear hst hI hp hS hCM hxl
    go_wp2_with (first
      | ((with_reducible refine wpList_load_blk rfl 97 (.tmp 4) rfl (w.heap.size + 1) 0 16 rfl hst' row97 ?_ (bytesV CM) ?_ ?_); (rw [bytesV_size, hcl.out]; exact Nat.le_refl _); (exact bytesV_whole _ _ hcl.out))
      | ((with_reducible refine wpList_store_blk rfl 97 (.tmp 4) (.tmp 33) rfl (w.heap.size + 1) 0 16 (bytesV CM) rfl rfl hst' row97 ?_ ?_ (bytesV_one _) ?_); (rw [bytesV_size, hcl.out]); (rw [bytesV_size, hcl.out]; exact Nat.le_refl _); intro A2 d2 o2; rw [splice_all _ _ rfl] at d2)
      | fail)
    rw [← hQ.out]
    have hK2 : A2.heap[D]? = some (.deferred (some [])) := (o2.block D hDne).trans hK'
    refine ⟨by simp, .inl ⟨_, _, rfl, run_takeDeferred hK2, ?_⟩⟩
    have d3 : Blk (A2.putObj D (.deferred none)) (w.heap.size + 1) (bytesV CM) 97 := d2.below (below_put (B := w.heap.size + 2) A2 D _ (by omega)) (by omega)
    exact ⟨_, results_blk rfl _ _ _ (bytesV CM) 97 16 rfl d3 row97 (by rw [bytesV_size, hcl.out]), rfl, (below_only hBA o2 (by omega)).trans (below_put _ _ _ (by omega))⟩
  case stop =>
    rintro D cd pre A hD hf hK'
    exact hf.elim
end Go.Proofs.Ytdgmahgidmjniaa
