/-
  Codes: the walks of the block, of the doubling.
-/
import Derived.Test.YtdgmahgidmjniaaCmcB
import Derived.Laws.CopyRow
import Derived.Laws.IdiomCopy
/-! Message authentication codes: the iterator over the blocks of a message. -/
namespace Go.Proofs.Ytdgmahgidmjniaa
open Go.RowKit
attribute [-go_sem] Instr.build
attribute [local go_sem] Oper.semAt_some

/-! ### Plain: the blocks of a message -/
/-- How many bytes block i has. -/
def bln (l : List UInt8) (i : Nat) : Nat := min 16 (l.length - 16 * i)
/-- Block i, filled with zeros. -/
def blk (l : List UInt8) (i : Nat) : List UInt8 := (l.drop (16 * i)).take 16 ++ List.replicate (16 - bln l i) 0
theorem blk_length (l : List UInt8) (i : Nat) : (blk l i).length = 16 := by simp [blk, bln]; omega
/-- How many blocks. -/
def nbl (l : List UInt8) : Nat := if l.length = 0 then 1 else (l.length + 15) / 16
def blkU (l : List UInt8) (k : Nat) : List (List UInt8 × Nat) := (List.range k).map fun i => (blk l i, bln l i)
theorem blkU_length (l : List UInt8) (k : Nat) : (blkU l k).length = k := by simp [blkU]
theorem blkU_succ (l : List UInt8) (k : Nat) : blkU l (k + 1) = blkU l k ++ [(blk l k, bln l k)] := by simp [blkU, List.range_succ]

/-! ### Memory: slices of slices, copies -/
theorem info37 : (Try.prog.info? (Try.prog.elem 37)).map (·.size) = some 1 := by kernel_rfl
theorem run_slice37 (w : World) (a : Option Addr) (n cap m : Nat) (hm : m ≤ n) : (Instr.sliceAt 37 (.slice a n cap) (some (.int .i64 (m : Int))) none none).run Try.prog w = .ok (sliced a m n cap 1) w := by
  have h0 : (0 : Int) ≤ m := by omega
  have h1 : (m : Int) ≤ n := by omega
  have hu : Try.prog.underlying 37 = some (.slice (Try.prog.elem 37)) := by kernel_rfl
  rw [run_sliceAt_slice w 37 _ _ _ _ hu, run_slice_l w 37 a n cap hu .i64 m h0 h1]
  have hs : (sizeOf (Try.prog.elem 37)).run Try.prog w = .ok 1 w := by
    have h := info37
    cases hq : Try.prog.info? (Try.prog.elem 37) with
    | none => rw [hq] at h; cases h
    | some i =>
      rw [hq] at h
      have : i.size = 1 := by simpa using h
      simp [sizeOf, typeInfo, hq, this]
  rw [hs]
  simp
theorem bsl_sliced {w : World} {a : Option Addr} {n cap : Nat} {X : List UInt8} (h : Bsl w (.slice a n cap) X) (m : Nat) (hm : m ≤ n) : Bsl w (sliced a m n cap 1) (X.drop m) := by
  obtain ⟨a1, c1, e, h1, h2, h3, h4⟩ := h
  simp only [Value.slice.injEq] at e
  obtain ⟨rfl, rfl, rfl⟩ := e
  have hl : (X.drop m).length = X.length - m := by simp
  unfold sliced
  refine ⟨_, _, by rw [hl], by rw [hl]; omega, by omega, ?_, ?_⟩
  · intro h
    split at h
    · omega
    · cases a with
      | none => have := h3 rfl; omega
      | some a => cases h
  · intro h0
    rw [hl] at h0
    obtain ⟨b, o, e, hb, hc⟩ := h4 (by omega)
    subst e
    rw [if_neg (by omega)]
    refine ⟨b, o + m, by simp [Addr.add], hb, fun i hi => ?_⟩
    rw [hl] at hi
    rw [Nat.add_assoc, hc (m + i) (by omega), gd_drop]
theorem sliced_blk {a : Option Addr} {m n cap : Nat} {a' : Option Addr} {n' cap' : Nat} (e : sliced a m n cap 1 = .slice a' n' cap') : ∀ b o s, a' = some ⟨b, o, s⟩ → ∃ o' s', a = some ⟨b, o', s'⟩ := by
  intro b o s h
  unfold sliced at e
  simp only [Value.slice.injEq] at e
  obtain ⟨e, _, _⟩ := e
  rw [h] at e
  split at e
  · exact ⟨o, s, e⟩
  · cases a with
    | none => cases e
    | some x =>
      obtain ⟨b', o', s'⟩ := x
      simp only [Option.map_some, Option.some.injEq] at e
      have e' : b' = b := by
        unfold Addr.add at e
        split at e <;> simp_all
      exact ⟨o', s', by rw [e']⟩
/-- copy of a slice's bytes to the head of a block. -/
theorem run_copy_bsl {w : World} {g t : Nat} {L X : List UInt8} {a : Option Addr} {n cap : Nat} (ty : TypeId) (hg : Blk w g (bytesV L) t) (hs : Bsl w (.slice a n cap) X) (k : Nat) (hL : L.length = k) :
    ∃ w', (Builtin.copy_ #[37, 37] ty #[.slice (some ⟨g, 0, none⟩) k k, .slice a n cap]).run Try.prog w = .ok (.int .i64 (min n k : Nat)) w' ∧ Blk w' g (bytesV (X.take k ++ L.drop (min n k))) t ∧ Only g w w' := by
  obtain ⟨a1, c1, e, h1, h2, h3, h4⟩ := hs
  simp only [Value.slice.injEq] at e
  obtain ⟨rfl, rfl, rfl⟩ := e
  by_cases h0 : min X.length k = 0
  · refine ⟨w, ?_, ?_, Only.refl _ _⟩
    · rw [run_copy_none w 37 37 ty 5 _ _ _ _ _ _ elem37 size5 h0, h0]; rfl
    · rw [h0, List.drop_zero]
      have : X.take k = [] := by
        apply List.eq_nil_of_length_eq_zero
        rw [List.length_take]; omega
      rw [this]; exact hg
  · obtain ⟨b, o, e, hb, hc⟩ := h4 (by omega)
    subst e
    have hl : (X.take k).length = min X.length k := by simp; omega
    have hr := run_copy_row Try.prog w 37 37 ty 5 g 0 k k ⟨b, o, none⟩ X.length cap (bytesV L) t ((X.take k).map B) elem37 size5 hg (by rw [List.length_map, hl]) (fun j v hj => ?_) (by rw [List.length_map, hl, bytesV_size]; omega) (B_one _)
    · refine ⟨_, hr.trans ?_, hg.setRow _, Only.setRow _ _ _⟩
      · rw [List.length_map, hl]
        have e : ((bytesV L).toList.take 0 ++ (X.take k).map B ++ (bytesV L).toList.drop (0 + min X.length k)).toArray = bytesV (X.take k ++ L.drop (min X.length k)) := by
          rw [bytesV_toList]; simp [bytesV, List.map_take, List.map_drop]
        rw [e]; rfl
    · rw [List.getElem?_map] at hj
      have hj' : j < (X.take k).length := by
        apply Decidable.byContradiction
        intro hn
        rw [List.getElem?_eq_none (by omega)] at hj
        cases hj
      rw [List.getElem?_eq_getElem hj', Option.map_some, Option.some.injEq] at hj
      rw [Go.WideShapes.add_plain, hc j (by omega), ← hj]
      simp [gd, B, show j < X.length by omega]
section
variable {F : Fence} {n : Nat} {ops : Array Oper} {rest : List Oper} {op : Oper} {a : Act} {w : World} {Q : Exit → Act → World → Prop}
theorem wpListIn_copy_bsl (hgd : op.guard = none) (d s : Operand) (ho : op.op = .call { callee := .builtin .copy, args := #[d, s], argTypes := #[37, 37] })
    {g t : Nat} {L X : List UInt8} {ad : Option Addr} {m cap : Nat} (k : Nat) (hd : a.eval d = .slice (some ⟨g, 0, none⟩) k k) (hs : a.eval s = .slice ad m cap) (hg : Blk w g (bytesV L) t) (hb : Bsl w (.slice ad m cap) X) (hL : L.length = k)
    (h : ∀ w', Blk w' g (bytesV (X.take k ++ L.drop (min m k))) t → Only g w w' → wpListIn F n Try.prog ops Q rest (a.put op.dst (.int .i64 (min m k : Nat))) w') : wpListIn F n Try.prog ops Q (op :: rest) a w := by
  obtain ⟨w', hr, h1, h2⟩ := run_copy_bsl op.type hg hb k hL
  refine wpListIn_plain hgd fun K hK => wpIn_of_calm (by rw [ho]; rfl) ?_
  unfold Oper.wp
  simp [execOp, ho, resolve, invoke, builtin, hd, hs, hr, Result.andThen]
  exact hK _ _ (h w' h1 h2)
theorem wpListIn_slice_bsl (hgd : op.guard = none) (x y : Operand) (ho : op.op = .slice 37 x (some y) none none) {ad : Option Addr} {N cap : Nat} (m : Nat) (hx : a.eval x = .slice ad N cap) (hy : a.eval y = .int .i64 m) (hm : m ≤ N)
    (h : wpListIn F n Try.prog ops Q rest (a.put op.dst (sliced ad m N cap 1)) w) : wpListIn F n Try.prog ops Q (op :: rest) a w := by
  refine wpListIn_plain hgd fun K hK => wpIn_of_calm (by rw [ho]; rfl) ?_
  unfold Oper.wp
  simp only [execOp, ho, hx, hy, Option.map_some, Option.map_none, Sem.run_bind, run_slice37 w ad N cap m hm, Result.andThen_ok, Sem.run_pure]
  exact hK _ _ h
theorem wpListIn_load_blk {P : Program} (hgd : op.guard = none) (ty : TypeId) (x : Operand) (ho : op.op = .load ty x)
    (b o m : Nat) (hx : a.eval x = .pointer (some ⟨b, o, none⟩)) {C : Array Value} {t : TypeId} (hb : Blk w b C t) (hr : RowTy P ty m) (hle : o + m ≤ C.size) (V : Array Value) (hV : C.extract o (o + m) = V)
    (h : wpListIn F n P ops Q rest (a.put op.dst (.agg V)) w) : wpListIn F n P ops Q (op :: rest) a w := by
  obtain ⟨⟨d, hu, hd⟩, hi⟩ := hr
  subst hV
  have hl : (C.extract o (o + m)).toList.length = m := by simp; omega
  refine wpListIn_plain hgd fun K hK => wpIn_of_calm (by rw [ho]; rfl) ?_
  refine wp_load_mid ty x ho b o hx (C.extract o (o + m)).toList d (hb.range o m) hu hd (by rw [hl]; exact hi) ?_
  rw [Array.toArray_toList]
  exact hK _ _ h
end

def msgK (k1 : Nat) (a : Option Addr) (n k : Nat) : Prop := k = k1 ∨ (0 < n ∧ ∃ o s, a = some ⟨k, o, s⟩)
theorem bsl_keeps {B : Nat} {K : Nat → Prop} {W W' : World} {a : Option Addr} {n cap : Nat} {l : List UInt8} (h : Bsl W (.slice a n cap) l) (k : Keeps B K W W') (hK : ∀ b o, a = some ⟨b, o, none⟩ → B ≤ b ∨ K b) : Bsl W' (.slice a n cap) l := by
  obtain ⟨a1, c1, e, h1, h2, h3, h4⟩ := h
  refine ⟨a1, c1, e, h1, h2, h3, fun h0 => ?_⟩
  simp only [Value.slice.injEq] at e
  obtain ⟨rfl, rfl, rfl⟩ := e
  obtain ⟨b, o, e, hlt, hc⟩ := h4 h0
  exact ⟨b, o, e, Nat.lt_of_lt_of_le hlt k.size, fun i hi => cell_keeps (p := ⟨b, o + i, none⟩) (hc i hi) k hlt (hK b o e)⟩
theorem nbl_last (l : List UInt8) (i : Nat) (hi : i < nbl l) : (bln l i = (l.drop (16 * i)).length ↔ i + 1 = nbl l) := by
  unfold nbl at *
  unfold bln
  rw [List.length_drop]
  split at hi <;> rename_i h0
  · rw [if_pos h0]; omega
  · rw [if_neg h0]; omega
set_option maxRecDepth 100000 in
set_option maxHeartbeats 4000000 in
theorem blocks_seq (n : Nat) (hn : 1 ≤ n) (l : List UInt8) (a : Option Addr) (cap k1 : Nat) (w : World) (hlen : l.length ≤ 100000) (hk1 : Blk w k1 #[.slice a l.length cap] 37) (hb : Bsl w (.slice a l.length cap) l) :
    SeqAt Fence.wide n Try.prog 91 #[.pointer (some ⟨k1, 0, none⟩)] (fun x : List UInt8 × Nat => #[.agg (bytesV x.1), .int .i64 x.2])
      (msgK k1 a l.length) (fun _ => True) (fun pre x => pre.length < nbl l ∧ x = (blk l pre.length, bln l pre.length)) (fun xs => xs = blkU l (nbl l)) w := fun lp J Jx W hW hJ hJx hG hY h0 => by
  have z1 : ∀ w, (zeroValue 97).run Try.prog w = .ok (.agg (bytesV Z16)) w := (zero_of_info zero97).1
  have d1 := hk1.below hW hk1.lt
  have db := hb.below hW
  have f1 := d1.cell 0
  simp only [List.getElem?_toArray, List.getElem?_cons_zero] at f1
  have hY' := Lib.hid hY
  have hJ' := Lib.hid hJ
  clear hG hY hJx hb hk1 hW hJ
  have hKw : Keeps W.heap.size (msgK k1 a l.length) W W := Keeps.refl _ _ _
  refine callsIn_of_wp Try.func91 rfl trivial ?_ rfl
  simp only [Try.ntmps91, List.size_toArray, List.length_cons, List.length_nil, Nat.reduceAdd, Nat.reduceSub, Array.replicate_succ, Array.replicate_zero, List.push_toArray, List.append_toArray, List.nil_append, List.cons_append]
  gi_wp2
  gi_loopw [3] (fun t3 wr => ∃ (k : Nat) (ar : Option Addr) (cr : Nat), k < nbl l ∧ t3 = .slice ar (l.drop (16 * k)).length cr ∧ Bsl wr (.slice ar (l.drop (16 * k)).length cr) (l.drop (16 * k)) ∧ (∀ b o s, ar = some ⟨b, o, s⟩ → ∃ o' s', a = some ⟨b, o', s'⟩) ∧ J (blkU l k) wr ∧ Keeps W.heap.size (msgK k1 a l.length) W wr) (fun t _ => match t with | .slice _ m _ => m | _ => 0)
  case atStart => exact ⟨0, a, cap, by unfold nbl; split <;> omega, rfl, db, fun b o s h => ⟨o, s, h⟩, h0, hKw⟩
  case round =>
    clear h0 hKw db
    obtain ⟨k, ar, cr, hk, rfl, hr, har, h0, hKw⟩ := hrel
    have hlast := Lib.hid (nbl_last l k hk)
    obtain ⟨X, hX⟩ : ∃ X, X = l.drop (16 * k) := ⟨_, rfl⟩
    have hXl : X.length ≤ 100000 := by rw [hX, List.length_drop]; omega
    rw [← hX] at hr hlast ⊢
    have hXl' := Lib.hid hXl
    have hbk : bln l k = min X.length 16 := by rw [bln, hX, List.length_drop]; omega
    have hbl : blk l k = X.take 16 ++ Z16.drop (min X.length 16) := by
      rw [blk, hbk, hX]; congr 1
      rw [Z16, List.drop_replicate]
    obtain ⟨m, hm⟩ : ∃ m, m = min X.length 16 := ⟨_, rfl⟩
    rw [← hm] at hbk hbl
    have hmX : m ≤ X.length := by omega
    have hm16 : m ≤ 16 := by omega
    have hsl := fun w' (h : Bsl w' (.slice ar X.length cr) X) => bsl_sliced h m hmX
    obtain ⟨ar', cr', hsd, har'⟩ : ∃ ar' cr', sliced ar m X.length cr 1 = .slice ar' (X.length - m) cr' ∧ ∀ b o s, ar' = some ⟨b, o, s⟩ → ∃ o' s', ar = some ⟨b, o', s'⟩ := ⟨_, _, rfl, sliced_blk (n := X.length) rfl⟩
    rw [hsd] at hsl
    have hK9 : ∀ b o s, ar' = some ⟨b, o, s⟩ → ∃ o' s', a = some ⟨b, o', s'⟩ := fun b o s h => by
      obtain ⟨o1, s1, h1⟩ := har' b o s h
      exact har b o1 s1 h1
    replace hX := Lib.hid hX
    replace hbl := Lib.hid hbl
    replace hbk := Lib.hid hbk
    replace hm := Lib.hid hm
    replace hsl := Lib.hid hsl
    replace hsd := Lib.hid hsd
    replace har := Lib.hid har
    replace har' := Lib.hid har'
    replace hK9 := Lib.hid hK9
    have hnx := Lib.hid (blkU_succ l k)
    have hr1 := hr.below ((Below.refl wr.heap.size wr).alloc (Nat.le_refl _) (.cells (bytesV Z16) 97))
    have hXi : (X.length : Int) ≤ 100000 := by omega
    by_cases hz : X.length ≤ 16
    · have hmz : X.length - m = 0 := by have := hm.out; omega
      rw [hmz] at hsd hsl
      gi_wp2_with (first
        | ((with_reducible refine wpListIn_copy_bsl rfl (.tmp 7) (.tmp 8) rfl (L := Z16) (X := X) (t := 97) 16 rfl rfl (Blk.new' rfl) hr1 rfl ?_); intro w2 d2 o2; rw [← hm.out]; rw [← hm.out, ← hbl.out] at d2; (have hb2 := below_only ((Below.refl wr.heap.size wr).alloc (Nat.le_refl _) (.cells (bytesV Z16) 97)) o2 (Nat.le_refl _)); (obtain ⟨fn, tmps, assign, body, hy, hR⟩ := hY'.out _ (blk l k, bln l k) w2 (hJ'.out _ _ _ h0 (hb2.mono hKw.size)) ⟨by rw [blkU_length]; exact hk, by rw [blkU_length]⟩); dsimp only at hy; rw [hbk.out] at hy)
        | ((with_reducible refine wpListIn_slice_bsl rfl (.tmp 10) (.tmp 11) rfl m rfl rfl hmX ?_); rw [hsd.out])
        | ((with_reducible refine wpListIn_load_blk rfl 97 (.tmp 4) rfl wr.heap.size 0 16 rfl d2 row97 ?_ (bytesV (blk l k)) ?_ ?_); (rw [bytesV_size, blk_length]; exact Nat.le_refl _); (exact bytesV_whole _ _ (blk_length _ _)))
        | fail)
      refine hR.mono ?_
      rintro e W3 (⟨rfl, hJ3, hk3⟩ | ⟨rfl, hJx3, hk3⟩)
      · gi_wp2
        refine bodyPost_ret (results_none rfl _ _ _) rfl ?_
        have hk1 : k + 1 = nbl l := hlast.out.1 (by rw [hbk.out]; omega)
        exact ⟨⟨_, rfl⟩, .inl ⟨_, rfl, by rw [← hk1, hnx.out]; exact hJ3⟩⟩
      · gi_wp2
        refine bodyPost_ret (results_none rfl _ _ _) rfl ?_
        exact ⟨⟨_, rfl⟩, .inr ⟨_, hJx3⟩⟩
    · obtain ⟨n', hn'⟩ : ∃ n', n' = X.length - m := ⟨_, rfl⟩
      rw [← hn'] at hsd hsl
      have hn0 : 0 < n' := by have := hm.out; omega
      have hni : ¬ (n' : Int) = 0 := by omega
      replace hn' := Lib.hid hn'
      gi_wp2_with (first
        | ((with_reducible refine wpListIn_copy_bsl rfl (.tmp 7) (.tmp 8) rfl (L := Z16) (X := X) (t := 97) 16 rfl rfl (Blk.new' rfl) hr1 rfl ?_); intro w2 d2 o2; rw [← hm.out]; rw [← hm.out, ← hbl.out] at d2; (have hb2 := below_only ((Below.refl wr.heap.size wr).alloc (Nat.le_refl _) (.cells (bytesV Z16) 97)) o2 (Nat.le_refl _)); (obtain ⟨fn, tmps, assign, body, hy, hR⟩ := hY'.out _ (blk l k, bln l k) w2 (hJ'.out _ _ _ h0 (hb2.mono hKw.size)) ⟨by rw [blkU_length]; exact hk, by rw [blkU_length]⟩); dsimp only at hy; rw [hbk.out] at hy)
        | ((with_reducible refine wpListIn_slice_bsl rfl (.tmp 10) (.tmp 11) rfl m rfl rfl hmX ?_); rw [hsd.out])
        | ((with_reducible refine wpListIn_load_blk rfl 97 (.tmp 4) rfl wr.heap.size 0 16 rfl d2 row97 ?_ (bytesV (blk l k)) ?_ ?_); (rw [bytesV_size, blk_length]; exact Nat.le_refl _); (exact bytesV_whole _ _ (blk_length _ _)))
        | fail)
      have hk9 : ∀ b o, ar' = some ⟨b, o, none⟩ → W.heap.size ≤ b ∨ msgK k1 a l.length b := fun b o h => .inr (.inr ⟨by have h1 := hX.out; rw [h1, List.length_drop] at hz; omega, hK9.out b o none h⟩)
      have hsw : Bsl w2 (.slice ar' n' cr') (X.drop m) := hsl.out _ (hr.below hb2)
      have hKw2 := hKw.next hb2
      have hm16e : m = 16 := by have := hm.out; omega
      have hXd : X.drop m = l.drop (16 * (k + 1)) := by
        rw [hX.out, List.drop_drop, hm16e]; rfl
      have hdl : (l.drop (16 * (k + 1))).length = n' := by rw [← hXd, List.length_drop, hn'.out]
      have hk1 : k + 1 < nbl l := by
        have h1 : ¬ k + 1 = nbl l := fun h => by
          have := hlast.out.2 h
          rw [hbk.out] at this
          omega
        omega
      replace hXd := Lib.hid hXd
      replace hdl := Lib.hid hdl
      replace hm16e := Lib.hid hm16e
      refine hR.mono ?_
      rintro e W3 (⟨rfl, hJ3, hk3⟩ | ⟨rfl, hJx3, hk3⟩)
      · gi_wp2
        have hb3 := bsl_keeps hsw hk3 hk9
        go_roundw
        case rel => exact ⟨k + 1, ar', cr', hk1, by rw [hdl.out], by rw [hdl.out, ← hXd.out]; exact hb3, hK9.out, by rw [hnx.out]; exact hJ3, hKw2.trans hk3⟩
        case measure => have := hn'.out; have := hm16e.out; simp; omega
      · gi_wp2
        refine bodyPost_ret (results_none rfl _ _ _) rfl ?_
        exact ⟨⟨_, rfl⟩, .inr ⟨_, hJx3⟩⟩
end Go.Proofs.Ytdgmahgidmjniaa

/-! Message authentication codes: the last block. -/
namespace Go.Proofs.Ytdgmahgidmjniaa
open Go.RowKit
attribute [-go_sem] Instr.build

/-- The last block (with n bytes of the message) as it is combined. -/
def lastL (key b : List UInt8) (n : Nat) : List UInt8 := if n = 16 then xrL b (sub1 key) else xrL (b.set n 0x80) (sub2 key)
theorem lastL_length (key b : List UInt8) (n : Nat) (hb : b.length = 16) : (lastL key b n).length = 16 := by
  unfold lastL
  split
  · rw [xrL_length, sub1_length]; omega
  · rw [xrL_length, sub2_length, List.length_set]; omega
set_option maxRecDepth 100000 in
set_option maxHeartbeats 4000000 in
theorem last_any (key : List UInt8) (hk : key.length = 16) (g : Nat) (b : List UInt8) (hb : b.length = 16) (n : Nat) (hn : n ≤ 16) (w : World) (hg : Blk w g (bytesV key) 22) :
    Calls Try.prog 86 #[.agg (bytesV b), .int .i64 n, .pointer (some ⟨g, 0, none⟩)] w fun e w' => e = .returned (.agg (bytesV (lastL key b n))) ∧ Below w.heap.size w w' := by
  have z1 : ∀ w, (zeroValue 97).run Try.prog w = .ok (.agg (bytesV Z16)) w := (zero_of_info zero97).1
  have z2 : ∀ w, (zeroValue 22).run Try.prog w = .ok (.agg (bytesV Z16)) w := (zero_of_info zero22).1
  have hsub := fun w => subkeys_any key hk w
  obtain ⟨A, hA⟩ : ∃ A, A = sub1 key := ⟨_, rfl⟩
  obtain ⟨D, hD⟩ : ∃ D, D = sub2 key := ⟨_, rfl⟩
  have hAl := Lib.hid (show A.length = 16 by rw [hA, sub1_length])
  have hDl := Lib.hid (show D.length = 16 by rw [hD, sub2_length])
  rw [← hA, ← hD] at hsub
  obtain ⟨W, hW⟩ : ∃ W, W = (w.alloc (.cells (bytesV b) 97)).alloc (.cells (bytesV Z16) 97) := ⟨_, rfl⟩
  have b0 : Blk W w.heap.size (bytesV b) 97 := by rw [hW]; exact (Blk.new' rfl).alloc _
  have b1 : Blk W (w.heap.size + 1) (bytesV Z16) 97 := by rw [hW]; exact Blk.new' (by simp)
  have bg : Blk W g (bytesV key) 22 := by rw [hW]; exact (hg.alloc _).alloc _
  have hB : Below w.heap.size w W := by rw [hW]; exact ((Below.refl _ _).alloc (Nat.le_refl _) _).alloc (by simp) _
  have hgl := hg.lt
  have HW := Lib.hid hW
  clear hW hg
  have s5 : (Try.prog.info? 5).map (·.size) = some 1 := by kernel_rfl
  have hni : (n : Int) ≤ 16 := by omega
  by_cases h16 : n = 16
  · have hL : lastL key b n = xrL b A := by rw [lastL, if_pos h16, hA]
    have hXl := Lib.hid (show (xrL b A).length = 16 by rw [xrL_length, hAl.out]; omega)
    have hpl := fun w => plus_any b A hb hAl.out w
    rw [hL]
    obtain ⟨X, hX⟩ : ∃ X, X = xrL b A := ⟨_, rfl⟩
    rw [← hX] at hXl hpl ⊢
    clear hX hL hA hD
    subst h16
    go_enter Try.func86, Try.ntmps86
    go_wp2_with (first
      | ((with_reducible refine wpList_load_blk rfl 22 (.tmp 2) rfl g 0 16 rfl (HW.out ▸ bg) row22 ?_ (bytesV key) ?_ ?_); (rw [bytesV_size, hk]; exact Nat.le_refl _); (exact bytesV_whole _ _ hk))
      | (go_at_call 49; rw [← HW.out]; (with_reducible refine (hsub _).mono ?_); rintro e w2 ⟨rfl, hb1⟩; replace b0 := b0.below hb1 b0.lt; replace b1 := b1.below hb1 b1.lt; replace hB := bnext hB hb1; clear hb1 bg; have n0 := b1.lt; (obtain ⟨V, hV⟩ : ∃ V, V = (w2.alloc (.cells (bytesV Z16) 22)).alloc (.cells (bytesV Z16) 22) := ⟨_, rfl⟩); have c0 : Blk V w2.heap.size (bytesV Z16) 22 := (by rw [hV]; exact (Blk.new' rfl).alloc _); have c1 : Blk V (w2.heap.size + 1) (bytesV Z16) 22 := (by rw [hV]; exact Blk.new' (by simp)); have hbV : Below w2.heap.size w2 V := (by rw [hV]; exact ((Below.refl _ _).alloc (Nat.le_refl _) _).alloc (by simp) _); have HV := Lib.hid hV; clear hV; replace b0 := b0.below hbV b0.lt; replace b1 := b1.below hbV b1.lt; replace hB := bnext hB hbV)
      | (rw [← HV.out]; (with_reducible refine wpList_store_blk rfl 22 (.tmp 6) (.tmp 11) rfl w2.heap.size 0 16 (bytesV A) rfl rfl c0 row22 ?_ ?_ (bytesV_one _) ?_); (rw [bytesV_size, hAl.out]); (rw [bytesV_size]; decide); intro w3 d0 o3; rw [splice_all _ _ (by rw [hAl.out]; rfl)] at d0; replace c1 := c1.only o3 (by omega); replace b0 := b0.only o3 (by omega); replace b1 := b1.only o3 (by omega); replace hB := below_only hB o3 (by omega); clear o3 c0)
      | ((with_reducible refine wpList_store_blk rfl 22 (.tmp 7) (.tmp 12) rfl (w2.heap.size + 1) 0 16 (bytesV D) rfl rfl c1 row22 ?_ ?_ (bytesV_one _) ?_); (rw [bytesV_size, hDl.out]); (rw [bytesV_size]; decide); intro w4 d1 o4; rw [splice_all _ _ (by rw [hDl.out]; rfl)] at d1; replace d0 := d0.only o4 (by omega); replace b0 := b0.only o4 (by omega); replace b1 := b1.only o4 (by omega); replace hB := below_only hB o4 (by omega); clear o4 c1)
      | ((with_reducible refine wpList_load_blk rfl 97 (.tmp 3) rfl w.heap.size 0 16 rfl b0 row97 ?_ (bytesV b) ?_ ?_); (rw [bytesV_size, hb]; exact Nat.le_refl _); (exact bytesV_whole _ _ hb))
      | ((with_reducible refine wpList_load_blk rfl 22 (.tmp 6) rfl w2.heap.size 0 16 rfl d0 row22 ?_ (bytesV A) ?_ ?_); (rw [bytesV_size, hAl.out]; exact Nat.le_refl _); (exact bytesV_whole _ _ hAl.out))
      | (go_at_call 87; (with_reducible refine (hpl _).mono ?_); rintro e w5 ⟨rfl, hb5⟩; replace b1 := b1.below hb5 b1.lt; replace hB := bnext hB hb5; clear hb5 d0 d1)
      | ((with_reducible refine wpList_store_blk rfl 97 (.tmp 5) (.tmp 17) rfl (w.heap.size + 1) 0 16 (bytesV X) rfl rfl b1 row97 ?_ ?_ (bytesV_one _) ?_); (rw [bytesV_size, hXl.out]); (rw [bytesV_size]; decide); intro w6 d6 o6; rw [splice_all _ _ (by rw [hXl.out]; rfl)] at d6)
      | fail)
    refine bodyPost_ret (results_blk rfl _ _ _ (bytesV X) 97 16 rfl d6 row97 (by rw [bytesV_size, hXl.out])) rfl ?_
    exact ⟨rfl, below_only hB o6 (by omega)⟩
  · have hL : lastL key b n = xrL (b.set n 0x80) D := by rw [lastL, if_neg h16, hD]
    obtain ⟨b2, hb2⟩ : ∃ b2, b2 = b.set n 0x80 := ⟨_, rfl⟩
    have hb2l := Lib.hid (show b2.length = 16 by rw [hb2, List.length_set, hb])
    rw [← hb2] at hL
    have hXl := Lib.hid (show (xrL b2 D).length = 16 by rw [xrL_length, hb2l.out, hDl.out]; omega)
    have hpl := fun w => plus_any b2 D hb2l.out hDl.out w
    rw [hL]
    obtain ⟨X, hX⟩ : ∃ X, X = xrL b2 D := ⟨_, rfl⟩
    rw [← hX] at hXl hpl ⊢
    have HB2 := Lib.hid hb2
    clear hX hL hA hD hb2
    have hnl : (n : Int) < 16 := by omega
    have hne : ¬ (n : Int) = 16 := by omega
    clear h16
    go_enter Try.func86, Try.ntmps86
    go_wp2_with (first
      | ((with_reducible refine wpList_load_blk rfl 22 (.tmp 2) rfl g 0 16 rfl (HW.out ▸ bg) row22 ?_ (bytesV key) ?_ ?_); (rw [bytesV_size, hk]; exact Nat.le_refl _); (exact bytesV_whole _ _ hk))
      | (go_at_call 49; rw [← HW.out]; (with_reducible refine (hsub _).mono ?_); rintro e w2 ⟨rfl, hb1⟩; replace b0 := b0.below hb1 b0.lt; replace b1 := b1.below hb1 b1.lt; replace hB := bnext hB hb1; clear hb1 bg; have n0 := b1.lt; (obtain ⟨V, hV⟩ : ∃ V, V = (w2.alloc (.cells (bytesV Z16) 22)).alloc (.cells (bytesV Z16) 22) := ⟨_, rfl⟩); have c0 : Blk V w2.heap.size (bytesV Z16) 22 := (by rw [hV]; exact (Blk.new' rfl).alloc _); have c1 : Blk V (w2.heap.size + 1) (bytesV Z16) 22 := (by rw [hV]; exact Blk.new' (by simp)); have hbV : Below w2.heap.size w2 V := (by rw [hV]; exact ((Below.refl _ _).alloc (Nat.le_refl _) _).alloc (by simp) _); have HV := Lib.hid hV; clear hV; replace b0 := b0.below hbV b0.lt; replace b1 := b1.below hbV b1.lt; replace hB := bnext hB hbV)
      | (rw [← HV.out]; (with_reducible refine wpList_store_blk rfl 22 (.tmp 6) (.tmp 11) rfl w2.heap.size 0 16 (bytesV A) rfl rfl c0 row22 ?_ ?_ (bytesV_one _) ?_); (rw [bytesV_size, hAl.out]); (rw [bytesV_size]; decide); intro w3 d0 o3; rw [splice_all _ _ (by rw [hAl.out]; rfl)] at d0; replace c1 := c1.only o3 (by omega); replace b0 := b0.only o3 (by omega); replace b1 := b1.only o3 (by omega); replace hB := below_only hB o3 (by omega); clear o3 c0)
      | ((with_reducible refine wpList_store_blk rfl 22 (.tmp 7) (.tmp 12) rfl (w2.heap.size + 1) 0 16 (bytesV D) rfl rfl c1 row22 ?_ ?_ (bytesV_one _) ?_); (rw [bytesV_size, hDl.out]); (rw [bytesV_size]; decide); intro w4 d1 o4; rw [splice_all _ _ (by rw [hDl.out]; rfl)] at d1; replace d0 := d0.only o4 (by omega); replace b0 := b0.only o4 (by omega); replace b1 := b1.only o4 (by omega); replace hB := below_only hB o4 (by omega); clear o4 c1)
      | ((with_reducible refine wpList_store_int rfl 5 (.tmp 19) _ rfl w.heap.size n .u8 128 rfl rfl b0 s5 ?_ ?_); (rw [bytesV_size, hb]; omega); intro w7 e0 o7; replace e0 : Blk w7 w.heap.size (bytesV b2) 97 := (by rw [HB2.out, ← bytesV_set]; exact e0); replace d1 := d1.only o7 (by omega); replace b1 := b1.only o7 (by omega); replace hB := below_only hB o7 (Nat.le_refl _); clear o7 b0 d0)
      | ((with_reducible refine wpList_load_blk rfl 97 (.tmp 3) rfl w.heap.size 0 16 rfl e0 row97 ?_ (bytesV b2) ?_ ?_); (rw [bytesV_size, hb2l.out]; exact Nat.le_refl _); (exact bytesV_whole _ _ hb2l.out))
      | ((with_reducible refine wpList_load_blk rfl 22 (.tmp 7) rfl (w2.heap.size + 1) 0 16 rfl d1 row22 ?_ (bytesV D) ?_ ?_); (rw [bytesV_size, hDl.out]; exact Nat.le_refl _); (exact bytesV_whole _ _ hDl.out))
      | (go_at_call 87; (with_reducible refine (hpl _).mono ?_); rintro e w5 ⟨rfl, hb5⟩; replace b1 := b1.below hb5 b1.lt; replace hB := bnext hB hb5; clear hb5 d1)
      | ((with_reducible refine wpList_store_blk rfl 97 (.tmp 5) (.tmp 22) rfl (w.heap.size + 1) 0 16 (bytesV X) rfl rfl b1 row97 ?_ ?_ (bytesV_one _) ?_); (rw [bytesV_size, hXl.out]); (rw [bytesV_size]; decide); intro w6 d6 o6; rw [splice_all _ _ (by rw [hXl.out]; rfl)] at d6)
      | fail)
    refine bodyPost_ret (results_blk rfl _ _ _ (bytesV X) 97 16 rfl d6 row97 (by rw [bytesV_size, hXl.out])) rfl ?_
    exact ⟨rfl, below_only hB o6 (by omega)⟩
end Go.Proofs.Ytdgmahgidmjniaa
