/-
  Arrays of bytes, and arrays of arrays of bytes: == answers whether the lists are equal.
-/
import Derived.Test.YtdgmahgidmjniaaBas2
import Derived.ChangeKeysEq
import Derived.Laws.StructEq
namespace Go.Proofs.Ytdgmahgidmjniaa
open Go.RowKit
section
variable {P : Program}

theorem cellsOf_size {e : TypeId} {n : Nat} (hs : (P.info? e).map (·.size) = some n) : P.cellsOf e = n := by
  unfold Program.cellsOf
  cases h : P.info? e with
  | none => simp [h] at hs
  | some i => simpa [h] using hs
theorem run_part_byte {e : TypeId} (he : P.underlying e = some (.int .u8)) (l : List UInt8) (i : Nat) (hi : i < l.length) (w : World) : (part e (bytesV l) i).run P w = .ok (.int .u8 (gd l i).toNat) w :=
  run_part_plain w (by simp [Program.plainKey, he]) (by rw [bytesV_gd _ _ hi])
theorem run_part_row {e : TypeId} {m : Nat} (he : RowTy P e m) (l : List UInt8) (i : Nat) (w : World) : (part e (bytesV l) i).run P w = .ok (.agg (bytesV ((l.drop i).take m))) w := by
  obtain ⟨⟨d, hd, hr⟩, hs⟩ := he
  cases hq : P.info? e with
  | none => simp [hq] at hs
  | some ie =>
    have hs' : ie.size = m := by simpa [hq] using hs
    have hagg : (isAgg e).run P w = .ok true w := by
      unfold isAgg
      rw [Sem.run_bind, run_underlying hd w]
      cases d <;> simp_all
    simp only [part, Sem.run_bind, hagg, Result.andThen_ok, sizeOf, typeInfo]
    simp [hq, hs', bytesV_extract]

theorem eqItems_bytes (d : Nat) {e : TypeId} (he : P.underlying e = some (.int .u8)) (l m : List UInt8) (w : World) : ∀ is : List Nat, (∀ i ∈ is, i < l.length ∧ i < m.length) →
    (Op.eqItems (d + 1) e 1 (bytesV l) (bytesV m) is).run P w = .ok (is.all fun i => gd l i == gd m i) w
  | [], _ => by simp [Op.eqItems]
  | i :: is, h => by
    obtain ⟨h1, h2⟩ := h i (by simp)
    have ih := eqItems_bytes d he l m w is (fun j hj => h j (by simp [hj]))
    have hc : (((gd l i).toNat : Int) == ((gd m i).toNat : Int)) = (gd l i == gd m i) := by
      rw [Bool.eq_iff_iff]; simp only [beq_iff_eq, Int.natCast_inj, UInt8.toNat_inj]
    simp only [Op.eqItems, Sem.run_bind, Nat.mul_one, run_part_byte he l i h1, run_part_byte he m i h2, Result.andThen_ok, run_equalIn_int (k' := .u8) (h := he), List.all_cons, hc]
    cases hg : gd l i == gd m i
    · simp
    · simpa using ih
theorem all_gd (l m : List UInt8) (h : l.length = m.length) : (List.range l.length).all (fun i => gd l i == gd m i) = decide (l = m) := by
  rw [Bool.eq_iff_iff]
  simp only [List.all_eq_true, List.mem_range, beq_iff_eq, decide_eq_true_eq]
  exact ⟨fun k => ext_gd h k, fun k => by subst k; simp⟩
theorem run_equalIn_bytes (d : Nat) {t e : TypeId} {n : Nat} (hu : P.underlying t = some (.array n e)) (he : P.underlying e = some (.int .u8)) (hs : (P.info? e).map (·.size) = some 1)
    (l m : List UInt8) (hl : l.length = n) (hm : m.length = n) (w : World) : (Op.equalIn (d + 2) t (.agg (bytesV l)) (.agg (bytesV m))).run P w = .ok (decide (l = m)) w := by
  obtain ⟨i, hi⟩ := info_of_underlying he
  rw [run_equalIn_array w (d + 1) _ _ hu hi, cellsOf_size hs, eqItems_bytes d he l m w _ (by intro i h; rw [List.mem_range] at h; omega)]
  rw [← all_gd l m (by omega), hl]
theorem eqItems_rows (d : Nat) {r e : TypeId} {n : Nat} (hr : P.underlying r = some (.array n e)) (he : P.underlying e = some (.int .u8)) (hs : (P.info? e).map (·.size) = some 1) (hn : (P.info? r).map (·.size) = some n)
    (l m : List UInt8) (w : World) : ∀ is : List Nat, (∀ i ∈ is, i * n + n ≤ l.length ∧ i * n + n ≤ m.length) →
    (Op.eqItems (d + 2) r n (bytesV l) (bytesV m) is).run P w = .ok (is.all fun i => decide ((l.drop (i * n)).take n = (m.drop (i * n)).take n)) w
  | [], _ => by simp [Op.eqItems]
  | i :: is, h => by
    obtain ⟨h1, h2⟩ := h i (by simp)
    have ih := eqItems_rows d hr he hs hn l m w is (fun j hj => h j (by simp [hj]))
    have hrow : RowTy P r n := ⟨⟨_, hr, rfl⟩, hn⟩
    simp only [Op.eqItems, Sem.run_bind, run_part_row hrow, Result.andThen_ok, run_equalIn_bytes d hr he hs _ _ (show ((l.drop (i * n)).take n).length = n by simp; omega) (show ((m.drop (i * n)).take n).length = n by simp; omega), List.all_cons]
    cases hg : decide ((l.drop (i * n)).take n = (m.drop (i * n)).take n)
    · simp
    · simpa using ih
theorem all_rows (n : Nat) : ∀ (k : Nat) (l m : List UInt8), l.length = k * n → m.length = k * n → ((List.range k).all (fun i => decide ((l.drop (i * n)).take n = (m.drop (i * n)).take n)) = decide (l = m))
  | 0, l, m, hl, hm => by
    have : l = [] := List.eq_nil_of_length_eq_zero (by omega)
    have : m = [] := List.eq_nil_of_length_eq_zero (by omega)
    subst_vars; simp
  | k + 1, l, m, hl, hm => by
    rw [Nat.succ_mul] at hl hm
    have ih := all_rows n k (l.drop n) (m.drop n) (by simp; omega) (by simp; omega)
    rw [List.range_succ_eq_map, List.all_cons, List.all_map]
    have e : ((fun i => decide ((l.drop (i * n)).take n = (m.drop (i * n)).take n)) ∘ Nat.succ) = fun i => decide (((l.drop n).drop (i * n)).take n = ((m.drop n).drop (i * n)).take n) := by
      funext i
      simp only [Function.comp, List.drop_drop, Nat.succ_mul, Nat.add_comm n]
    rw [e, ih, Bool.eq_iff_iff]
    simp only [Nat.zero_mul, List.drop_zero, Bool.and_eq_true, decide_eq_true_eq]
    exact ⟨fun ⟨h1, h2⟩ => by rw [← List.take_append_drop n l, ← List.take_append_drop n m, h1, h2], fun h => by subst h; simp⟩
theorem run_equalIn_rows (d : Nat) {t r e : TypeId} {k n : Nat} (hu : P.underlying t = some (.array k r)) (hr : P.underlying r = some (.array n e)) (he : P.underlying e = some (.int .u8)) (hs : (P.info? e).map (·.size) = some 1) (hn : (P.info? r).map (·.size) = some n)
    (l m : List UInt8) (hl : l.length = k * n) (hm : m.length = k * n) (w : World) : (Op.equalIn (d + 3) t (.agg (bytesV l)) (.agg (bytesV m))).run P w = .ok (decide (l = m)) w := by
  obtain ⟨i, hi⟩ := info_of_underlying hr
  rw [run_equalIn_array w (d + 2) _ _ hu hi, cellsOf_size hn, eqItems_rows d hr he hs hn l m w _ ?_, all_rows n k l m hl hm]
  intro i h
  rw [List.mem_range] at h
  have : (i + 1) * n ≤ k * n := Nat.mul_le_mul_right _ h
  rw [Nat.succ_mul] at this
  omega

/-- The facts of a type [n]byte. -/
structure ArrTy (P : Program) (t : TypeId) (n : Nat) : Prop where
  arr : ∃ e, P.underlying t = some (.array n e) ∧ P.underlying e = some (.int .u8) ∧ (P.info? e).map (·.size) = some 1
  size : (P.info? t).map (·.size) = some n
theorem ArrTy.row {t : TypeId} {n : Nat} (h : ArrTy P t n) : RowTy P t n := by obtain ⟨e, h1, _⟩ := h.arr; exact ⟨⟨_, h1, rfl⟩, h.size⟩
theorem run_eql_arr {t : TypeId} {n : Nat} (h : ArrTy P t n) (l m : List UInt8) (hl : l.length = n) (hm : m.length = n) (w : World) : (binOp .eql t (.agg (bytesV l)) (.agg (bytesV m))).run P w = .ok (.bool (decide (l = m))) w := by
  obtain ⟨e, h1, h2, h3⟩ := h.arr
  rw [run_eql_struct, run_equalIn_bytes 9998 h1 h2 h3 l m hl hm]; rfl
theorem run_neq_arr {t : TypeId} {n : Nat} (h : ArrTy P t n) (l m : List UInt8) (hl : l.length = n) (hm : m.length = n) (w : World) : (binOp .neq t (.agg (bytesV l)) (.agg (bytesV m))).run P w = .ok (.bool (!decide (l = m))) w := by
  obtain ⟨e, h1, h2, h3⟩ := h.arr
  rw [run_neq_struct, run_equalIn_bytes 9998 h1 h2 h3 l m hl hm]; rfl
theorem run_eql_rows {t r : TypeId} {k n : Nat} (hu : P.underlying t = some (.array k r)) (h : ArrTy P r n) (l m : List UInt8) (hl : l.length = k * n) (hm : m.length = k * n) (w : World) : (binOp .eql t (.agg (bytesV l)) (.agg (bytesV m))).run P w = .ok (.bool (decide (l = m))) w := by
  obtain ⟨e, h1, h2, h3⟩ := h.arr
  rw [run_eql_struct, run_equalIn_rows 9997 hu h1 h2 h3 h.size l m hl hm]; rfl
theorem decide_self (l : List UInt8) : decide (l = l) = true := by simp
end
end Go.Proofs.Ytdgmahgidmjniaa
