/-
  The scheduler, walks: made, copied.
-/
import Derived.Test.YtdnpbemkobhlcaaFaiA
import Derived.Laws.CopyOwn
import Derived.Lib.SliceRun
set_option linter.unusedSimpArgs false
set_option linter.unusedVariables false
namespace Go.Proofs.Ytdnpbemkobhlcaa
open Go.RowKit
attribute [-go_sem] Instr.build

theorem elem36 : Try.prog.underlying 36 = some (.slice 3) := by kernel_rfl
theorem size3 : (Try.prog.info? 3).map (·.size) = some 1 := by kernel_rfl
theorem mk_row36 (n : Nat) (hn : n ≤ 100000) (w : World) : (Instr.makeSlice 36 (.int .i64 (n : Int)) (.int .i64 (n : Int))).run Try.prog w = .ok (.slice (some ⟨w.heap.size, 0, none⟩) n n) (w.alloc (.cells (rowV (fun _ => 0) n) 3)) := by
  rw [run_make_row' 36 3 (.int .i64 0) 8 elem36 info3 rfl .i64 .i64 n (by omega) (by omega) w, made_row]
theorem bmul_any (x y : Nat) (hx : x < 18446744073709551616) (hy : y < 18446744073709551616) (w : World) :
    Calls Try.prog 61 #[.int .u64 x, .int .u64 y] w fun e w' => e = .returned (.tuple #[.int .u64 ((x * y / 18446744073709551616 : Nat) : Int), .int .u64 ((x * y % 18446744073709551616 : Nat) : Int)]) ∧ w' = w := by
  generalize hX : ((x : Nat) : Int) = X
  generalize hY : ((y : Nat) : Int) = Y
  have hm := mul64_any x y hx hy
  rw [hX, hY] at hm
  generalize ((x * y / 18446744073709551616 : Nat) : Int) = H at *
  generalize ((x * y % 18446744073709551616 : Nat) : Int) = L at *
  go_enter Try.func61, Try.ntmps61
  go_wp2_with (go_at_call 52; (with_reducible refine (hm _).mono ?_); rintro e w' ⟨rfl, hw⟩; rw [hw])
  go_ret2
  exact ⟨rfl, rfl⟩
theorem bmul_one (n : Nat) (hn : n ≤ 32) (A : Int) (hA : A = 1) (w : World) : Calls Try.prog 61 #[.int .u64 A, .int .u64 n] w fun e w' => e = .returned (.tuple #[.int .u64 0, .int .u64 n]) ∧ w' = w := by
  subst hA
  have := bmul_any 1 n (by omega) (by omega) w
  rw [Nat.one_mul, Nat.div_eq_of_lt (by omega), Nat.mod_eq_of_lt (by omega)] at this
  exact this
def ones (k : Nat) : Nat → Nat := fun i => if i < k then 1 else 0
theorem ones_all (n : Nat) : rowV (ones n) n = rowV (fun _ => 1) n := rowV_congr _ _ _ fun i hi => by unfold ones; rw [if_pos hi]
theorem ones_copy (n o c : Nat) (h : o + c ≤ n) : ((rowV (ones o) n).toList.take o ++ (List.replicate c (Value.int .i64 1) ++ (rowV (ones o) n).toList.drop (o + c))).toArray = rowV (ones (o + c)) n := by
  apply Array.ext_getElem?
  intro i
  by_cases hi : i < n
  · rw [rowV_get _ _ _ hi]
    simp only [List.getElem?_toArray]
    have hl : ((rowV (ones o) n).toList.take o).length = o := by simp [rowV]; omega
    by_cases h1 : i < o
    · rw [List.getElem?_append_left (by rw [hl]; exact h1), List.getElem?_take_of_lt h1, Array.getElem?_toList, rowV_get _ _ _ hi]
      unfold ones; rw [if_pos h1, if_pos (by omega)]
    · by_cases h2 : i < o + c
      · rw [List.getElem?_append_right (by rw [hl]; omega), hl, List.getElem?_append_left (by simp; omega), List.getElem?_replicate, if_pos (by omega)]
        unfold ones; rw [if_pos h2]; rfl
      · rw [List.getElem?_append_right (by rw [hl]; omega), hl, List.getElem?_append_right (by rw [List.length_replicate]; omega), List.length_replicate, List.getElem?_drop, show o + c + (i - o - c) = i by omega, Array.getElem?_toList, rowV_get _ _ _ hi]
        unfold ones; rw [if_neg h1, if_neg h2]
  · have e : (rowV (ones (o + c)) n)[i]? = none := by rw [Array.getElem?_eq_none]; rw [rowV_size]; omega
    rw [e, Array.getElem?_eq_none]
    simp [rowV]; omega
theorem wp_copy_row {P : Program} {w : World} {o : Oper} {a : Act} {K : Act → World → Prop} {Q : Exit → Act → World → Prop} (dd : Option Tmp) (hdd : o.dst = dd) (d s : Operand) (dT sT : TypeId)
    (ho : o.op = .call { callee := .builtin .copy, args := #[d, s], argTypes := #[dT, sT] }) (elem : TypeId) (hu : P.underlying dT = some (.slice elem)) (hsz : (P.info? elem).map (·.size) = some 1)
    (g off dLen dCap : Nat) (ad : Addr) (sLen sCap : Nat) (hd : a.eval d = .slice (some ⟨g, off, none⟩) dLen dCap) (hs : a.eval s = .slice (some ad) sLen sCap)
    (cur : Array Value) (t : TypeId) (hg : w.heap[g]? = some (.cells cur t (0, 0))) (cs : List Value) (hn : cs.length = Nat.min sLen dLen)
    (hsrc : ∀ j v, cs[j]? = some v → w.cell? (ad.add j) = some v) (hfit : off + cs.length ≤ cur.size) (h1 : ∀ v ∈ cs, v.oneCell' = true)
    (h : K (a.put dd (goInt cs.length)) (w.setRow g (cur.toList.take off ++ (cs ++ cur.toList.drop (off + cs.length))).toArray)) : o.wp P a w K Q := by
  subst hdd
  have hrun := run_copy_row (P := P) w dT sT o.type elem g off dLen dCap ad sLen sCap cur t cs hu hsz hg hn hsrc hfit h1
  unfold Oper.wp
  simp [execOp, ho, resolve, invoke, builtin, hd, hs, hrun, Result.andThen]
  exact h
theorem ite_go {b : Bool} {A C : Prop} (hb : b = true) (h : A) : if b = true then A else C := by rw [if_pos hb]; exact h
theorem ones_zero : ones 0 = fun _ => 0 := by funext i; unfold ones; rw [if_neg (by omega)]
theorem rep_one (c : Nat) : ∀ v ∈ List.replicate c (Value.int .i64 1), v.oneCell' = true := by
  intro v hv
  rw [(List.mem_replicate.1 hv).2]; rfl
theorem wpAnyH_takeD {P : Program} {md : Region.Mode} {ops : Array Oper} {Q : Exit → Act → World → Prop} {S : World → Prop} (i : Nat) (d : Option Tmp) {oi : Oper} {v : Value} {fuel : Nat} {listed : Array Bool} {a : Act} {w : World} (hi : ops[i]? = some oi) (hd : oi.dst = d)
    (hs : Region.noSelect ops = true) (hf : Region.free md ops listed i = true) (hr : (Region.ready md ops listed).contains i = true)
    (hQ : ∀ c a w, Q (.panic c) (a.put oi.dst v) w → Q (.panic c) a w) (hy : YieldsIf P ops S oi v a) (hS : S w)
    (h : wpAnyH P md ops Q S fuel (listed.setIfInBounds i true) (a.put d v) w) : wpAnyH P md ops Q S (fuel + 1) listed a w := by
  subst hd; exact wpAnyH_take hi hs hf hr hQ hy hS h
theorem yieldsIf_calc {P : Program} {ops : Array Oper} {S : World → Prop} {op : Oper} {a : Act} {v : Value} (hw : Region.wanted op (yielded ops a.tmps) = true) (h : ∀ w, (execOp a.eval op).run P w = .ok (.value v) w) : YieldsIf P ops S op v a := .inl ⟨hw, fun w _ => h w⟩
set_option maxHeartbeats 2000000 in
set_option maxRecDepth 100000 in
theorem repeat_any (w : World) (xb t : Nat) (hx : Blk w xb #[.int .i64 1] t) (n : Nat) (h1 : 1 ≤ n) (h32 : n ≤ 32) :
    Calls Try.prog 40 #[.slice (some ⟨xb, 0, none⟩) 1 1, .int .i64 n] w fun e w' => e = .returned (.slice (some ⟨w.heap.size, 0, none⟩) n n) ∧ Blk w' w.heap.size (rowV (fun _ => 1) n) 3 ∧ Below w.heap.size w w' := by
  have hm := bmul_one n h32 1 rfl
  have hmk := mk_row36 n (by omega)
  rw [← ones_zero] at hmk
  have i1 : ¬ ((n : Int) < 0) := by omega
  have i2 : IntKind.u64.wrap (n : Int) = n := IntWalk.u64_in _ (by omega)
  have i3 : IntKind.i64.wrap (n : Int) = n := IntWalk.i64_in _ (by omega)
  have i4 : ¬ ((9223372036854775807 : Int) < (n : Int)) := by omega
  have i4b : decide ((9223372036854775807 : Int) < (n : Int)) = false := decide_eq_false i4
  have k0 : Blk (w.alloc (.cells (rowV (ones 0) n) 3)) w.heap.size (rowV (ones 0) n) 3 := Blk.new' rfl
  have hB := below_new (Below.refl w.heap.size w) (.cells (rowV (ones 0) n) 3)
  have hsrc : ∀ j v, (List.replicate 1 (Value.int .i64 1))[j]? = some v → (w.alloc (.cells (rowV (ones 0) n) 3)).cell? ((⟨xb, 0, none⟩ : Addr).add j) = some v := by
    intro j v hj
    have hj0 := (List.getElem?_eq_some_iff.1 hj).1
    simp only [List.length_replicate] at hj0
    obtain rfl : j = 0 := by omega
    rw [Go.WideShapes.add_plain, (hx.alloc _).cell]
    exact hj
  have hmin : (List.replicate 1 (Value.int .i64 1)).length = Nat.min 1 n := by rw [List.length_replicate]; exact (Nat.min_eq_left h1).symm
  have hfit : 0 + (List.replicate 1 (Value.int .i64 1)).length ≤ (rowV (ones 0) n).size := by rw [rowV_size, List.length_replicate]; omega
  have hE : ((rowV (ones 0) n).toList.take 0 ++ (List.replicate 1 (Value.int .i64 1) ++ (rowV (ones 0) n).toList.drop (0 + (List.replicate 1 (Value.int .i64 1)).length))).toArray = rowV (ones 1) n := by
    rw [List.length_replicate]; exact ones_copy n 0 1 (by omega)
  replace hsrc := Lib.hid hsrc
  replace hmin := Lib.hid hmin
  replace hfit := Lib.hid hfit
  replace hE := Lib.hid hE
  have K0 := Lib.hid (show (w.alloc (.cells (rowV (ones 0) n) 3)).heap[w.heap.size]? = some (.cells (rowV (ones 0) n) 3 (0, 0)) from k0)
  go_enter Try.func40, Try.ntmps40
  go_wp2_with (first
    | (go_at_call 61; (with_reducible refine (hm _).mono ?_); rintro e w' ⟨rfl, hw⟩; rw [hw]; clear hw)
    | ((with_reducible refine wpList_copy_own rfl _ _ 36 36 rfl 3 elem36 size3 w.heap.size 0 n n ⟨xb, 0, none⟩ 1 1 rfl rfl (rowV (ones 0) n) 3 K0.out (List.replicate 1 (.int .i64 1)) hmin.out hsrc.out hfit.out (rep_one 1) ?_); rw [hE.out]))
  have k1 := k0.setRow (rowV (ones 1) n)
  have hB1 := below_setRow hB (Nat.le_refl _) (rowV (ones 1) n)
  clear k0 hB hE K0 hsrc hmin hfit hm hmk
  generalize (w.alloc (.cells (rowV (ones 0) n) 3)).setRow w.heap.size (rowV (ones 1) n) = W at *
  go_loopw [8] (fun t wr => ∃ k : Nat, 1 ≤ k ∧ k ≤ n ∧ t = .int .i64 k ∧ Blk wr w.heap.size (rowV (ones k) n) 3 ∧ Below w.heap.size w wr) (fun t _ => n - (intOf t).toNat)
  case atStart => exact ⟨1, by omega, by omega, (by first | rfl | simp), k1, hB1⟩
  case round =>
    clear k1 hB1
    obtain ⟨k, hk1, hkn, rfl, k1, hB1⟩ := hrel
    by_cases hlt : k < n
    · obtain ⟨c, hc⟩ : ∃ c, c = min k (n - k) := ⟨_, rfl⟩
      have hcl : (List.replicate c (Value.int .i64 1)).length = Nat.min k (n - k) := by rw [List.length_replicate, hc]
      have hsrc : ∀ j v, (List.replicate c (Value.int .i64 1))[j]? = some v → wr.drew.cell? ((⟨w.heap.size, 0, none⟩ : Addr).add j) = some v := by
        intro j v hj
        have hj0 := (List.getElem?_eq_some_iff.1 hj).1
        simp only [List.length_replicate] at hj0
        rw [List.getElem?_replicate, if_pos hj0] at hj
        rw [Go.WideShapes.add_plain, Nat.zero_add, k1.drew.row j (by omega), ← hj]
        unfold ones
        rw [if_pos (by omega)]; rfl
      have hfit : k + (List.replicate c (Value.int .i64 1)).length ≤ (rowV (ones k) n).size := by rw [rowV_size, List.length_replicate]; omega
      have hE : ((rowV (ones k) n).toList.take k ++ (List.replicate c (Value.int .i64 1) ++ (rowV (ones k) n).toList.drop (k + (List.replicate c (Value.int .i64 1)).length))).toArray = rowV (ones (k + c)) n := by
        rw [List.length_replicate]; exact ones_copy n k c (by omega)
      have hc1 : 1 ≤ c ∧ k + c ≤ n := by omega
      have j1 : (0 : Int) ≤ (k : Int) := by omega
      have j2 : (k : Int) ≤ (n : Int) := by omega
      have j3 : IntKind.i64.wrap ((k : Int) + c) = ((k + c : Nat) : Int) := by rw [IntWalk.i64_in _ (by omega)]; omega
      replace hsrc := Lib.hid hsrc
      replace hcl := Lib.hid hcl
      replace hfit := Lib.hid hfit
      replace hE := Lib.hid hE
      replace hc := Lib.hid hc
      have KD := Lib.hid (show wr.drew.heap[w.heap.size]? = some (.cells (rowV (ones k) n) 3 (0, 0)) from k1.drew)
      have hnk : ¬ n = k := by omega
      have tt : True := trivial
      go_wp2
      refine wp_region_held_drew (S := fun _ => True) (by kernel_rfl) tt (fun hHeld => ?_)
      refine wpAnyH_takeD 0 (some 38) (v := (.int .i64 (k : Nat))) rfl rfl (by kernel_rfl) (by kernel_rfl) (by kernel_rfl) (fun _ _ _ h => h) (yieldsIf_calc rfl (fun w => by unfold execOp; go_simp)) (by assumption) ?_; try simp only [Act.put, List.setIfInBounds_toArray, List.set_cons_zero, List.set_cons_succ]
      refine wpAnyH_takeD 1 (some 39) (v := (.slice (some ⟨w.heap.size, 0, none⟩) n n)) rfl rfl (by kernel_rfl) (by kernel_rfl) (by kernel_rfl) (fun _ _ _ h => h) (yieldsIf_calc rfl (fun w => by unfold execOp; go_simp)) (by assumption) ?_; try simp only [Act.put, List.setIfInBounds_toArray, List.set_cons_zero, List.set_cons_succ]
      refine wpAnyH_takeD 2 (some 40) (v := (.int .i64 (k : Nat))) rfl rfl (by kernel_rfl) (by kernel_rfl) (by kernel_rfl) (fun _ _ _ h => h) (yieldsIf_calc rfl (fun w => by unfold execOp; go_simp)) (by assumption) ?_; try simp only [Act.put, List.setIfInBounds_toArray, List.set_cons_zero, List.set_cons_succ]
      refine wpAnyH_takeD 3 (some 41) (v := (.slice (some ⟨w.heap.size, k, none⟩) (n - k) (n - k))) rfl rfl (by kernel_rfl) (by kernel_rfl) (by kernel_rfl) (fun _ _ _ h => h) (yieldsIf_calc rfl (fun w => by unfold execOp; go_simp)) (by assumption) ?_; try simp only [Act.put, List.setIfInBounds_toArray, List.set_cons_zero, List.set_cons_succ]
      refine wpAnyH_takeD 4 (some 42) (v := (.slice (some ⟨w.heap.size, 0, none⟩) n n)) rfl rfl (by kernel_rfl) (by kernel_rfl) (by kernel_rfl) (fun _ _ _ h => h) (yieldsIf_calc rfl (fun w => by unfold execOp; go_simp)) (by assumption) ?_; try simp only [Act.put, List.setIfInBounds_toArray, List.set_cons_zero, List.set_cons_succ]
      refine wpAnyH_takeD 5 (some 43) (v := (.int .i64 (k : Nat))) rfl rfl (by kernel_rfl) (by kernel_rfl) (by kernel_rfl) (fun _ _ _ h => h) (yieldsIf_calc rfl (fun w => by unfold execOp; go_simp)) (by assumption) ?_; try simp only [Act.put, List.setIfInBounds_toArray, List.set_cons_zero, List.set_cons_succ]
      refine wpAnyH_takeD 6 (some 44) (v := (.slice (some ⟨w.heap.size, 0, none⟩) k n)) rfl rfl (by kernel_rfl) (by kernel_rfl) (by kernel_rfl) (fun _ _ _ h => h) (yieldsIf_calc rfl (fun w => by unfold execOp; go_simp)) (by assumption) ?_; try simp only [Act.put, List.setIfInBounds_toArray, List.set_cons_zero, List.set_cons_succ]
      refine wpAnyH_one 7 rfl (by kernel_rfl) (fun K' hK' => ?_)
      refine ite_go rfl ?_
      refine wp_copy_row (some 45) rfl _ _ 36 36 rfl 3 elem36 size3 w.heap.size k (n - k) (n - k) ⟨w.heap.size, 0, none⟩ k n rfl rfl (rowV (ones k) n) 3 KD.out (List.replicate c (.int .i64 1)) hcl.out hsrc.out hfit.out (rep_one c) ?_
      rw [hE.out]
      have k2 := k1.drew.setRow (rowV (ones (k + c)) n)
      have hB2 := below_setRow hB1.drew (Nat.le_refl _) (rowV (ones (k + c)) n)
      refine hK'.out _ _ trivial ?_; clear hK' K'
      rw [show goInt ((List.replicate c (Value.int .i64 1)).length : Nat) = Value.int .i64 (c : Nat) by rw [List.length_replicate]; rfl]
      try simp only [Act.put, List.setIfInBounds_toArray, List.set_cons_zero, List.set_cons_succ]
      refine wpAnyH_takeD 8 (some 46) (v := (.int .i64 ((k + c : Nat) : Int))) rfl rfl (by kernel_rfl) (by kernel_rfl) (by kernel_rfl) (fun _ _ _ h => h) (yieldsIf_calc rfl (fun w => by unfold execOp; go_simp)) (by assumption) ?_; try simp only [Act.put, List.setIfInBounds_toArray, List.set_cons_zero, List.set_cons_succ]
      refine wpAnyH_takeD 9 (some 8) (v := (.int .i64 ((k + c : Nat) : Int))) rfl rfl (by kernel_rfl) (by kernel_rfl) (by kernel_rfl) (fun _ _ _ h => h) (yieldsIf_calc rfl (fun w => by unfold execOp; go_simp)) (by assumption) ?_; try simp only [Act.put, List.setIfInBounds_toArray, List.set_cons_zero, List.set_cons_succ]
      refine wpAnyH_done (by kernel_rfl) ?_ _
      go_wp2
      exact ⟨⟨k + c, by omega, by omega, rfl, k2, hB2⟩, by simp [intOf]; omega⟩
    · obtain rfl : k = n := by omega
      rw [ones_all] at k1
      go_wp2
      go_ret
      exact ⟨rfl, k1, hB1⟩
theorem row_cells (f : Nat → Nat) (n : Nat) : ∀ i, i < n → (rowV f n)[i]? = some (.int .i64 (f i : Nat)) := fun i hi => rowV_get f n i hi
theorem new_bad (n : Int) (hn : n < 1 ∨ 32 < n) (w : World) : Calls Try.prog 17 #[.int .i64 n] w fun e w' => e = .returned (.tuple #[.pointer none, .int .i64 2]) ∧ w' = w := by
  go_enter Try.func17, Try.ntmps17
  rcases hn with h | h
  · go_wp2
    go_ret2
    exact ⟨rfl, rfl⟩
  · have h2 : ¬ n < 1 := by omega
    go_wp2
    go_ret2
    exact ⟨rfl, rfl⟩
theorem new_any (n : Nat) (h1 : 1 ≤ n) (h32 : n ≤ 32) (w : World) : Calls Try.prog 17 #[.int .i64 n] w fun e w' => ∃ sb rb, e = .returned (.tuple #[.pointer (some ⟨sb, 0, none⟩), .int .i64 0]) ∧ Sch w' sb rb n n (fun _ => 1) ∧ w.heap.size ≤ sb ∧ w.heap.size ≤ rb ∧ Below w.heap.size w w' := by
  have i1 : ¬ ((n : Int) < 1) := by omega
  have i2 : ¬ ((32 : Int) < n) := by omega
  have hbd : ∀ (a : Nat) w, (Instr.build 38 #[(0, .slice (some ⟨a, 0, none⟩) n n)]).run Try.prog w = .ok (.agg #[.slice (some ⟨a, 0, none⟩) n n]) w := fun a w => run_build w 38 _ _ (by kernel_rfl)
  have hrp := fun (W : World) (xb t : Nat) h => repeat_any W xb t h n h1 h32
  go_enter Try.func17, Try.ntmps17
  go_wp2_with (go_at_call 40; (with_reducible refine (hrp _ _ _ (Blk.new _ _ _)).mono ?_); rintro e w1 ⟨rfl, hk, hw⟩)
  have hsz : w1.heap.size = w1.heap.size := rfl
  have l1 : w.heap.size + 1 < w1.heap.size := by have := hk.lt; simpa using this
  have hB : Below w.heap.size w w1 := bnext (below_new (Below.refl w.heap.size w) _) hw
  have hk2 : Blk w1 (w.heap.size + 1) (rowV (fun _ => 1) n) 3 := by simpa using hk
  go_ret2
  exact ⟨w1.heap.size, w.heap.size + 1, rfl, ⟨Blk.new _ _ _, ⟨_, hk2.alloc _, rowV_size _ _, fun i hi => row_cells _ n i hi⟩, Nat.le_refl _, by omega, by omega, h32, by unfold maxLen; omega, fun i _ => ⟨Nat.le_refl _, by omega⟩⟩, hB.size, by omega, below_new hB _⟩
theorem own_ints_empty (w : World) (base : Nat) (hb : base ≤ w.heap.size) : (w.alloc (.cells #[] 3)).ownsRow base 3 1 (.slice (some ⟨w.heap.size, 0, none⟩) 0 0) 0 [] :=
  World.ownsRow_made w #[] 0 hb (Nat.zero_le _) rfl
def vints (S : Nat → Nat) (n : Nat) : List Value := (List.range n).map fun i => Value.int .i64 (S i : Nat)
theorem vints_length (S : Nat → Nat) (n : Nat) : (vints S n).length = n := by simp [vints]
theorem vints_get (S : Nat → Nat) (n i : Nat) (h : i < n) : (vints S n)[i]? = some (.int .i64 (S i : Nat)) := by simp [vints, h]
theorem vints_one (S : Nat → Nat) (n : Nat) : ∀ v ∈ vints S n, v.oneCell' = true := by
  intro v hv
  obtain ⟨i, _, rfl⟩ := List.mem_map.1 hv
  rfl
set_option maxRecDepth 100000 in
theorem clone_any {sb rb n m : Nat} {S : Nat → Nat} (w : World) (h : Sch w sb rb n m S) : Calls Try.prog 45 #[.slice (some ⟨rb, 0, none⟩) n m] w fun e w' =>
    ∃ b c, e = .returned (.slice (some ⟨b, 0, none⟩) n c) ∧ w.heap.size ≤ b ∧ n ≤ c ∧ c ≤ maxLen ∧ (∃ C, Blk w' b C 3 ∧ C.size = c ∧ ∀ i, i < n → C[i]? = some (.int .i64 (S i : Nat))) ∧ Below w.heap.size w w' := by
  obtain ⟨i, hi, hz⟩ := Option.map_eq_some_iff.1 info3
  simp only [Prod.mk.injEq] at hz
  obtain ⟨hz0, hz1, hz2⟩ := hz
  have hB := below_new (Below.refl w.heap.size w) (.cells #[] 3)
  have hs := h.below ((Below.refl _ _).alloc (Nat.le_refl _) (.cells #[] 3))
  have hown := own_ints_empty w w.heap.size (Nat.le_refl _)
  have hnews : ∀ j u, (vints S n)[j]? = some u → (w.alloc (.cells #[] 3)).cell? ((⟨rb, 0, none⟩ : Addr).add j) = some u := by
    intro j u hj
    have hj0 := (List.getElem?_eq_some_iff.1 hj).1
    rw [vints_length] at hj0
    rw [Go.WideShapes.add_plain, Nat.zero_add, hs.cell j hj0, ← vints_get S n j hj0]; exact hj
  have hn1 := h.n1
  have hn0 := h.n0
  have hnil := fun w => Lib.run_eql_slice_nil (P := Try.prog) w 36 3 (some ⟨rb, 0, none⟩) n m 0 0 Try.underlying36
  go_enter Try.func45, Try.ntmps45
  go_wp2_with (at_builtin; refine wpList_append_own _ rfl _ _ 36 rfl w.heap.size 3 i (.int .i64 0) 1 8 elem36 hi hz0 hz1 hz2 rfl (by decide) _ 0 [] rfl hown ⟨rb, 0, none⟩ n m (vints S n) rfl (by rw [vints_length, Nat.mul_one]) hnews (vints_one S n) ?_ ?_ ?_ ?_; (unfold maxLen; omega); (omega); (simp); intro v' w1 h1 h2 h3)
  go_ret
  obtain ⟨_, ⟨rfl, h4⟩ | ⟨b, c, C, rfl, hb, hh, hl, hm, hsz, ht⟩⟩ := h1
  · omega
  rw [Nat.zero_add] at hl ht
  rw [List.nil_append, Nat.mul_one] at ht
  refine ⟨b, c, by rw [Nat.zero_add]; rfl, hb, hl, hm, ⟨C, hh, by rw [hsz, Nat.mul_one], fun j hj => ?_⟩, ?_⟩
  · rw [← Array.getElem?_toList, ← List.getElem?_take_of_lt hj, ht]; exact vints_get S n j hj
  · refine hB.trans ⟨h2.os, h2.tape, h2.output, h2.size, fun k hk => h2.block k (by simp; omega) ?_⟩
    intro e
    have e : some k = some w.heap.size := e
    injection e with e
    omega
theorem copy_none (v : Value) (w : World) (h : Noone w v) : Calls Try.prog 20 #[v] w fun e w' => e = .returned (.pointer none) ∧ w' = w := by
  have h0 := none_none v w h
  go_enter Try.func20, Try.ntmps20
  go_wp2_with (go_at_call 44; (with_reducible refine h0.mono ?_); rintro e w' ⟨rfl, hw⟩; rw [hw])
  go_ret
  exact ⟨rfl, rfl⟩
theorem copy_any {sb rb n m : Nat} {S : Nat → Nat} (w : World) (h : Sch w sb rb n m S) : Calls Try.prog 20 #[.pointer (some ⟨sb, 0, none⟩)] w fun e w' =>
    ∃ sb' rb' m', e = .returned (.pointer (some ⟨sb', 0, none⟩)) ∧ Sch w' sb' rb' n m' S ∧ w.heap.size ≤ sb' ∧ w.heap.size ≤ rb' ∧ Below w.heap.size w w' := by
  have h0 := none_any w h
  have h1 := clone_any w h
  have c0 : w.cell? ⟨sb, 0, none⟩ = some (.slice (some ⟨rb, 0, none⟩) n m) := h.c.cell 0
  have hbd : ∀ (a c : Nat) w, (Instr.build 38 #[(0, .slice (some ⟨a, 0, none⟩) n c)]).run Try.prog w = .ok (.agg #[.slice (some ⟨a, 0, none⟩) n c]) w := fun a c w => run_build w 38 _ _ (by kernel_rfl)
  go_enter Try.func20, Try.ntmps20
  go_wp2_with (first
    | (go_at_call 44; (with_reducible refine h0.mono ?_); rintro e w' ⟨rfl, hw⟩; rw [hw]; clear hw)
    | (go_at_call 45; (with_reducible refine h1.mono ?_); rintro e w1 ⟨b, c, rfl, hb, hnc, hc, ⟨C, hC, hC1, hC2⟩, hB⟩))
  go_ret
  exact ⟨w1.heap.size, b, c, rfl, ⟨Blk.new _ _ _, ⟨C, hC.alloc _, hC1, hC2⟩, hnc, by have := hC.lt; omega, h.n0, h.n1, hc, h.bd⟩, hB.size, hb, below_new hB _⟩
end Go.Proofs.Ytdnpbemkobhlcaa
