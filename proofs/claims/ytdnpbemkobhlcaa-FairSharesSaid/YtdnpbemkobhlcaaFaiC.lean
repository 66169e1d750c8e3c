/-
  The scheduler, walks: least and greatest of a row; metrics; the users with a rate.
-/
import Derived.Test.YtdnpbemkobhlcaaFaiB
import Derived.Test.YtdnpbemkobhlcaaRnk
import Derived.OwnWalkIn
import Derived.TacticsInMore
import Derived.LoopNIn
import Derived.LoopIn
set_option linter.unusedSimpArgs false
set_option linter.unusedVariables false
namespace Go.Proofs.Ytdnpbemkobhlcaa
open Go.RowKit
attribute [-go_sem] Instr.build
attribute [local go_sem] Oper.semAt_some

def minI (xs : List Int) : Nat → Int
  | 0 => xs.getD 0 0
  | i + 1 => min (minI xs i) (xs.getD (i + 1) 0)
def maxI (xs : List Int) : Nat → Int
  | 0 => xs.getD 0 0
  | i + 1 => max (maxI xs i) (xs.getD (i + 1) 0)
theorem minI_le (xs : List Int) : ∀ k i, i ≤ k → minI xs k ≤ xs.getD i 0
  | 0, i, h => by obtain rfl : i = 0 := by omega
                  exact Int.le_refl _
  | k + 1, i, h => by
    unfold minI
    by_cases e : i = k + 1
    · subst e; omega
    · have := minI_le xs k i (by omega)
      omega
theorem maxI_ge (xs : List Int) : ∀ k i, i ≤ k → xs.getD i 0 ≤ maxI xs k
  | 0, i, h => by obtain rfl : i = 0 := by omega
                  exact Int.le_refl _
  | k + 1, i, h => by
    unfold maxI
    by_cases e : i = k + 1
    · subst e; omega
    · have := maxI_ge xs k i (by omega)
      omega
theorem minI_at (xs : List Int) : ∀ k, ∃ i, i ≤ k ∧ minI xs k = xs.getD i 0
  | 0 => ⟨0, Nat.le_refl _, rfl⟩
  | k + 1 => by
    obtain ⟨i, hi, e⟩ := minI_at xs k
    unfold minI
    by_cases h : minI xs k ≤ xs.getD (k + 1) 0
    · exact ⟨i, by omega, by omega⟩
    · exact ⟨k + 1, Nat.le_refl _, by omega⟩
theorem maxI_at (xs : List Int) : ∀ k, ∃ i, i ≤ k ∧ maxI xs k = xs.getD i 0
  | 0 => ⟨0, Nat.le_refl _, rfl⟩
  | k + 1 => by
    obtain ⟨i, hi, e⟩ := maxI_at xs k
    unfold maxI
    by_cases h : xs.getD (k + 1) 0 ≤ maxI xs k
    · exact ⟨i, by omega, by omega⟩
    · exact ⟨k + 1, Nat.le_refl _, by omega⟩
set_option maxHeartbeats 1000000 in
theorem min_any (xs : List Int) (a : Option Addr) (cap : Nat) (w : World) (hF : Ints w a xs) (h0 : 0 < xs.length) (h1 : xs.length ≤ 100000) (n : Nat) (hn : n = xs.length) :
    Calls Try.prog 46 #[.slice a n cap] w fun e w' => e = .returned (.int .i64 (minI xs (n - 1))) ∧ w' = w := by
  obtain ⟨b, o, rfl, hb, hc⟩ := hF h0
  rw [← hn] at h0 h1 hc
  have c0 := hc 0 h0
  rw [Nat.add_zero] at c0
  replace hc := Lib.hid hc
  have e0 : minI xs 0 = xs.getD 0 0 := rfl
  replace e0 := Lib.hid e0
  clear hF hn
  rw [← e0.out] at c0
  have hnn : ¬ ((n : Int) < 1) := by omega
  have hnx : ∀ k, minI xs (k + 1) = min (minI xs k) (xs.getD (k + 1) 0) := fun k => rfl
  replace hnx := Lib.hid hnx
  go_enter Try.func46, Try.ntmps46
  generalize hm0 : minI xs 0 = m0 at *
  go_wp2
  go_loopw [3, 4] (fun u v wr => ∃ k : Nat, 1 ≤ k ∧ k ≤ n ∧ u = .int .i64 (minI xs (k - 1)) ∧ v = .int .i64 k ∧ wr = w) (fun _ v _ => n - (intOf v).toNat)
  case atStart => exact ⟨1, by omega, by omega, by rw [← hm0], rfl, rfl⟩
  case round =>
    obtain ⟨k, hk1, hkn, rfl, rfl, rfl⟩ := hrel
    by_cases hlt : k < n
    · have ck := hc.out k hlt
      have hx := hnx.out (k - 1)
      rw [Nat.sub_add_cancel hk1] at hx
      generalize minI xs (k - 1) = m at *
      generalize xs.getD k 0 = x at *
      clear hm0 c0
      by_cases hle : m ≤ x
      · have hy := Lib.hid (show minI xs k = m by rw [hx]; omega)
        clear hx
        go_wp2
        exact ⟨⟨k + 1, by omega, by omega, by rw [Nat.add_sub_cancel, hy.out], by go_num, trivial⟩, by simp [intOf]; omega⟩
      · have hle2 : x < m := by omega
        have hy := Lib.hid (show minI xs k = x by rw [hx]; omega)
        clear hx
        go_wp2
        exact ⟨⟨k + 1, by omega, by omega, by rw [Nat.add_sub_cancel, hy.out], by go_num, trivial⟩, by simp [intOf]; omega⟩
    · obtain rfl : k = n := by omega
      go_wp2
      go_ret
      exact ⟨rfl, rfl⟩
set_option maxHeartbeats 1000000 in
theorem max_any (xs : List Int) (a : Option Addr) (cap : Nat) (w : World) (hF : Ints w a xs) (h0 : 0 < xs.length) (h1 : xs.length ≤ 100000) (n : Nat) (hn : n = xs.length) :
    Calls Try.prog 47 #[.slice a n cap] w fun e w' => e = .returned (.int .i64 (maxI xs (n - 1))) ∧ w' = w := by
  obtain ⟨b, o, rfl, hb, hc⟩ := hF h0
  rw [← hn] at h0 h1 hc
  have c0 := hc 0 h0
  rw [Nat.add_zero] at c0
  replace hc := Lib.hid hc
  have e0 : maxI xs 0 = xs.getD 0 0 := rfl
  replace e0 := Lib.hid e0
  clear hF hn
  rw [← e0.out] at c0
  have hnn : ¬ ((n : Int) < 1) := by omega
  have hnx : ∀ k, maxI xs (k + 1) = max (maxI xs k) (xs.getD (k + 1) 0) := fun k => rfl
  replace hnx := Lib.hid hnx
  go_enter Try.func47, Try.ntmps47
  generalize hm0 : maxI xs 0 = m0 at *
  go_wp2
  go_loopw [3, 4] (fun u v wr => ∃ k : Nat, 1 ≤ k ∧ k ≤ n ∧ u = .int .i64 (maxI xs (k - 1)) ∧ v = .int .i64 k ∧ wr = w) (fun _ v _ => n - (intOf v).toNat)
  case atStart => exact ⟨1, by omega, by omega, by rw [← hm0], rfl, rfl⟩
  case round =>
    obtain ⟨k, hk1, hkn, rfl, rfl, rfl⟩ := hrel
    by_cases hlt : k < n
    · have ck := hc.out k hlt
      have hx := hnx.out (k - 1)
      rw [Nat.sub_add_cancel hk1] at hx
      generalize maxI xs (k - 1) = m at *
      generalize xs.getD k 0 = x at *
      clear hm0 c0
      by_cases hle : x ≤ m
      · have hy := Lib.hid (show maxI xs k = m by rw [hx]; omega)
        clear hx
        go_wp2
        exact ⟨⟨k + 1, by omega, by omega, by rw [Nat.add_sub_cancel, hy.out], by go_num, trivial⟩, by simp [intOf]; omega⟩
      · have hle2 : m < x := by omega
        have hy := Lib.hid (show maxI xs k = x by rw [hx]; omega)
        clear hx
        go_wp2
        exact ⟨⟨k + 1, by omega, by omega, by rw [Nat.add_sub_cancel, hy.out], by go_num, trivial⟩, by simp [intOf]; omega⟩
    · obtain rfl : k = n := by omega
      go_wp2
      go_ret
      exact ⟨rfl, rfl⟩
/-- The metric of user u with rate r. -/
theorem metric_any (rb n m : Nat) (u r x : Nat) (w : World) (hc : w.cell? ⟨rb, u, none⟩ = some (.int .i64 x)) (hu : u < n) (hr : r ≤ 4294967296) (hx : x ≤ 2305843009213693952) :
    Calls Try.prog 49 #[.slice (some ⟨rb, 0, none⟩) n m, .int .i64 u, .int .i64 r] w fun e w' => e = .returned (.agg #[.int .u64 r, .int .u64 x]) ∧ Below w.heap.size w w' := by
  have z1 : ∀ w, (zeroValue 56).run Try.prog w = .ok (.agg #[.int .u64 0, .int .u64 0]) w := (zero_of_info zero56).1
  have hbd : ∀ (a b : Nat) w, (Instr.build 56 #[(0, .int .u64 a), (1, .int .u64 b)]).run Try.prog w = .ok (.agg #[.int .u64 a, .int .u64 b]) w := fun a b w => run_build w 56 _ _ (by kernel_rfl)
  have hl : rb < w.heap.size := cell_lt hc
  have c1 : (w.alloc (.cells #[.int .u64 0, .int .u64 0] 56)).cell? ⟨rb, u, none⟩ = some (.int .i64 x) := (((Below.refl w.heap.size w).alloc (Nat.le_refl _) (.cells #[.int .u64 0, .int .u64 0] 56)).cell (p := ⟨rb, u, none⟩) hl).trans hc
  have i1 : IntKind.u64.wrap (r : Int) = r := IntWalk.u64_in _ (by omega)
  have i2 : IntKind.u64.wrap (x : Int) = x := IntWalk.u64_in _ (by omega)
  have hB := below_new (Below.refl w.heap.size w) (.cells #[.int .u64 0, .int .u64 0] 56)
  clear hr hx
  go_enter Try.func49, Try.ntmps49
  go_wp2
  refine bodyPost_ret (results_blk rfl _ _ _ #[.int .u64 r, .int .u64 x] 56 2 rfl (Blk.new _ _ _) row56 rfl) rfl ?_
  exact ⟨rfl, below_new (Below.refl w.heap.size w) _⟩
/-- The users with a rate above 0 among the first i, with their metrics. -/
def actU (r S : Nat → Nat) : Nat → List (Nat × (Nat × Nat))
  | 0 => []
  | i + 1 => if 0 < r i then actU r S i ++ [(i, (r i, S i))] else actU r S i
def actK (k1 k2 kr rb : Nat) (k : Nat) : Prop := k = k1 ∨ k = k2 ∨ k = kr ∨ k = rb
def encA (x : Nat × (Nat × Nat)) : Array Value := #[.int .i64 x.1, .agg #[.int .u64 x.2.1, .int .u64 x.2.2]]
/-- What comes next. -/
def actR (r S : Nat → Nat) (n : Nat) (pre : List (Nat × (Nat × Nat))) (x : Nat × (Nat × Nat)) : Prop := ∃ i, i < n ∧ pre = actU r S i ∧ x = (i, (r i, S i)) ∧ 0 < r i
theorem active_any (v : Value) (a : Option Addr) (n cap rb q m : Nat) (w : World) : Calls Try.prog 48 #[v, .slice a n cap, .func (.func 49) #[.slice (some ⟨rb, 0, none⟩) q m] #[]] w fun e w' => e = .returned (.func (.func 62) #[] #[.pointer (some ⟨w.heap.size, 0, none⟩), .pointer (some ⟨w.heap.size + 1, 0, none⟩)]) ∧ w' = (w.alloc (.cells #[.slice a n cap] 28)).alloc (.cells #[.func (.func 49) #[.slice (some ⟨rb, 0, none⟩) q m] #[]] 85) := by
  go_enter Try.func48, Try.ntmps48
  go_wp2
  go_ret
  exact ⟨rfl, rfl⟩
/-- What the iterator reads: its boxes, the rates, the services. -/
structure ActW (w : World) (k1 k2 kr o rb n cap m : Nat) (r S : Nat → Nat) : Prop where
  b1 : Blk w k1 #[.slice (some ⟨kr, o, none⟩) n cap] 28
  b2 : Blk w k2 #[.func (.func 49) #[.slice (some ⟨rb, 0, none⟩) n m] #[]] 85
  lr : kr < w.heap.size
  ls : rb < w.heap.size
  cr : ∀ i, i < n → w.cell? ⟨kr, o + i, none⟩ = some (.int .i64 (r i : Nat))
  cs : ∀ i, i < n → w.cell? ⟨rb, i, none⟩ = some (.int .i64 (S i : Nat))
theorem ActW.below {w w' : World} {k1 k2 kr o rb n cap m : Nat} {r S : Nat → Nat} (h : ActW w k1 k2 kr o rb n cap m r S) (hb : Below w.heap.size w w') : ActW w' k1 k2 kr o rb n cap m r S :=
  ⟨h.b1.below hb h.b1.lt, h.b2.below hb h.b2.lt, Nat.lt_of_lt_of_le h.lr hb.size, Nat.lt_of_lt_of_le h.ls hb.size, fun i hi => (hb.cell h.lr).trans (h.cr i hi), fun i hi => (hb.cell h.ls).trans (h.cs i hi)⟩
theorem ActW.keeps {w w' : World} {k1 k2 kr o rb n cap m : Nat} {r S : Nat → Nat} (h : ActW w k1 k2 kr o rb n cap m r S) (hb : KeepsP (actK k1 k2 kr rb) w w') : ActW w' k1 k2 kr o rb n cap m r S :=
  ⟨h.b1.keepsP hb (.inl rfl), h.b2.keepsP hb (.inr (.inl rfl)), Nat.lt_of_lt_of_le h.lr hb.size, Nat.lt_of_lt_of_le h.ls hb.size, fun i hi => cell_keepsP (h.cr i hi) hb h.lr (.inr (.inr (.inl rfl))), fun i hi => cell_keepsP (h.cs i hi) hb h.ls (.inr (.inr (.inr rfl)))⟩
set_option maxRecDepth 100000 in
set_option maxHeartbeats 4000000 in
theorem active_seq (N : Nat) (r S : Nat → Nat) (k1 k2 kr o rb n cap m : Nat) (w : World) (hA : ActW w k1 k2 kr o rb n cap m r S) (hn : n ≤ 32) (hr : ∀ i, i < n → r i ≤ 4294967296) (hS : ∀ i, i < n → S i ≤ 2305843009213693952) :
    SeqK Fence.wide N Try.prog 62 #[.pointer (some ⟨k1, 0, none⟩), .pointer (some ⟨k2, 0, none⟩)] encA (actK k1 k2 kr rb) (actR r S n) (fun l => l = actU r S n) w := fun l J Jx W hW hJ hY h0 => by
  refine callsIn_wide.2 ?_
  have hA1 := hA.below hW
  have hJ' := Lib.hid hJ
  have hY' := Lib.hid hY
  have hr' := Lib.hid hr
  have hS' := Lib.hid hS
  clear hY hA hW hJ hr hS
  have hKw : KeepsP (actK k1 k2 kr rb) W W := KeepsP.refl _ _
  have hnx : ∀ i, actU r S (i + 1) = if 0 < r i then actU r S i ++ [(i, (r i, S i))] else actU r S i := fun i => rfl
  replace hnx := Lib.hid hnx
  have f1 : W.cell? ⟨k1, 0, none⟩ = some (.slice (some ⟨kr, o, none⟩) n cap) := hA1.b1.cell 0
  go_enter Try.func62, Try.ntmps62
  go_wp2
  refine (wpIn_wide (n := N)).1 ?_
  gi_loopw [8] (fun t wr => ∃ i : Nat, i ≤ n ∧ t = .int .i64 i ∧ J (actU r S i) wr ∧ KeepsP (actK k1 k2 kr rb) W wr) (fun t _ => n - (intOf t).toNat)
  case atStart => exact ⟨0, by omega, rfl, h0, hKw⟩
  case round =>
    clear h0 hKw
    obtain ⟨i, hin, rfl, h0, hKw⟩ := hrel
    by_cases hlt : i < n
    · have hA2 := hA1.keeps hKw
      have c1 := hA2.cr i hlt
      have c2 := hA2.cs i hlt
      have g2 : wr.cell? ⟨k2, 0, none⟩ = some (.func (.func 49) #[.slice (some ⟨rb, 0, none⟩) n m] #[]) := hA2.b2.cell 0
      have hx := hnx.out i
      have hri := hr'.out i hlt
      have hsi := hS'.out i hlt
      have hRR : 0 < r i → actR r S n (actU r S i) (i, (r i, S i)) := fun h => ⟨i, hlt, rfl, rfl, h⟩
      generalize r i = ri at *
      generalize S i = si at *
      have hmet := fun (W' : World) (h : W'.cell? ⟨rb, i, none⟩ = some (.int .i64 si)) => metric_any rb n m i ri si W' h hlt hri hsi
      replace hx := Lib.hid hx
      replace hRR := Lib.hid hRR
      clear hri hsi
      by_cases hpos : 0 < ri
      · have hx := Lib.hid (show actU r S (i + 1) = actU r S i ++ [(i, (ri, si))] by rw [hx.out, if_pos hpos])
        gi_wp2_with (refine ⟨trivial, fun h => (by cases h), callsIn_wide.2 ((hmet _ c2).mono ?_)⟩; rintro e w2 ⟨rfl, hb2⟩; obtain ⟨fn, tmps, assign, body, hy, hR⟩ := hY'.out _ (i, (ri, si)) w2 (hJ'.out _ _ _ h0 hb2) (hRR.out hpos); unfold encA at hy)
        refine ⟨by simp [Fence.wide], hR.mono ?_⟩
        rintro e W3 (⟨rfl, hJ3, hk3⟩ | ⟨rfl, hJx3, _⟩)
        · gi_wp2
          go_roundw
          case rel => exact ⟨i + 1, by omega, by go_num, by rw [hx.out]; exact hJ3, (hKw.trans (KeepsP.below hb2 _)).trans hk3⟩
          case measure => simp [intOf]; omega
        · gi_wp2
          refine bodyPost_ret (results_none rfl _ _ _) rfl ?_
          exact ⟨⟨_, rfl⟩, .inr ⟨_, hJx3⟩⟩
      · have hx := Lib.hid (show actU r S (i + 1) = actU r S i by rw [hx.out, if_neg hpos])
        have hp0 : ¬ (0 < (ri : Int)) := by omega
        gi_wp2_with (refine ⟨(fun f h => nomatch h), ?_⟩; go_at_K)
        go_roundw
        case rel => exact ⟨i + 1, by omega, by go_num, by rw [hx.out]; exact h0, hKw⟩
        case measure => simp [intOf]; omega
    · obtain rfl : i = n := by omega
      gi_wp2
      go_wp2
      go_end0
      exact ⟨⟨_, rfl⟩, .inl ⟨_, rfl, h0⟩⟩
end Go.Proofs.Ytdnpbemkobhlcaa
