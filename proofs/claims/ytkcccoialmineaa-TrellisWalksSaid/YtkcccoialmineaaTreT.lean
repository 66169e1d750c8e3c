/-
  The trellis, walks over states: what is handed over, the reference's lists, the iterator over a slice, the clone.
-/
import Derived.Test.YtkcccoialmineaaTreS
import Derived.Test.YtkcccoialmineaaRnk
import Derived.Test.YtkcccoialmineaaFit
import Derived.Test.YtkcccoialmineaaTill
import Derived.Test.YtkcccoialmineaaRn2
import Derived.Conc.MuLone
import Derived.Lib.SliceRun
import Derived.OwnWalkIn
import Derived.TacticsInMore
import Derived.LoopNIn
import Derived.LoopIn
set_option linter.unusedSimpArgs false
set_option linter.unusedVariables false
namespace Go.Proofs.Ytkcccoialmineaa
open Go.RowKit
attribute [-go_sem] Instr.build

/-- k is the number of bits ahead of the first element that is none. -/
def vld (l : List UInt8) (k : Nat) : Prop := k ≤ l.length ∧ (∀ i, i < k → (gd l i).toNat < 2) ∧ (k = l.length ∨ 2 ≤ (gd l k).toNat)
/-- The state behind bit i, its parity. -/
def wkAt (l : List UInt8) (i : Nat) : Nat × Nat := (stt 0 (l.take (i + 1)), pr (stt 0 (l.take i)) (gd l i).toNat)
def wkL (l : List UInt8) (k : Nat) : List (Nat × Nat) := (List.range k).map (wkAt l)
theorem wkL_length (l : List UInt8) (k : Nat) : (wkL l k).length = k := by simp [wkL]
theorem wkL_succ (l : List UInt8) (k : Nat) : wkL l (k + 1) = wkL l k ++ [wkAt l k] := by simp [wkL, List.range_succ]
theorem wkL_get (l : List UInt8) (k i : Nat) (h : i < k) : (wkL l k)[i]? = some (wkAt l i) := by simp [wkL, h]
theorem stL_wk (l : List UInt8) (k : Nat) : stL l k = (wkL l k).map (fun x => .int .i64 (x.1 : Nat)) := by simp [stL, wkL, wkAt]
theorem par_wk (l : List UInt8) : ∀ k, k ≤ l.length → (par 0 (l.take k)).map B = (wkL l k).map (fun x => .int .u8 (x.2 : Nat))
  | 0, _ => by simp [wkL, par]
  | k + 1, h => by
    have hp := pr_lt (stt 0 (l.take k)) (gd l k).toNat
    rw [par_take 0 l k (by omega), wkL_succ, List.map_append, List.map_append, par_wk l k (by omega)]
    congr 1
    simp only [List.map_cons, List.map_nil, B, wkAt]
    rw [show (UInt8.ofNat (pr (stt 0 (l.take k)) (gd l k).toNat)).toNat = pr (stt 0 (l.take k)) (gd l k).toNat by simp; omega]

set_option maxHeartbeats 2000000 in
theorem rwalk_all (l : List UInt8) (a : Option Addr) (cap : Nat) (w : World) (hb : Byt w a l) (hlen : l.length ≤ 10000) :
    Calls Try.prog 27 #[.slice a l.length cap] w fun e w' => ∃ v u ok k, e = .returned (.tuple #[v, u, .bool ok]) ∧ Below w.heap.size w w' ∧ vld l k ∧
      w'.ownsRow w.heap.size 3 1 v k (stL l k) ∧ w'.ownsRow w.heap.size 5 1 u (par 0 (l.take k)).length ((par 0 (l.take k)).map B) := by
  obtain ⟨i0, hi, hz0, hz1, hz2⟩ := info_parts info5
  obtain ⟨i3, hi3, hz30, hz31, hz32⟩ := info_parts info3
  go_enter Try.func27, Try.ntmps27
  go_wp2
  go_loopw [5, 6, 7, 8] (fun v u s t wr => ∃ k : Nat, k ≤ l.length ∧ t = .int .i64 k ∧ s = .int .i64 (stt 0 (l.take k) : Nat) ∧ (∀ i, i < k → (gd l i).toNat < 2) ∧ wr.ownsRow w.heap.size 3 1 v k (stL l k) ∧ wr.ownsRow w.heap.size 5 1 u (par 0 (l.take k)).length ((par 0 (l.take k)).map B) ∧ Below w.heap.size w wr) (fun _ _ _ t _ => l.length - (intOf t).toNat)
  case atStart => exact ⟨0, by omega, rfl, rfl, fun i hi => absurd hi (by omega), World.ownsRow_nil _ _ _ _, World.ownsRow_nil _ _ _ _, Below.refl _ _⟩
  case round =>
    obtain ⟨k, hk, rfl, rfl, hp, h1, h2, hB⟩ := hrel
    by_cases hlt : k < l.length
    · obtain ⟨b, o, rfl, hbl, hc⟩ := hb (by omega)
      have c0 := (hB.cell (p := ⟨b, o + k, none⟩) hbl).trans (hc k hlt)
      have hst := stt_lt 0 (by decide) (l.take k)
      have hN := stt_take 0 l k hlt
      have hP := par_take 0 l k hlt
      have hS := stL_succ l k
      have hpl := par_length 0 (l.take k)
      have h9 := lt256 (gd l k)
      obtain ⟨x, hx⟩ : ∃ x, x = (gd l k).toNat := ⟨_, rfl⟩
      rw [← hx] at c0 h9 hN hP
      by_cases hbit : x < 2
      · have hn : ¬ (1 : Int) < (x : Int) := by omega
        rw [hN] at hS
        obtain ⟨s, hs⟩ : ∃ s, s = stt 0 (l.take k) := ⟨_, rfl⟩
        rw [← hs] at hst hN hP hS ⊢
        obtain ⟨m, hm⟩ : ∃ m, m = par 0 (l.take k) := ⟨_, rfl⟩
        rw [← hm] at h2 hP hpl
        have hml : m.length ≤ 10000 := by rw [hpl, List.length_take]; omega
        have hp2 := pr_lt s x
        obtain ⟨p, hpe⟩ : ∃ p, p = pr s x := ⟨_, rfl⟩
        rw [← hpe] at hp2 hP
        have k1 : IntKind.u8.wrap (p : Int) = (p : Int) := wrap_u8 p (by omega)
        have hsz := hB.size
        have HX := Lib.hid hx
        have HN := Lib.hid hN
        have HP := Lib.hid hP
        have HS := Lib.hid hS
        have Hpe := Lib.hid hpe
        clear hx hN hP hS hs hm hpl hpe hc
        go_wp2_with (first
          | (go_at_call 16; (with_reducible refine (rstep_ok s x hst hbit _).mono ?_); rintro e w' ⟨rfl, hw⟩; subst w'; rw [← Hpe.out])
          | (at_builtin; refine wpList_append_own _ rfl (.tmp 35) (.tmp 37) 56 rfl w.heap.size 3 i3 (.int .i64 0) 1 8 Try.underlying56 hi3 hz30 hz31 hz32 rfl (by decide) _ k (stL l k) rfl (h1.alloc _) ⟨wr.heap.size, 0, none⟩ 1 1 [.int .i64 (nx s x : Nat)] rfl rfl ?_ ?_ ?_ ?_ ?_ ?_; (exact one_new _ _ _); (exact one_one _ _); (unfold maxLen; omega); (omega); (exact le_alloc hsz _); intro v5 w5 h5 hg5 _; have ht := own_types h2 h1 (by decide); replace h2 := (h2.alloc (.cells #[.int .i64 (nx s x : Nat)] 3)).kept hg5 ht; replace hB := (hB.alloc hsz _).grown hg5 (le_alloc hsz _) (own_ge h1); rw [← HS.out] at h5; replace hsz := hB.size; clear h1 hg5 ht)
          | (at_builtin; refine wpList_append_own _ rfl (.tmp 39) (.tmp 42) 36 rfl w.heap.size 5 i0 (.int .u8 0) 1 1 Try.underlying36 hi hz0 hz1 hz2 rfl (by decide) _ m.length (m.map B) rfl (h2.alloc _) ⟨w5.heap.size, 0, none⟩ 1 1 [.int .u8 (p : Int)] rfl rfl ?_ ?_ ?_ ?_ ?_ ?_; (exact one_new _ _ _); (exact one_one _ _); (unfold maxLen; omega); (omega); (exact le_alloc hsz _); intro v6 w6 h6 hg6 _; have ht := own_types h5 h2 (by decide); replace h5 := (h5.alloc (.cells #[.int .u8 (p : Int)] 5)).kept hg6 ht; replace hB := (hB.alloc hsz _).grown hg6 (le_alloc hsz _) (own_ge h2); rw [one_byte m p (by omega), ← HP.out] at h6; clear h2 hg6 ht)
          | fail)
        refine ⟨⟨k + 1, by omega, by go_num, by rw [HN.out], fun i hi => ?_, h5, ?_, hB⟩, by simp [intOf]; omega⟩
        · rcases Nat.lt_succ_iff_lt_or_eq.1 hi with h | rfl
          · exact hp i h
          · rw [← HX.out]; exact hbit
        · rw [HP.out] at h6 ⊢; rw [List.length_append]; exact h6
      · have hn : (1 : Int) < (x : Int) := by omega
        have HX := Lib.hid hx
        clear hx
        go_wp2
        go_ret3
        exact ⟨_, _, _, k, rfl, hB, ⟨by omega, hp, .inr (by rw [← HX.out]; omega)⟩, h1, h2⟩
    · obtain rfl : k = l.length := by omega
      go_wp2
      go_ret3
      exact ⟨_, _, _, _, rfl, hB, ⟨Nat.le_refl _, hp, .inl rfl⟩, h1, h2⟩

theorem byt_none {w : World} {l : List UInt8} (h : Byt w none l) : l = [] := by
  cases l with
  | nil => rfl
  | cons x r =>
    obtain ⟨b, o, e, _⟩ := h (by simp)
    cases e
theorem clone_any (l : List UInt8) (a : Option Addr) (cap : Nat) (w : World) (hb : Byt w a l) (h0 : a = none → cap = 0) (hl : l.length ≤ 1000000) :
    Calls Try.prog 41 #[.slice a l.length cap] w fun e w' => ∃ v, e = .returned v ∧ w'.ownsRow w.heap.size 5 1 v l.length (l.map B) ∧ Below w.heap.size w w' := by
  obtain ⟨i0, hi, hz0, hz1, hz2⟩ := info_parts info5
  cases a with
  | none =>
    obtain rfl := byt_none hb
    obtain rfl := h0 rfl
    have hnil := fun w => Lib.run_eql_slice_nil (P := Try.prog) w 36 5 none 0 0 0 0 Try.underlying36
    clear hb h0
    go_enter Try.func41, Try.ntmps41
    go_wp2
    go_ret
    exact ⟨_, rfl, World.ownsRow_nil _ _ _ _, Below.refl _ _⟩
  | some ad =>
    have hb' := hb.cells (show Below w.heap.size w (w.alloc (.cells #[] 5)) from (Below.refl _ _).alloc (Nat.le_refl _) _)
    have HB := Lib.hid hb'
    have hnil := fun w => Lib.run_eql_slice_nil (P := Try.prog) w 36 5 (some ad) l.length cap 0 0 Try.underlying36
    clear hb hb' h0
    go_enter Try.func41, Try.ntmps41
    go_wp2_with (at_builtin; refine wpList_append_bytes rfl _ _ 36 rfl w.heap.size 5 i0 Try.underlying36 hi hz0 hz1 hz2 _ [] rfl (own_empty w w.heap.size (Nat.le_refl _)) (some ad) l cap rfl (fun h => nomatch h) HB.out ?_ ?_ ?_; (simp; omega); (simp); intro v' w1 hown hg)
    go_ret
    refine ⟨v', rfl, by simpa using hown, ((Below.refl _ _).alloc (Nat.le_refl _) _).grown hg (by simp) (fun k hk => ?_)⟩
    cases hk
    exact Nat.le_refl _

theorem own_parts {w : World} {base : Nat} {v : Value} {l : List UInt8} (h : w.ownsRow base 5 1 v l.length (l.map B)) : ∃ a cap, v = .slice a l.length cap ∧ Byt w a l ∧ (a = none → cap = 0) ∧ ∀ b o, a = some ⟨b, o, none⟩ → base ≤ b ∧ b < w.heap.size := by
  obtain ⟨a, cap, e, _, _, h3, h4⟩ := bsl_own h
  refine ⟨a, cap, e, h4, h3, fun b o ea => ?_⟩
  subst ea e
  exact h.lt b rfl
/-- The iterator over the states of a copy. -/
theorem walkf_any (l : List UInt8) (a : Option Addr) (cap : Nat) (w : World) (hb : Byt w a l) (h0 : a = none → cap = 0) (hl : l.length ≤ 1000000) :
    Calls Try.prog 28 #[.slice a l.length cap] w fun e w' => ∃ k1 a' cap', e = .returned (.func (.func 42) #[] #[.pointer (some ⟨k1, 0, none⟩)]) ∧ Blk w' k1 #[.slice a' l.length cap'] 36 ∧ Byt w' a' l ∧ (∀ b o, a' = some ⟨b, o, none⟩ → w.heap.size ≤ b ∧ b < w'.heap.size) ∧ w.heap.size ≤ k1 ∧ Below w.heap.size w w' := by
  have hc := clone_any l a cap w hb h0 hl
  go_enter Try.func28, Try.ntmps28
  go_wp2_with (first
    | (go_at_call 41; (with_reducible refine hc.mono ?_); rintro e w1 ⟨v, rfl, ho, hB⟩; obtain ⟨a', cap', rfl, hy, _, hg⟩ := own_parts ho; clear ho)
    | fail)
  go_ret
  have hB2 : Below w1.heap.size w1 (w1.alloc (.cells #[.slice a' l.length cap'] 36)) := (Below.refl _ _).alloc (Nat.le_refl _) _
  refine ⟨w1.heap.size, a', cap', rfl, Blk.new' rfl, hy.cells hB2, fun b o e => ?_, hB.size, bnext hB hB2⟩
  obtain ⟨h1, h2⟩ := hg b o e
  exact ⟨h1, Nat.lt_of_lt_of_le h2 hB2.size⟩
/-- The first k pairs of an index and a byte. -/
def upA (l : List UInt8) (k : Nat) : List (Nat × UInt8) := (List.range k).map fun j => (j, gd l j)
theorem upA_succ (l : List UInt8) (k : Nat) : upA l (k + 1) = upA l k ++ [(k, gd l k)] := by simp [upA, List.range_succ]
theorem upA_length (l : List UInt8) (k : Nat) : (upA l k).length = k := by simp [upA]
def rowK (k1 : Nat) (a : Option Addr) (k : Nat) : Prop := k = k1 ∨ ∃ o, a = some ⟨k, o, none⟩
theorem byt_keeps {B : Nat} {K : Nat → Prop} {W W' : World} {a : Option Addr} {l : List UInt8} (h : Byt W a l) (k : Keeps B K W W') (hK : ∀ b o, a = some ⟨b, o, none⟩ → B ≤ b ∨ K b) : Byt W' a l := by
  intro h0
  obtain ⟨b, o, e, hlt, hc⟩ := h h0
  exact ⟨b, o, e, Nat.lt_of_lt_of_le hlt k.size, fun i hi => cell_keeps (p := ⟨b, o + i, none⟩) (hc i hi) k hlt (hK b o e)⟩

section
attribute [local go_sem] Oper.semAt_some
set_option maxRecDepth 100000 in
set_option maxHeartbeats 4000000 in
theorem allk_seq (F : Fence) (n : Nat) (hF : F.fn 45) (hro : F.round = none) (hn : 1 ≤ n) (l : List UInt8) (a : Option Addr) (cap k1 : Nat) (w : World) (hlen : l.length ≤ 100000) (hk1 : Blk w k1 #[.slice a l.length cap] 36) (hb : Byt w a l) :
    SeqK F n Try.prog 45 #[.pointer (some ⟨k1, 0, none⟩)] (fun x : Nat × UInt8 => #[.int .i64 x.1, .int .u8 x.2.toNat])
      (rowK k1 a) (fun pre x => pre.length < l.length ∧ x = (pre.length, gd l pre.length)) (fun xs => xs = upA l l.length) w := fun lp J Jx W hW hJ hY h0 => by
  have d1 := hk1.below hW hk1.lt
  have db := hb.cells hW
  have f1 := d1.cell 0
  simp only [List.getElem?_toArray, List.getElem?_cons_zero] at f1
  have hY' := Lib.hid hY
  clear hJ hY hb hk1 hW
  have hKw : KeepsP (rowK k1 a) W W := KeepsP.refl _ _
  refine callsIn_of_wp Try.func45 rfl hF ?_ hro
  simp only [Try.ntmps45, List.size_toArray, List.length_cons, List.length_nil, Nat.reduceAdd, Nat.reduceSub, Array.replicate_succ, Array.replicate_zero, List.push_toArray, List.append_toArray, List.nil_append, List.cons_append]
  gi_wp2
  gi_loopw [7] (fun t7 wr => ∃ k : Nat, k ≤ l.length ∧ t7 = .int .i64 k ∧ J (upA l k) wr ∧ KeepsP (rowK k1 a) W wr) (fun t _ => l.length - (intOf t).toNat)
  case atStart => exact ⟨0, by omega, rfl, h0, hKw⟩
  case round =>
    clear h0 hKw
    obtain ⟨k, hk, rfl, h0, hKw⟩ := hrel
    by_cases hlt : k < l.length
    · obtain ⟨b, o, rfl, hbl, hc⟩ := db (by omega)
      have hx : wr.cell? ⟨b, o + k, none⟩ = some (.int .u8 (gd l k).toNat) := cell_keepsP (p := ⟨b, o + k, none⟩) (hc k hlt) hKw hbl (.inr ⟨o, rfl⟩)
      obtain ⟨fn, tmps, assign, body, hy, hR⟩ := hY'.out _ (k, gd l k) wr h0 (by rw [upA_length]; exact ⟨hlt, rfl⟩)
      dsimp only at hy
      gi_wp2
      refine hR.mono ?_
      rintro e W3 (⟨rfl, hJ3, hk3⟩ | ⟨rfl, hJx3, _⟩)
      · gi_wp2
        go_roundw
        case rel => exact ⟨k + 1, by omega, by simp, by rw [upA_succ]; exact hJ3, hKw.trans hk3⟩
        case measure => simp [intOf]; omega
      · gi_wp2
        refine bodyPost_ret (results_none rfl _ _ _) rfl ?_
        exact ⟨⟨_, rfl⟩, .inr ⟨_, hJx3⟩⟩
    · obtain rfl : k = l.length := by omega
      gi_wp2
      go_end0
      exact ⟨⟨_, rfl⟩, .inl ⟨_, rfl, h0⟩⟩
theorem all_any (a : Option Addr) (n cap : Nat) (w : World) :
    Calls Try.prog 43 #[.slice a n cap] w fun e w' => ∃ B, B = w.heap.size ∧ e = .returned (.func (.func 45) #[] #[.pointer (some ⟨B, 0, none⟩)]) ∧ Blk w' B #[.slice a n cap] 36 ∧ Below w.heap.size w w' ∧ w'.heap.size = w.heap.size + 1 := by
  go_enter Try.func43, Try.ntmps43
  go_wp2
  go_ret
  exact ⟨_, rfl, rfl, Blk.new' rfl, (Below.refl _ _).alloc (Nat.le_refl _) _, by simp⟩
theorem cf45 (args : Array Value) (w : World) : (callFunc 45 args).run Try.prog w = .ok (.enter 45 args) w := Go.MuLone.run_callFunc_enter (f := 45) Try.func45 rfl rfl args w
end
end Go.Proofs.Ytkcccoialmineaa
