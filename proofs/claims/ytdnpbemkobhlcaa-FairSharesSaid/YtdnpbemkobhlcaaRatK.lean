/-
  Fractions, walks: the order of fractions.
-/
import Derived.Test.YtdnpbemkobhlcaaRatJ
import Derived.Deep.OwnRows
namespace Go.Proofs.Ytdnpbemkobhlcaa
open Go.RowKit
attribute [-go_sem] Instr.build

theorem row62 : (Try.prog.info? 62).map (·.size) = some 1 := by kernel_rfl
theorem elem28 : Try.prog.underlying 28 = some (.slice 3) := by kernel_rfl
theorem info3 : (Try.prog.info? 3).map (fun i => (i.zero, i.size, i.bytes)) = some (some (.int .i64 0), 1, 8) := by kernel_rfl
theorem made_row (n : Nat) : madeCells #[Value.int .i64 0] n = rowV (fun _ => 0) n := by
  apply Array.toList_inj.1
  rw [toList_madeCells_one]
  simp [rowV, List.map_const']
theorem mk_row (n : Nat) (hn : n ≤ 100000) (w : World) : (Instr.makeSlice 28 (.int .i64 (n : Int)) (.int .i64 (n : Int))).run Try.prog w = .ok (.slice (some ⟨w.heap.size, 0, none⟩) n n) (w.alloc (.cells (rowV (fun _ => 0) n) 3)) := by
  rw [run_make_row' 28 3 (.int .i64 0) 8 elem28 info3 rfl .i64 .i64 n (by omega) (by omega) w, made_row]
theorem Frc.but {w w' : World} {a : Option Addr} {l : List (Nat × Nat)} {r base : Nat} (h : Frc w a l) (k : But r base w w') (hr : ∀ b o, a = some ⟨b, o, none⟩ → b < base ∧ b ≠ r) : Frc w' a l := by
  intro h0
  obtain ⟨b, o, e, hlt, hc⟩ := h h0
  have hbr := hr b o e
  have hs := k.size
  have hq := k.block b hbr.1 hbr.2
  exact ⟨b, o, e, by omega, fun i hi => by
    have := hc i hi
    simp only [World.cell?, hq] at this ⊢
    exact this⟩
set_option maxHeartbeats 1000000 in
theorem closure_any (l : List (Nat × Nat)) (h64 : G64 l) (a : Option Addr) (cap bx t : Nat) (w : World) (hbx : Blk w bx #[.slice a l.length cap] t) (hb : Frc w a l) (hlen : l.length ≤ 1000) (i k : Nat) (hi : i < l.length) (hk : k < l.length) :
    Calls Try.prog 60 #[.int .i64 i, .int .i64 k, .pointer (some ⟨bx, 0, none⟩)] w fun e w' => e = .returned (.int .i64 (cmpF (gf l k) (gf l i))) ∧ Below w.heap.size w w' := by
  obtain ⟨b, o, rfl, hbl, hc⟩ := hb (by omega)
  have hcm := compare_any (gf l k) (gf l i) (h64.all _) (h64.all _)
  have c0 := (hc k hk).1
  have c1 := (hc k hk).2
  have d0 := (hc i hi).1
  have d1 := (hc i hi).2
  have s0 := hbx.cell 0
  simp only [List.getElem?_toArray, List.getElem?_cons_zero] at s0
  generalize gf l k = p at *
  generalize gf l i = q at *
  generalize cmpF p q = z at *
  unfold fV at hcm
  clear hc
  go_enter Try.func60, Try.ntmps60
  go_wp2
  go_region_with (go_at_call 54; (with_reducible refine (hcm _).mono ?_); rintro e w1 ⟨rfl, hw⟩)
  all_goals go_wp2
  all_goals go_ret
  all_goals exact ⟨rfl, bnext (Below.refl _ _).drew hw⟩

def upTo (k : Nat) : Nat → Nat := fun i => if i < k then i else 0
theorem upTo_zero : upTo 0 = fun _ => 0 := by funext i; unfold upTo; rw [if_neg (by omega)]
theorem upTo_next (k : Nat) : upd (upTo k) k k = upTo (k + 1) := by
  funext i; unfold upd upTo
  repeat' split
  all_goals omega
theorem upTo_end (n : Nat) : rowV (upTo n) n = rowV (fun i => i) n := rowV_congr _ _ _ fun i hi => by unfold upTo; rw [if_pos hi]
/-- What Order hands back for good fractions. -/
def Ordered (l : List (Nat × Nat)) (base : Nat) (e : Ending) (w : World) : Prop :=
  ∃ b g, e = .returned (.tuple #[.slice (some ⟨b, 0, none⟩) l.length l.length, .int .i64 0]) ∧ base ≤ b ∧ Blk w b (rowV g l.length) 3 ∧ Same (fun i => i) g 0 l.length ∧ Srt (ltF (gf l)) g 0 l.length
theorem order_bad (l : List (Nat × Nat)) (hbad : anyBad l = true) (a : Option Addr) (cap : Nat) (w : World) (hb : Frc w a l) (hlen : l.length ≤ 1000) :
    Calls Try.prog 36 #[.slice a l.length cap] w fun e w' => e = .returned (.tuple #[.slice none 0 0, .int .i64 2]) ∧ Below w.heap.size w w' := by
  have hB : Below w.heap.size w (w.alloc (.cells #[.slice a l.length cap] 62)) := (Below.refl _ _).alloc (Nat.le_refl _) _
  have h1 := contains_any l a cap _ (hb.below hB) hlen
  rw [hbad] at h1
  go_enter Try.func36, Try.ntmps36
  go_wp2_with (go_at_call 56; (with_reducible refine h1.mono ?_); rintro e w1 ⟨rfl, hw⟩)
  go_ret2
  exact ⟨rfl, bnext hB hw⟩
set_option maxRecDepth 100000 in
set_option maxHeartbeats 4000000 in
theorem order_ok (l : List (Nat × Nat)) (h64 : G64 l) (hgood : anyBad l = false) (a : Option Addr) (cap : Nat) (w : World) (hb : Frc w a l) (hlen : l.length ≤ 1000) :
    Calls Try.prog 36 #[.slice a l.length cap] w fun e w' => Ordered l w.heap.size e w' ∧ Below w.heap.size w w' := by
  obtain ⟨n, hn⟩ : ∃ n, n = l.length := ⟨_, rfl⟩
  have hB : Below w.heap.size w (w.alloc (.cells #[.slice a l.length cap] 62)) := (Below.refl _ _).alloc (Nat.le_refl _) _
  have k0 : Blk (w.alloc (.cells #[.slice a l.length cap] 62)) w.heap.size #[.slice a l.length cap] 62 := Blk.new' rfl
  have h1 := contains_any l a cap _ (hb.below hB) hlen
  have hab : ∀ b o, a = some ⟨b, o, none⟩ → 0 < l.length → b < w.heap.size := fun b o e hl => by
    obtain ⟨b', o', e', hlt, _⟩ := hb hl
    rw [e] at e'
    simp only [Option.some.injEq, Addr.mk.injEq] at e'
    omega
  have hclo := fun (W : World) => closure_any l h64 a cap w.heap.size 62 W
  replace hab := Lib.hid hab
  replace hclo := Lib.hid hclo
  unfold Ordered
  rw [hgood] at h1
  rw [← hn] at hlen h1 hB k0 ⊢
  have hmk := mk_row n (by omega)
  replace hb := Lib.hid hb
  replace hn := Lib.hid hn
  go_enter Try.func36, Try.ntmps36
  go_wp2_with (go_at_call 56; (with_reducible refine h1.mono ?_); rintro e w1 ⟨rfl, hw⟩; have k1 := k0.below hw (by simp); have s1 : w1.cell? ⟨w.heap.size, 0, none⟩ = some (.slice a n cap) := k1.cell 0)
  have hB1 := bnext hB hw
  generalize hr : w1.heap.size = r at *
  have l1 : w.heap.size < r := by rw [← hr]; exact k1.lt
  have hB2 : Below w.heap.size w (w1.alloc (.cells (rowV (fun _ => 0) n) 3)) := hB1.alloc hB1.size _
  have k2 := k1.alloc (.cells (rowV (fun _ => 0) n) 3)
  have q2 : Blk (w1.alloc (.cells (rowV (fun _ => 0) n) 3)) r (rowV (fun _ => 0) n) 3 := by rw [← hr]; exact Blk.new' rfl
  rw [← upTo_zero] at q2
  go_loopw [13] (fun t wr => ∃ k : Nat, k ≤ n ∧ t = .int .i64 k ∧ Blk wr w.heap.size #[.slice a n cap] 62 ∧ Blk wr r (rowV (upTo k) n) 3 ∧ Below w.heap.size w wr) (fun t _ => n - (intOf t).toNat)
  case atStart => exact ⟨0, by omega, rfl, k2, q2, hB2⟩
  case round =>
    clear k0 k1 s1 k2 q2 hB hB1 hB2 hw hr
    obtain ⟨k, hk, rfl, k2, q2, hB2⟩ := hrel
    by_cases hlt : k < n
    · have c0 := q2.row k hlt
      have f0 := q2.frozen k
      go_wp2
      have q3 := q2.set k (.int .i64 (k : Nat))
      rw [rowV_set, upTo_next] at q3
      exact ⟨⟨k + 1, by omega, by go_num, k2.set_other (p := ⟨r, k, none⟩) (by show w.heap.size ≠ r; omega) _, q3, below_only hB2 (Only.setCell (b := r) wr k (.int .i64 (k : Nat))) (by omega)⟩, by simp [intOf]; omega⟩
    · obtain rfl : k = n := by omega
      rw [upTo_end] at q2
      have hS : SortBy (gf l) #[.pointer (some ⟨w.heap.size, 0, none⟩)] k r wr := ⟨fun x => anyBad_false l hgood x, q2.lt, fun W i j hbut hi hj => by
        by_cases h0 : 0 < k
        · refine hclo.out W (by rw [← hn.out]; exact k2.but hbut k2.lt (by omega)) ((hb.out.below hB2).but hbut fun b o e => ?_) (by rw [← hn.out]; exact hlen) i j (by rw [← hn.out]; exact hi) (by rw [← hn.out]; exact hj)
          have := hab.out b o e (by rw [← hn.out]; exact h0)
          have := hB2.size
          omega
        · omega⟩
      have hst := sortStable_any hS hlen
      go_wp2_with (go_at_call 59; (with_reducible refine (hst _ ⟨But.refl _ _ _, q2⟩).mono ?_); rintro _ w3 ⟨rfl, g, hs, ht, hk3⟩)
      go_ret2
      exact ⟨⟨r, g, rfl, by omega, hk3.row, hs, ht⟩, below_but hB2 hk3.but (by omega) hB2.size⟩
end Go.Proofs.Ytdnpbemkobhlcaa
