/-
  Bit strings, runs: slices.All over a slice of bytes, as an iterator.
-/
import Derived.Test.YtflmbghbgmkdeaaBitX
import Derived.Test.YtflmbghbgmkdeaaRng
import Derived.Test.YtflmbghbgmkdeaaTill
import Derived.OwnWalkIn
import Derived.TacticsInMore
import Derived.LoopNIn
import Derived.LoopIn
namespace Go.Proofs.Ytflmbghbgmkdeaa
open Go.RowKit
attribute [local go_sem] Oper.semAt_some

/-- The first k pairs of an index and a byte. -/
def upA (l : List UInt8) (k : Nat) : List (Nat × UInt8) := (List.range k).map fun j => (j, gd l j)
theorem upA_succ (l : List UInt8) (k : Nat) : upA l (k + 1) = upA l k ++ [(k, gd l k)] := by simp [upA, List.range_succ]
theorem upA_length (l : List UInt8) (k : Nat) : (upA l k).length = k := by simp [upA]
def rowK (k1 : Nat) (a : Option Addr) (k : Nat) : Prop := k = k1 ∨ ∃ o, a = some ⟨k, o, none⟩
theorem byt_keeps {B : Nat} {K : Nat → Prop} {W W' : World} {a : Option Addr} {l : List UInt8} (h : Byt W a l) (k : Keeps B K W W') (hK : ∀ b o, a = some ⟨b, o, none⟩ → B ≤ b ∨ K b) : Byt W' a l := by
  intro h0
  obtain ⟨b, o, e, hlt, hc⟩ := h h0
  exact ⟨b, o, e, Nat.lt_of_lt_of_le hlt k.size, fun i hi => cell_keeps (p := ⟨b, o + i, none⟩) (hc i hi) k hlt (hK b o e)⟩

set_option maxRecDepth 100000 in
set_option maxHeartbeats 4000000 in
theorem all_seq (F : Fence) (n : Nat) (hF : F.fn 44) (hro : F.round = none) (hn : 1 ≤ n) (l : List UInt8) (a : Option Addr) (cap k1 : Nat) (w : World) (hlen : l.length ≤ 100000) (hk1 : Blk w k1 #[.slice a l.length cap] 23) (hb : Byt w a l) :
    SeqAt F n Try.prog 44 #[.pointer (some ⟨k1, 0, none⟩)] (fun x : Nat × UInt8 => #[.int .i64 x.1, .int .u8 x.2.toNat])
      (rowK k1 a) (fun _ => True) (fun pre x => pre.length < l.length ∧ x = (pre.length, gd l pre.length)) (fun xs => xs = upA l l.length) w := fun lp J Jx W hW hJ hJx hG hY h0 => by
  have d1 := hk1.below hW hk1.lt
  have db := hb.cells hW
  have f1 := d1.cell 0
  simp only [List.getElem?_toArray, List.getElem?_cons_zero] at f1
  have hY' := Lib.hid hY
  clear hJ hG hY hJx hb hk1 hW
  have hKw : Keeps W.heap.size (rowK k1 a) W W := Keeps.refl _ _ _
  refine callsIn_of_wp Try.func44 rfl hF ?_ hro
  simp only [Try.ntmps44, List.size_toArray, List.length_cons, List.length_nil, Nat.reduceAdd, Nat.reduceSub, Array.replicate_succ, Array.replicate_zero, List.push_toArray, List.append_toArray, List.nil_append, List.cons_append]
  gi_wp2
  gi_loopw [7] (fun t7 wr => ∃ k : Nat, k ≤ l.length ∧ t7 = .int .i64 k ∧ J (upA l k) wr ∧ Keeps W.heap.size (rowK k1 a) W wr) (fun t _ => l.length - (intOf t).toNat)
  case atStart => exact ⟨0, by omega, rfl, h0, hKw⟩
  case round =>
    clear h0 hKw
    obtain ⟨k, hk, rfl, h0, hKw⟩ := hrel
    by_cases hlt : k < l.length
    · obtain ⟨b, o, rfl, hbl, hc⟩ := db (by omega)
      have hx : wr.cell? ⟨b, o + k, none⟩ = some (.int .u8 (gd l k).toNat) := cell_keeps (p := ⟨b, o + k, none⟩) (hc k hlt) hKw hbl (.inr (.inr ⟨o, rfl⟩))
      obtain ⟨fn, tmps, assign, body, hy, hR⟩ := hY'.out _ (k, gd l k) wr h0 (by rw [upA_length]; exact ⟨hlt, rfl⟩)
      dsimp only at hy
      gi_wp2
      refine hR.mono ?_
      rintro e W3 (⟨rfl, hJ3, hk3⟩ | ⟨rfl, hJx3, _⟩)
      · gi_wp2
        go_roundw
        case rel => exact ⟨k + 1, by omega, by simp, by rw [upA_succ]; exact hJ3, hKw.trans hk3⟩
        case measure => simp [intOf]; omega
      · gi_wp2
        refine bodyPost_ret (results_none rfl _ _ _) rfl ?_
        exact ⟨⟨_, rfl⟩, .inr ⟨_, hJx3⟩⟩
    · obtain rfl : k = l.length := by omega
      gi_wp2
      go_end0
      exact ⟨⟨_, rfl⟩, .inl ⟨_, rfl, h0⟩⟩
end Go.Proofs.Ytflmbghbgmkdeaa
