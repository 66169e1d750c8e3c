/-
  The trellis, walks: an encoder takes a bit.
-/
import Derived.Test.YtkcccoialmineaaTreB
import Derived.Test.YtkcccoialmineaaOwn
namespace Go.Proofs.Ytkcccoialmineaa
open Go.RowKit

/-- An encoder in state s with the parity slice v. -/
def enc (s : Nat) (v : Value) : Array Value := #[.int .i64 ((s / 4 : Nat) : Int), .int .i64 ((s / 2 % 2 : Nat) : Int), .int .i64 ((s % 2 : Nat) : Int), v]
theorem enc_rg (s : Nat) (v : Value) : (enc s v).extract 0 (0 + 3) = rg s := rfl
theorem enc_put (s t : Nat) (v : Value) : splice (enc s v) 0 (rg t).toList = enc t v := rfl
theorem enc_own (s : Nat) (v v' : Value) : (enc s v).setIfInBounds 3 v' = enc s v' := rfl
theorem info5 : (Try.prog.info? 5).map (fun i => (i.zero, i.size, i.bytes)) = some (some (.int .u8 0), 1, 1) := by kernel_rfl
theorem sz36 : (Try.prog.info? 36).map (·.size) = some 1 := by kernel_rfl

theorem one_new (w : World) (v : Value) (t : TypeId) : ∀ j u, [v][j]? = some u → (w.alloc (.cells #[v] t)).cell? ((⟨w.heap.size, 0, none⟩ : Addr).add j) = some u := by
  intro j u hj
  match j, hj with
  | 0, hj =>
    simp at hj; subst hj
    have := (Blk.new w #[v] t).cell 0
    simp [Addr.add, this]
theorem one_one (k : IntKind) (n : Int) : ∀ u ∈ [Value.int k n], u.oneCell' = true := by
  intro u hu; simp at hu; subst hu; rfl
theorem one_byte (l : List UInt8) (p : Nat) (h : p < 256) : l.map B ++ [.int .u8 (p : Int)] = (l ++ [UInt8.ofNat p]).map B := by
  simp [B, Nat.mod_eq_of_lt h]
theorem le_alloc {w : World} {base : Nat} (h : base ≤ w.heap.size) (o : Obj) : base ≤ (w.alloc o).heap.size := by simp; omega
theorem own_ne {w : World} {base : Nat} {e : TypeId} {v : Value} {n size : Nat} {xs : List Value} {b : Nat} (h : w.ownsRow base e size v n xs) (hb : b < base) : some b ≠ v.ownBlock :=
  fun k => by have := (h.lt b k.symm).1; omega
theorem own_ge {w : World} {base : Nat} {e : TypeId} {v : Value} {n size : Nat} {xs : List Value} (h : w.ownsRow base e size v n xs) : ∀ k, v.ownBlock = some k → base ≤ k := fun k hk => (h.lt k hk).1

set_option maxHeartbeats 1000000 in
theorem takes_any (s b : Nat) (hs : s < 8) (hb : b < 2) (bx base : Nat) (v : Value) (l : List UInt8) (w : World) (hx : bx < base) (hbase : base ≤ w.heap.size) (he : Blk w bx (enc s v) 70)
    (hown : w.ownsRow base 5 1 v l.length (l.map B)) (hlen : l.length + 1 ≤ 100000) :
    Calls Try.prog 34 #[.pointer (some ⟨bx, 0, none⟩), .int .i64 b] w fun e w' => e = .returned (.int .i64 (pr s b)) ∧
      ∃ v', Blk w' bx (enc (nx s b) v') 70 ∧ w'.ownsRow base 5 1 v' (l ++ [UInt8.ofNat (pr s b)]).length ((l ++ [UInt8.ofNat (pr s b)]).map B) ∧ But bx base w w' := by
  have hp := pr_lt s b
  obtain ⟨p, hpe⟩ : ∃ p, p = pr s b := ⟨_, rfl⟩
  rw [← hpe] at hp ⊢
  have HP := Lib.hid hpe
  clear hpe
  have k1 : IntKind.u8.wrap (p : Int) = (p : Int) := wrap_u8 p (by omega)
  have hB : But bx base w w := But.refl _ _ _
  obtain ⟨i0, hi, hz0, hz1, hz2⟩ := info_parts info5
  go_enter Try.func34, Try.ntmps34
  go_wp2_with (first
    | ((with_reducible refine wpList_load_blk rfl 64 (.tmp 10) rfl bx 0 3 rfl he row64 ?_ (rg s) ?_ ?_); (exact Nat.le_of_ble_eq_true rfl); (exact enc_rg _ _))
    | (go_at_call 31; go_loud ((with_reducible refine (step_any s b hs hb _).mono ?_); rintro e w2 ⟨rfl, hb1⟩; replace he := he.below hb1 he.lt; replace hown := own_below hown hb1; replace hB := hB.below hb1 hbase; have hb2 := hb1.size; replace hbase : base ≤ w2.heap.size := (by omega); clear hb1 hb2; rw [← HP.out]))
    | ((with_reducible refine wpList_store_blk rfl 64 (.tmp 5) (.tmp 14) rfl w2.heap.size 0 3 (rg (nx s b)) rfl rfl (Blk.new' rfl) row64 ?_ ?_ (rg_one _) ?_); (rfl); (exact Nat.le_refl 3); intro w3 h3 o3; replace he := (he.alloc _).only o3 (by omega); replace hown := own_only_ge hown o3 (Nat.le_refl _); replace hB := (hB.alloc hbase _).only o3 (.inr hbase); replace hbase : base ≤ w3.heap.size := (by have := hB.size; have h9 := o3.size; simp at h9; omega); replace h3 : Blk w3 w2.heap.size (rg (nx s b)) 64 := h3)
    | ((with_reducible refine wpList_load_blk rfl 64 (.tmp 5) rfl w2.heap.size 0 3 rfl h3 row64 ?_ (rg (nx s b)) ?_ ?_); (exact Nat.le_refl 3); (exact rg_whole _))
    | ((with_reducible refine wpList_store_blk rfl 64 (.tmp 19) (.tmp 17) rfl bx 0 3 (rg (nx s b)) rfl rfl he row64 ?_ ?_ (rg_one _) ?_); (rfl); (exact Nat.le_of_ble_eq_true rfl); intro w4 h4 o4; rw [enc_put] at h4; replace he := h4; replace hown := own_only_lt hown o4 hx; replace hB := hB.only o4 (.inl rfl); replace hbase : base ≤ w4.heap.size := (by have h9 := o4.size; omega); have c3 : w4.cell? ⟨bx, 3, none⟩ = some v := he.cell 3)
    | (at_builtin; (refine wpList_append_own _ rfl (.tmp 24) (.tmp 27) 36 rfl base 5 i0 (.int .u8 0) 1 1 Try.underlying36 hi hz0 hz1 hz2 rfl (by decide) v l.length (l.map B) rfl (hown.alloc _) ⟨w4.heap.size, 0, none⟩ 1 1 [.int .u8 (p : Int)] rfl rfl ?_ ?_ ?_ ?_ ?_ ?_; (exact one_new _ _ _); (exact one_one _ _); (unfold maxLen; omega); (omega); (exact le_alloc hbase _); intro v5 w5 hown5 hg5 _; (replace he := (he.alloc _).grown hg5 (own_ne hown hx)); (replace hB := (hB.alloc hbase _).grown hg5 (le_alloc hbase _) (own_ge hown)); (rw [one_byte l p (by omega)] at hown5)))
    | ((with_reducible refine wpList_store_one rfl 36 (.tmp 30) (.tmp 28) rfl bx 3 v5 rfl rfl (own_slice hown5) he sz36 ?_ ?_); (exact Nat.le_of_ble_eq_true rfl); intro w6 h6 o6; rw [enc_own] at h6; replace hown5 := own_only_lt hown5 o6 hx; replace hB := hB.only o6 (.inl rfl)))
  go_ret
  exact ⟨rfl, v5, h6, by rw [List.length_append]; exact hown5, hB⟩
end Go.Proofs.Ytkcccoialmineaa
