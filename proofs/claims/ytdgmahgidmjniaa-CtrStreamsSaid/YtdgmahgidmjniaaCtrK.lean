/-
  Counter mode: the key stream's bytes.
-/
import Derived.Test.YtdgmahgidmjniaaCtrJ
import Derived.Deep.OwnRows
namespace Go.Proofs.Ytdgmahgidmjniaa
open Go.RowKit
attribute [-go_sem] Instr.build

theorem own_base {w : World} {base base' : Nat} {e : TypeId} {size : Nat} {v : Value} {n : Nat} {xs : List Value} (h : w.ownsRow base e size v n xs) (k : base' ≤ base) : w.ownsRow base' e size v n xs := by
  obtain ⟨h1, h2 | ⟨g, cap, cur, e, h3, h4⟩⟩ := h
  · exact ⟨h1, .inl h2⟩
  · exact ⟨h1, .inr ⟨g, cap, cur, e, by omega, h4⟩⟩
theorem x8_zero_l (x : UInt8) : x8 0 x = x := by unfold x8; simp
theorem xrL_zero (s : List UInt8) : xrL (List.replicate s.length 0) s = s := by
  unfold xrL
  induction s with
  | nil => rfl
  | cons x s ih => rw [List.length_cons, List.replicate_succ, List.zipWith_cons_cons, ih, x8_zero_l]
theorem cryL_zero (key : List UInt8) (c b d n : Nat) : cryL key c b d (List.replicate n 0) = ksU key c b d n := by
  rw [cryL, List.length_replicate]
  have := xrL_zero (ksU key c b d n)
  rwa [ksU_length] at this
theorem made_Z (n : Nat) : madeCells #[Value.int .u8 0] n = bytesV (List.replicate n 0) := by
  apply Array.toList_inj.1
  rw [toList_madeCells_one, bytesV_toList]; simp [B]
theorem mk_any (n : Nat) (hn : n ≤ 100000) (w : World) : (Instr.makeSlice 37 (.int .i64 (n : Int)) (.int .i64 (n : Int))).run Try.prog w = .ok (.slice (some ⟨w.heap.size, 0, none⟩) n n) (w.alloc (.cells (bytesV (List.replicate n 0)) 5)) := by
  rw [run_make_row' 37 5 (.int .u8 0) 1 elem37 info5 rfl .i64 .i64 n (by omega) (by omega) w, made_Z]
theorem bsl_zero {w : World} {b n : Nat} {t : TypeId} (hn : n ≤ 100000) (h : Blk w b (bytesV (List.replicate n 0)) t) : Bsl w (.slice (some ⟨b, 0, none⟩) n n) (List.replicate n 0) :=
  bsl_lit _ h rfl (by simp) (by simp [maxLen]; omega)
set_option maxRecDepth 100000 in
set_option maxHeartbeats 4000000 in
theorem keystream_ok (key : List UInt8) (hk : key.length = 16) (c b d : Nat) (hc : c < 2 ^ 32) (hb : b ≤ 31) (hd : d ≤ 1) (n : Nat) (hn : n ≤ 300) (w : World) :
    Calls Try.prog 48 #[.agg (bytesV key), .int .u32 c, .int .i64 b, .int .i64 d, .int .i64 n] w fun e w' => ∃ v', e = .returned (.tuple #[v', .int .i64 0]) ∧
      w'.ownsRow w.heap.size 5 1 v' n ((ksU key c b d n).map B) ∧ Below w.heap.size w w' := by
  have hmk := mk_any n (by omega)
  have hcr : ∀ (w : World) (g : Nat), Blk w g (bytesV (List.replicate n 0)) 5 → Calls Try.prog 43 #[.agg (bytesV key), .int .u32 c, .int .i64 b, .int .i64 d, .slice (some ⟨g, 0, none⟩) n n] w fun e w' => ∃ v', e = .returned (.tuple #[v', .int .i64 0]) ∧ w'.ownsRow w.heap.size 5 1 v' n ((ksU key c b d n).map B) ∧ Below w.heap.size w w' := fun w g h => by
    have := crypt_ok key hk c b d hc hb hd _ (List.replicate n 0) w (bsl_zero (by omega) h) (by simp; omega)
    rw [cryL_zero, List.length_replicate] at this
    exact this
  obtain ⟨Z, hZ⟩ : ∃ Z, Z = bytesV (List.replicate n 0) := ⟨_, rfl⟩
  rw [← hZ] at hmk hcr
  clear hZ
  have r22 : (Try.prog.info? 22).map (·.size) = some (bytesV key).toList.length := by rw [Array.length_toList, bytesV_size, hk]; exact row22.2
  have l22 : (bytesV key).toList.length = 16 := by rw [Array.length_toList, bytesV_size, hk]
  have o22 : ∀ v ∈ (bytesV key).toList, v.oneCell' = true := fun v hv => (Array.all_eq_true_iff_forall_mem.1 (bytesV_one key)) v (by simpa using hv)
  have u22 := Try.underlying22
  have a0 : Blk (w.alloc (.cells (bytesV key) 22)) w.heap.size (bytesV key) 22 := Blk.new' rfl
  have hB : Below w.heap.size w (w.alloc (.cells (bytesV key) 22)) := (Below.refl _ _).alloc (Nat.le_refl _) _
  have s0 : (w.alloc (.cells (bytesV key) 22)).drew.rangeAt w.heap.size 0 (bytesV key).toList := by
    have := a0.drew.range 0 16
    rwa [bytesV_whole key 16 hk] at this
  have s1 := World.rangeAt_alloc (w := (w.alloc (.cells (bytesV key) 22)).drew) s0 (.cells Z 5)
  have hni : (n : Int) ≤ 300 := by omega
  go_enter Try.func48, Try.ntmps48
  go_wp2
  go_region_held3 (fun w' => w'.rangeAt w.heap.size 0 (bytesV key).toList) (assumption)
    (first
      | (go_at_call 43; (with_reducible refine (hcr _ _ ?_).mono ?_); (exact Blk.new' (by simp)); rintro e w1 ⟨x, rfl, ho1, hb1⟩; have hB1 := bnext (hB.drew.alloc hB.size (.cells Z 5)) hb1; have s2 : w1.rangeAt w.heap.size 0 (bytesV key).toList := (by have := ((a0.drew.alloc (.cells Z 5)).below hb1 (by simp; omega)).range 0 16; rwa [bytesV_whole key 16 hk] at this))
      | fail)
  go_wp2
  go_ret2
  exact ⟨x, rfl, own_base ho1 (by simp; omega), hB1⟩
end Go.Proofs.Ytdgmahgidmjniaa
