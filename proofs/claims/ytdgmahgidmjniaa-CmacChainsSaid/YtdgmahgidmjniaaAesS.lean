/-
  AES, the walks of the substitution boxes, the program's and the reference's.
-/
import Derived.Test.YtdgmahgidmjniaaAes1
import Derived.Test.YtdgmahgidmjniaaAesR
import Derived.BigQuiet
import Derived.Deep.QuietTactic
namespace Go.Proofs.Ytdgmahgidmjniaa
open Go.RowKit

def sbox (x : UInt8) : UInt8 := (stF 255).getD x.toNat 0
def inbox (x : UInt8) : UInt8 := (stF 255).getD (256 + x.toNat) 0

theorem run_field_agg {P : Program} {s t e : TypeId} {n off i : Nat} {fs : Array Field} {f : Field} (hu : P.underlying s = some (.struct fs)) (hf : fs[i]? = some f) (ht : f.type = t) (ho : f.offset = off)
    (hut : P.underlying t = some (.array n e)) (k : Nat) (hs : (P.info? t).map (·.size) = some k) (cs : Array Value) (w : World) :
    (Instr.field s (.agg cs) i).run P w = .ok (.agg (cs.extract off (off + k))) w := by
  subst ht ho
  cases hq : P.info? f.type with
  | none => simp [hq] at hs
  | some ie =>
    have hs' : ie.size = k := by simpa [hq] using hs
    have hagg : (isAgg f.type).run P w = .ok true w := by
      unfold isAgg
      rw [Sem.run_bind, run_underlying hut w]
      simp
    simp [Instr.field, run_underlying hu, hf, part, hagg, asAgg, sizeOf, typeInfo, hq, hs']

theorem field55_0 (st : List UInt8) (w : World) : (Instr.field 55 (.agg (bytesV st)) 0).run Try.prog w = .ok (.agg (bytesV (st.take 256))) w := by
  have h := run_field_agg (P := Try.prog) (t := 53) (i := 0) Try.underlying55 rfl rfl rfl Try.underlying53 256 (by kernel_rfl) (bytesV st) w
  rw [bytesV_extract] at h
  exact h
theorem field55_1 (st : List UInt8) (hst : st.length = 512) (w : World) : (Instr.field 55 (.agg (bytesV st)) 1).run Try.prog w = .ok (.agg (bytesV (st.drop 256))) w := by
  have h := run_field_agg (P := Try.prog) (t := 53) (i := 1) Try.underlying55 rfl rfl rfl Try.underlying53 256 (by kernel_rfl) (bytesV st) w
  rw [bytesV_extract, List.take_of_length_le (by simp [hst])] at h
  exact h

set_option maxRecDepth 100000 in
theorem sbox_int (x : Int) (w : World) (hx : 0 ≤ x) (hx' : x < 256) :
    Calls Try.prog 34 #[.int .u8 x] w fun e w' => e = .returned (.int .u8 (sbox (u8 x)).toNat) ∧ Below w.heap.size w w' := by
  have hfl := field55_0 (stF 255)
  have hix : ∀ w, (Instr.index 53 (.agg (bytesV ((stF 255).take 256))) (.int .u8 x)).run Try.prog w = .ok (.int .u8 (sbox (u8 x)).toNat) w := fun w =>
    run_index_agg Try.underlying53 Try.underlying5 (by kernel_rfl) _ _ _ (u8 x).toNat (cast_u8 x hx hx').symm (lt256 _) _ (by
      have := lt256 (u8 x)
      rw [bytesV_get]; simp [stF_length, sbox, B, this, show (u8 x).toNat < 512 from by omega]) _
  go_enter Try.func34, Try.ntmps34
  go_wp2_with (go_at_call 59; refine (subst_any _).mono ?_; rintro e w1 ⟨rfl, hb⟩)
  go_ret
  exact ⟨rfl, hb⟩

set_option maxRecDepth 100000 in
theorem inbox_int (x : Int) (w : World) (hx : 0 ≤ x) (hx' : x < 256) :
    Calls Try.prog 36 #[.int .u8 x] w fun e w' => e = .returned (.int .u8 (inbox (u8 x)).toNat) ∧ Below w.heap.size w w' := by
  have hfl := field55_1 (stF 255) (stF_length _)
  have hix : ∀ w, (Instr.index 53 (.agg (bytesV ((stF 255).drop 256))) (.int .u8 x)).run Try.prog w = .ok (.int .u8 (inbox (u8 x)).toNat) w := fun w =>
    run_index_agg Try.underlying53 Try.underlying5 (by kernel_rfl) _ _ _ (u8 x).toNat (cast_u8 x hx hx').symm (lt256 _) _ (by
      have := lt256 (u8 x)
      rw [bytesV_get]; simp [stF_length, inbox, B, this, show 256 + (u8 x).toNat < 512 from by omega]) _
  go_enter Try.func36, Try.ntmps36
  go_wp2_with (go_at_call 59; refine (subst_any _).mono ?_; rintro e w1 ⟨rfl, hb⟩)
  go_ret
  exact ⟨rfl, hb⟩

/-! ### The reference -/
def invF (a p : UInt8) : Nat → UInt8 × UInt8
  | 0 => (a, p)
  | k + 1 => (gmul (invF a p k).1 (invF a p k).1, gmul (invF a p k).2 (gmul (invF a p k).1 (invF a p k).1))
def rinv (a : UInt8) : UInt8 := (invF a 1 7).2

theorem rinv_any (a : UInt8) (w : World) :
    Calls Try.prog 60 #[.int .u8 a.toNat] w fun e w' => e = .returned (.int .u8 (rinv a).toNat) ∧ w = w' := by
  go_enter Try.func60, Try.ntmps60
  go_wp2
  go_loop [0, 3, 4] (fun t0 t3 t4 => ∃ k : Nat, k ≤ 7 ∧ t0 = .int .u8 (invF a 1 k).1.toNat ∧ t3 = .int .u8 (invF a 1 k).2.toNat ∧ t4 = .int .i64 k) (fun _ _ i => 7 - (intOf i).toNat)
  case atStart => exact ⟨0, by omega, rfl, rfl, rfl⟩
  case round =>
    obtain ⟨k, hk, rfl, rfl, rfl⟩ := hrel
    by_cases hlt : k < 7
    · go_wp2_with (go_at_call 32; refine (refmul_any _ _ _).mono ?_; rintro e w' ⟨rfl, rfl⟩)
      go_round
      case rel => exact ⟨k + 1, by omega, rfl, rfl, by go_num⟩
      case measure => simp [intOf]; omega
    · obtain rfl : k = 7 := by omega
      go_wp2
      go_ret
      exact ⟨rfl, rfl⟩
def rbit (v : UInt8) (i : Nat) : UInt8 :=
  UInt8.ofNat (v.toNat / 2 ^ i ^^^ v.toNat / 2 ^ ((i + 4) % 8) ^^^ v.toNat / 2 ^ ((i + 5) % 8) ^^^ v.toNat / 2 ^ ((i + 6) % 8) ^^^ v.toNat / 2 ^ ((i + 7) % 8) ^^^ 99 / 2 ^ i)
def rout (v : UInt8) : Nat → UInt8
  | 0 => 0
  | k + 1 => o8 (rout v k) (UInt8.ofNat ((rbit v k).toNat % 2 * 2 ^ k))
def rsbox (b : UInt8) : UInt8 := rout (rinv b) 8

theorem rstep_c : ∀ k : Fin 8, ∀ v : Fin 256, (bits .and .u8 (bits .xor .u8 (bits .xor .u8 (bits .xor .u8 (bits .xor .u8 (bits .xor .u8 ((v.val : Int) / 2 ^ k.val) ((v.val : Int) / 2 ^ ((k.val + 4) % 8)))
      ((v.val : Int) / 2 ^ ((k.val + 5) % 8))) ((v.val : Int) / 2 ^ ((k.val + 6) % 8))) ((v.val : Int) / 2 ^ ((k.val + 7) % 8))) (99 / 2 ^ k.val)) 1 * 2 ^ k.val % 256 : Int) = ((UInt8.ofNat ((rbit (UInt8.ofNat v.val) k.val).toNat % 2 * 2 ^ k.val)).toNat : Int) := by
  decide +kernel
theorem rstep (v : UInt8) (k : Nat) (hk : k < 8) : (bits .and .u8 (bits .xor .u8 (bits .xor .u8 (bits .xor .u8 (bits .xor .u8 (bits .xor .u8 ((v.toNat : Int) / 2 ^ k) ((v.toNat : Int) / 2 ^ ((k + 4) % 8)))
      ((v.toNat : Int) / 2 ^ ((k + 5) % 8))) ((v.toNat : Int) / 2 ^ ((k + 6) % 8))) ((v.toNat : Int) / 2 ^ ((k + 7) % 8))) (99 / 2 ^ k)) 1 * 2 ^ k % 256 : Int) = ((UInt8.ofNat ((rbit v k).toNat % 2 * 2 ^ k)).toNat : Int) := by
  have := rstep_c ⟨k, hk⟩ ⟨v.toNat, lt256 v⟩
  simp only [UInt8.ofNat_toNat] at this
  exact this
/-- The call returns v and has at most drawn. -/
def Drawn (v : Value) (w : World) (e : Ending) (w' : World) : Prop := e = .returned v ∧ ∃ q, w.drewN q = w'
set_option maxRecDepth 100000 in
theorem rsbox_quiet (b : UInt8) (w : World) :
    Calls Try.prog 35 #[.int .u8 b.toNat] w fun e w' => Drawn (.int .u8 (rsbox b).toNat) w e w' := by
  obtain ⟨v, hv⟩ : ∃ v, v = rinv b := ⟨_, rfl⟩
  have Hv := Lib.hid hv
  have hvl := lt256 v
  clear hv
  go_enter Try.func35, Try.ntmps35
  go_wp2_with (go_at_call 60; refine (rinv_any _ _).mono ?_; rintro e w' ⟨rfl, rfl⟩; rw [← Hv.out])
  go_loopw [4, 5] (fun t4 t5 wr => ∃ k : Nat, k ≤ 8 ∧ t4 = .int .u8 (rout v k).toNat ∧ t5 = .int .i64 k ∧ ∃ q, w.drewN q = wr) (fun _ i _ => 8 - (intOf i).toNat)
  case atStart => exact ⟨0, by omega, rfl, rfl, 0, rfl⟩
  case round =>
    obtain ⟨k, hk, rfl, rfl, q, rfl⟩ := hrel
    by_cases hlt : k < 8
    · have e1 : (0 : Int) ≤ ((k : Int) + 4) % 8 := by omega
      have e2 : (0 : Int) ≤ ((k : Int) + 5) % 8 := by omega
      have e3 : (0 : Int) ≤ ((k : Int) + 6) % 8 := by omega
      have e4 : (0 : Int) ≤ ((k : Int) + 7) % 8 := by omega
      go_wp2_with fail
      go_quiet (fail)
      go_wp2
      refine ⟨⟨k + 1, by omega, ?_, by go_num, ?_⟩, by simp [intOf]; omega⟩
      · rw [rstep v k hlt, bits_o8]; rfl
      · exact ⟨_, rfl⟩
    · obtain rfl : k = 8 := by omega
      go_wp2
      go_ret
      exact ⟨by rw [rsbox, ← Hv.out]; rfl, _, rfl⟩
theorem quiet_drawn {P : Program} {f : FuncId} {args : Array Value} {w : World} {n : Nat} {v : Value} (h : Calls P f args (w.drewN n) (Drawn v (w.drewN n))) :
    Calls P f args (w.drewN n) fun e w'' => e = .returned v ∧ ∃ m, w'' = w.drewN m :=
  h.mono fun _ _ ⟨he, q, hq⟩ => ⟨he, n + q, by rw [← hq, World.drewN_drewN]⟩
theorem rsbox_any (b : UInt8) (w : World) :
    Calls Try.prog 35 #[.int .u8 b.toNat] w fun e w' => e = .returned (.int .u8 (rsbox b).toNat) ∧ Below w.heap.size w w' :=
  (rsbox_quiet b w).mono fun _ _ ⟨he, q, hq⟩ => ⟨he, by rw [← hq]; exact below_drewN (Below.refl _ _) q⟩
end Go.Proofs.Ytdgmahgidmjniaa
