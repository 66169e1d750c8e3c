/-
  Counter mode: the statement CtrOwn.
-/
import Derived.Test.YtdgmahgidmjniaaCtrL
namespace Go.Proofs.Ytdgmahgidmjniaa
open Go.RowKit
attribute [-go_sem] Instr.build

set_option maxRecDepth 100000 in
set_option maxHeartbeats 4000000 in
theorem ctrown_early (C : Array Value) (a : Option Addr) (n cap : Nat) (more : Int) (h : 300 < n ∨ more < 1 ∨ 50 < more) (w : World) :
    Calls Try.prog 15 #[.agg C, .slice a n cap, .int .i64 more] w fun e w' => e = .returned (.bool true) ∧ Below w.heap.size w w' := by
  have hB : Below w.heap.size w (w.alloc (.cells C 26)) := (Below.refl _ _).alloc (Nat.le_refl _) _
  by_cases h1 : (300 : Int) < n
  · clear h
    go_enter Try.func15, Try.ntmps15
    go_wp2_with (first
      | (go_at_call 29; refine (known40 _).mono ?_; rintro e w4 ⟨rfl, hb4⟩; replace hB := bnext hB hb4; clear hb4)
      | fail)
    go_ret
    exact ⟨rfl, hB⟩
  · by_cases h2 : more < 1
    · clear h
      go_enter Try.func15, Try.ntmps15
      go_wp2_with (first
        | (go_at_call 29; refine (known40 _).mono ?_; rintro e w4 ⟨rfl, hb4⟩; replace hB := bnext hB hb4; clear hb4)
        | fail)
      go_ret
      exact ⟨rfl, hB⟩
    · have h3 : 50 < more := by omega
      clear h
      go_enter Try.func15, Try.ntmps15
      go_wp2_with (first
        | (go_at_call 29; refine (known40 _).mono ?_; rintro e w4 ⟨rfl, hb4⟩; replace hB := bnext hB hb4; clear hb4)
        | fail)
      go_ret
      exact ⟨rfl, hB⟩
set_option maxRecDepth 100000 in
set_option maxHeartbeats 4000000 in
theorem ctrown_bad (key : List UInt8) (hk : key.length = 16) (c b d : Int) (hbad : b < 0 ∨ 31 < b ∨ (d ≠ 0 ∧ d ≠ 1)) (a : Option Addr) (n cap : Nat) (more : Int) (h1 : n ≤ 300) (h2 : 1 ≤ more) (h3 : more ≤ 50) (w : World) :
    Calls Try.prog 15 #[.agg (parV key c b d), .slice a n cap, .int .i64 more] w fun e w' => e = .returned (.bool true) ∧ Below w.heap.size w w' := by
  obtain ⟨C, hC⟩ : ∃ C, C = parV key c b d := ⟨_, rfl⟩
  have a0 : PBox (w.alloc (.cells C 26)) w.heap.size key c b d := ⟨by rw [hC]; exact Blk.new' rfl, hk⟩
  have hB : Below w.heap.size w (w.alloc (.cells C 26)) := (Below.refl _ _).alloc (Nat.le_refl _) _
  rw [← hC]
  clear hC
  obtain ⟨q0, q1, q2⟩ := a0.cells
  have h1' : (n : Int) ≤ 300 := by omega
  go_enter Try.func15, Try.ntmps15
  go_wp2_with (first
    | (go_at_call 28; (with_reducible refine (valid_err b d hbad _).mono ?_); rintro e w5 ⟨rfl, rfl⟩)
    | (go_at_call 29; refine (known40 _).mono ?_; rintro e w4 ⟨rfl, hb4⟩; replace hB := bnext hB hb4; clear hb4)
    | fail)
  go_ret
  exact ⟨rfl, hB⟩

theorem own_cells {w : World} {base n : Nat} {v : Value} {l : List UInt8} (h : w.ownsRow base 5 1 v n (l.map B)) : ∃ a cap, v = .slice a n cap ∧ (0 < n → ∃ g C, a = some ⟨g, 0, none⟩ ∧ base ≤ g ∧ Blk w g C 5 ∧ n ≤ C.size) := by
  obtain ⟨hl, ⟨rfl, rfl⟩ | ⟨g, cap, cur, rfl, hb, hh, hc, hm, hs, ht⟩⟩ := h
  · exact ⟨none, 0, rfl, fun h => absurd h (by omega)⟩
  · exact ⟨_, cap, rfl, fun _ => ⟨g, cur, rfl, hb, hh, by omega⟩⟩
set_option maxRecDepth 100000 in
set_option maxHeartbeats 4000000 in
theorem ctrown_ok (key : List UInt8) (hk : key.length = 16) (c b d : Nat) (hc : c < 2 ^ 32) (hb : b ≤ 31) (hd : d ≤ 1) (v : Value) (l : List UInt8) (w : World) (hv : Bsl w v l) (hlen : l.length ≤ 300) (more : Nat) (h2 : 1 ≤ more) (h3 : more ≤ 50) :
    Calls Try.prog 15 #[.agg (parV key c b d), v, .int .i64 more] w fun e w' => e = .returned (.bool true) ∧ Below w.heap.size w w' := by
  obtain ⟨X, hX⟩ : ∃ X, X = cryL key c b d l := ⟨_, rfl⟩
  have hcry := fun u w h => crypt_ok key hk c b d hc hb hd u l w h hlen
  have hlong := fun g w => crypt_long key c b d hc hb hd g (16384 + more) (16384 + more) w (by omega)
  rw [← hX] at hcry
  clear hX
  obtain ⟨M, hM⟩ : ∃ M, M = 16384 + more := ⟨_, rfl⟩
  have hmk := mk_any M (by omega)
  rw [← hM] at hlong
  have hMi : 16384 + (more : Int) = M := by omega
  have hMw : IntKind.i64.wrap (16384 + (more : Int)) = M := by rw [hMi]; exact IntWalk.i64_in _ (by omega)
  obtain ⟨Z, hZ⟩ : ∃ Z, Z = bytesV (List.replicate M 0) := ⟨_, rfl⟩
  rw [← hZ] at hmk
  clear hZ hM
  obtain ⟨C, hC⟩ : ∃ C, C = parV key c b d := ⟨_, rfl⟩
  have a0 : PBox (w.alloc (.cells C 26)) w.heap.size key c b d := ⟨by rw [hC]; exact Blk.new' rfl, hk⟩
  have hkC := Lib.hid (fun w' (h : PBox w' w.heap.size key c b d) => h.blk)
  have hB : Below w.heap.size w (w.alloc (.cells C 26)) := (Below.refl _ _).alloc (Nat.le_refl _) _
  have hkx := Lib.hid (parV_key key hk c b d)
  have hks := Lib.hid (parV_size key hk c b d)
  rw [← hC] at hkx hks hkC ⊢
  clear hC
  obtain ⟨q0, q1, q2⟩ := a0.cells
  obtain ⟨a, cap, rfl, r1, r2, r3, r4⟩ := hv
  have hv : Bsl w (.slice a l.length cap) l := ⟨a, cap, rfl, r1, r2, r3, r4⟩
  have hv' := hv.below hB
  have hown := fun w h => ownl_any l a cap w h r3 (by omega)
  have hbyt := r4.cells hB
  clear r1 r2 r3 r4 hv
  have h1' : (l.length : Int) ≤ 300 := by omega
  have h2' : (1 : Int) ≤ more := by omega
  have h3' : (more : Int) ≤ 50 := by omega
  have HM := Lib.hid hMi
  have HMw := Lib.hid hMw
  clear hMi hMw
  go_enter Try.func15, Try.ntmps15
  go_wp2_with (first
    | (go_at_call 28; (with_reducible refine (valid_ok b d hb hd _).mono ?_); rintro e w5 ⟨rfl, rfl⟩)
    | (go_at_call 47; (with_reducible refine (hown _ hbyt).mono ?_); rintro e w1 ⟨o, rfl, ho1, hb1⟩; replace a0 := a0.below hb1; replace hv' := hv'.below hb1; replace hB := bnext hB hb1; have hO := bsl_own ho1; clear ho1 hb1 q0 q1 q2 hbyt hown; obtain ⟨q0, q1, q2⟩ := a0.cells)
    | ((with_reducible refine wpList_load_blk rfl 22 (.tmp 36) rfl w.heap.size 0 16 rfl (hkC.out _ a0) row22 ?_ (bytesV key) hkx.out ?_); (rw [hks.out]; decide))
    | (go_at_call 43; refine (hcry _ _ hO).mono ?_; rintro e w2 ⟨x, rfl, ho2, hb2⟩)
    | fail)
  obtain ⟨ax, cx, rfl, hx⟩ := own_cells ho2
  clear ho2 hcry q0 q1 q2
  have s5 : (Try.prog.info? 5).map (·.size) = some 1 := by kernel_rfl
  go_loopw [10] (fun t10 wr => ∃ k : Nat, k ≤ l.length ∧ t10 = .int .i64 k ∧ (0 < l.length → ∃ g C, ax = some ⟨g, 0, none⟩ ∧ w1.heap.size ≤ g ∧ Blk wr g C 5 ∧ l.length ≤ C.size) ∧ Below w1.heap.size w1 wr) (fun t _ => l.length - (intOf t).toNat)
  case atStart => exact ⟨0, by omega, rfl, hx, hb2⟩
  case round =>
    clear hx hb2
    obtain ⟨k, hkl, rfl, hx, hb2⟩ := hrel
    by_cases hlt : k < l.length
    · obtain ⟨g, D, rfl, hg, hD, hDs⟩ := hx (by omega)
      clear hx
      have hki : (k : Int) < l.length := by omega
      go_wp2_with (first
        | ((with_reducible refine wpList_store_int rfl 5 (.tmp 56) _ rfl g k .u8 77 rfl rfl hD s5 ?_ ?_); (omega); intro w3 d1 o1; replace hb2 := below_only hb2 o1 hg)
        | fail)
      have hx1 : 0 < l.length → ∃ g' C, (some ⟨g, 0, none⟩ : Option Addr) = some ⟨g', 0, none⟩ ∧ w1.heap.size ≤ g' ∧ Blk w3 g' C 5 ∧ l.length ≤ C.size := fun _ => ⟨g, _, rfl, hg, d1, by simp; exact hDs⟩
      first
        | exact ⟨⟨k + 1, by omega, by go_num, hx1, hb2⟩, by simp [intOf]; omega⟩
        | (refine ⟨?_, by simp [intOf]; omega⟩; (repeat apply Exists.intro); exact ⟨⟨k + 1, by omega, by go_num, hx1, hb2⟩, rfl⟩)
    · obtain rfl : k = l.length := by omega
      replace a0 := a0.below hb2
      replace hv' := hv'.below hb2
      replace hO := hO.below hb2
      replace hB := bnext hB hb2
      have hp := a0.cells
      have s0 : wr.drew.rangeAt w.heap.size 0 (bytesV key).toList ∧ wr.drew.cell? ⟨w.heap.size, 16, none⟩ = some (.int .u32 c) ∧ wr.drew.cell? ⟨w.heap.size, 17, none⟩ = some (.int .i64 b) ∧ wr.drew.cell? ⟨w.heap.size, 18, none⟩ = some (.int .i64 d) := ⟨a0.read.row, hp⟩
      have a1 := a0.below ((Below.refl _ wr).drew.alloc (Nat.le_refl _) (.cells Z 5))
      have s1 : (wr.drew.alloc (.cells Z 5)).rangeAt w.heap.size 0 (bytesV key).toList ∧ (wr.drew.alloc (.cells Z 5)).cell? ⟨w.heap.size, 16, none⟩ = some (.int .u32 c) ∧ (wr.drew.alloc (.cells Z 5)).cell? ⟨w.heap.size, 17, none⟩ = some (.int .i64 b) ∧ (wr.drew.alloc (.cells Z 5)).cell? ⟨w.heap.size, 18, none⟩ = some (.int .i64 d) := ⟨a1.read.row, a1.cells⟩
      have hb4 := ((Below.refl wr.heap.size wr).drew).alloc (Nat.le_refl _) (.cells Z 5)
      have hB1 := bnext hB hb4
      have hO1 := hO.below hb4
      have hv1 := hv'.below hb4
      have r22 : (Try.prog.info? 22).map (·.size) = some (bytesV key).toList.length := by rw [Array.length_toList, bytesV_size, hk]; exact row22.2
      have l22 : (bytesV key).toList.length = 16 := by rw [Array.length_toList, bytesV_size, hk]
      have o22 : ∀ v ∈ (bytesV key).toList, v.oneCell' = true := fun v hv => (Array.all_eq_true_iff_forall_mem.1 (bytesV_one key)) v (by simpa using hv)
      have u22 := Try.underlying22
      have hMw := HMw.out
      clear hp hlt hkl hx
      go_wp2
      go_region_held3 (fun w' => w'.rangeAt w.heap.size 0 (bytesV key).toList ∧ w'.cell? ⟨w.heap.size, 16, none⟩ = some (.int .u32 c) ∧ w'.cell? ⟨w.heap.size, 17, none⟩ = some (.int .i64 b) ∧ w'.cell? ⟨w.heap.size, 18, none⟩ = some (.int .i64 d)) (assumption)
        (first
          | (go_at_call 43; (with_reducible refine (hlong _ _).mono ?_); rintro e w4 ⟨rfl, hb5⟩; have a2 := a1.below hb5; have s2 : w4.rangeAt w.heap.size 0 (bytesV key).toList ∧ w4.cell? ⟨w.heap.size, 16, none⟩ = some (.int .u32 c) ∧ w4.cell? ⟨w.heap.size, 17, none⟩ = some (.int .i64 b) ∧ w4.cell? ⟨w.heap.size, 18, none⟩ = some (.int .i64 d) := ⟨a2.read.row, a2.cells⟩; have hB2 := bnext hB1 hb5; have hO2 := hO1.below hb5; have hv2 := hv1.below hb5)
          | fail)
      clear s0 s1 s2 r22 u22 o22 l22 a0 a1 a2
      go_wp2_with (first
        | (go_at_call 44; refine (bsame_any l l _ _ _ hO2 hv2 (by omega)).mono ?_; rintro e w5 ⟨rfl, hb5⟩; rw [decide_eq_true rfl]; replace hB2 := bnext hB2 hb5; clear hb5)
        | (go_at_call 29; refine (known40 _).mono ?_; rintro e w6 ⟨rfl, hb6⟩; replace hB2 := bnext hB2 hb6; clear hb6)
        | fail)
      go_ret
      exact ⟨rfl, hB2⟩
theorem walk_CtrOwn (key : List UInt8) (hk : key.length = 16) (c b d : Int) (wc : (Lit.int .u32 c).wf = true) (v : Value) (l : List UInt8) (more : Int) (_wm : (Lit.int .i64 more).wf = true) (w : World) (hv : Bsl w v l) :
    Calls Try.prog 15 #[.agg (parV key c b d), v, .int .i64 more] w fun e w' => e = .returned (.bool true) ∧ Below w.heap.size w w' := by
  obtain ⟨c0, c1⟩ := bounds_u32' wc
  obtain ⟨c, rfl⟩ := Int.eq_ofNat_of_zero_le c0
  obtain ⟨a, cap, rfl, h1, h2, h3, h4⟩ := hv
  have hv : Bsl w (.slice a l.length cap) l := ⟨a, cap, rfl, h1, h2, h3, h4⟩
  by_cases h : 300 < l.length ∨ more < 1 ∨ 50 < more
  · exact ctrown_early _ a l.length cap more h w
  · obtain ⟨more, rfl⟩ := Int.eq_ofNat_of_zero_le (show 0 ≤ more by omega)
    rcases cases_par b d with ⟨b', d', rfl, rfl, hb, hd⟩ | hbad
    · exact ctrown_ok key hk c b' d' (by omega) hb hd _ l w hv (by omega) more (by omega) (by omega)
    · exact ctrown_bad key hk c b d hbad a l.length cap more (by omega) (by omega) (by omega) w
end Go.Proofs.Ytdgmahgidmjniaa
