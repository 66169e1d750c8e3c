/-
  Counter mode: the statement CtrStreams.
-/
import Derived.Test.YtdgmahgidmjniaaCtrK
namespace Go.Proofs.Ytdgmahgidmjniaa
open Go.RowKit
attribute [-go_sem] Instr.build

set_option maxRecDepth 100000 in
theorem keystream_out (key : List UInt8) (c b d n : Int) (hn : n < 0 ∨ 16384 < n) (w : World) :
    Calls Try.prog 48 #[.agg (bytesV key), .int .u32 c, .int .i64 b, .int .i64 d, .int .i64 n] w fun e w' => e = .returned (.tuple #[.slice none 0 0, .int .i64 2]) ∧ Below w.heap.size w w' := by
  have hB : Below w.heap.size w (w.alloc (.cells (bytesV key) 22)) := (Below.refl _ _).alloc (Nat.le_refl _) _
  by_cases h0 : n < 0
  · go_enter Try.func48, Try.ntmps48
    go_wp2
    go_ret2
    exact ⟨rfl, hB⟩
  · have h1 : 16384 < n := by omega
    clear hn
    go_enter Try.func48, Try.ntmps48
    go_wp2
    go_ret2
    exact ⟨rfl, hB⟩
set_option maxRecDepth 100000 in
set_option maxHeartbeats 4000000 in
theorem keystream_bad (key : List UInt8) (hk : key.length = 16) (c b d : Int) (hbad : b < 0 ∨ 31 < b ∨ (d ≠ 0 ∧ d ≠ 1)) (n : Nat) (hn : n ≤ 300) (w : World) :
    Calls Try.prog 48 #[.agg (bytesV key), .int .u32 c, .int .i64 b, .int .i64 d, .int .i64 n] w fun e w' => e = .returned (.tuple #[.slice none 0 0, .int .i64 2]) ∧ Below w.heap.size w w' := by
  have hmk := mk_any n (by omega)
  obtain ⟨Z, hZ⟩ : ∃ Z, Z = bytesV (List.replicate n 0) := ⟨_, rfl⟩
  rw [← hZ] at hmk
  clear hZ
  have r22 : (Try.prog.info? 22).map (·.size) = some (bytesV key).toList.length := by rw [Array.length_toList, bytesV_size, hk]; exact row22.2
  have l22 : (bytesV key).toList.length = 16 := by rw [Array.length_toList, bytesV_size, hk]
  have o22 : ∀ v ∈ (bytesV key).toList, v.oneCell' = true := fun v hv => (Array.all_eq_true_iff_forall_mem.1 (bytesV_one key)) v (by simpa using hv)
  have u22 := Try.underlying22
  have a0 : Blk (w.alloc (.cells (bytesV key) 22)) w.heap.size (bytesV key) 22 := Blk.new' rfl
  have hB : Below w.heap.size w (w.alloc (.cells (bytesV key) 22)) := (Below.refl _ _).alloc (Nat.le_refl _) _
  have s0 : (w.alloc (.cells (bytesV key) 22)).drew.rangeAt w.heap.size 0 (bytesV key).toList := by
    have := a0.drew.range 0 16
    rwa [bytesV_whole key 16 hk] at this
  have s1 := World.rangeAt_alloc (w := (w.alloc (.cells (bytesV key) 22)).drew) s0 (.cells Z 5)
  have hni : (n : Int) ≤ 300 := by omega
  go_enter Try.func48, Try.ntmps48
  go_wp2
  go_region_held3 (fun w' => w'.rangeAt w.heap.size 0 (bytesV key).toList) (assumption)
    (first
      | (go_at_call 43; (with_reducible refine (crypt_err key c b d hbad _ _ _ _).mono ?_); rintro e w1 ⟨rfl, hb1⟩; have hB1 := bnext (hB.drew.alloc hB.size (.cells Z 5)) hb1; have s2 : w1.rangeAt w.heap.size 0 (bytesV key).toList := (by have := ((a0.drew.alloc (.cells Z 5)).below hb1 (by simp; omega)).range 0 16; rwa [bytesV_whole key 16 hk] at this))
      | fail)
  go_wp2
  go_ret2
  exact ⟨rfl, hB1⟩

set_option maxRecDepth 100000 in
set_option maxHeartbeats 4000000 in
theorem ctrstreams_big (C : Array Value) (n less : Int) (h1 : 300 < n) (h2 : n ≤ 16384) (w : World) :
    Calls Try.prog 16 #[.agg C, .int .i64 n, .int .i64 less] w fun e w' => e = .returned (.bool true) ∧ Below w.heap.size w w' := by
  have hB : Below w.heap.size w (w.alloc (.cells C 26)) := (Below.refl _ _).alloc (Nat.le_refl _) _
  go_enter Try.func16, Try.ntmps16
  go_wp2_with (first
    | (go_at_call 29; refine (known40 _).mono ?_; rintro e w4 ⟨rfl, hb4⟩; replace hB := bnext hB hb4; clear hb4)
    | fail)
  go_ret
  exact ⟨rfl, hB⟩
set_option maxRecDepth 100000 in
set_option maxHeartbeats 4000000 in
theorem ctrstreams_out (key : List UInt8) (hk : key.length = 16) (c b d : Int) (n less : Int) (hn : n < 0 ∨ 16384 < n) (w : World) :
    Calls Try.prog 16 #[.agg (parV key c b d), .int .i64 n, .int .i64 less] w fun e w' => e = .returned (.bool true) ∧ Below w.heap.size w w' := by
  obtain ⟨C, hC⟩ : ∃ C, C = parV key c b d := ⟨_, rfl⟩
  have a0 : PBox (w.alloc (.cells C 26)) w.heap.size key c b d := ⟨by rw [hC]; exact Blk.new' rfl, hk⟩
  have hkC := Lib.hid (fun w' (h : PBox w' w.heap.size key c b d) => h.blk)
  have hB : Below w.heap.size w (w.alloc (.cells C 26)) := (Below.refl _ _).alloc (Nat.le_refl _) _
  have hkx := Lib.hid (parV_key key hk c b d)
  have hks := Lib.hid (parV_size key hk c b d)
  rw [← hC] at hkx hks hkC ⊢
  clear hC
  obtain ⟨q0, q1, q2⟩ := a0.cells
  by_cases h0 : n < 0
  · go_enter Try.func16, Try.ntmps16
    go_wp2_with (first
      | ((with_reducible refine wpList_load_blk rfl 22 (.tmp 20) rfl w.heap.size 0 16 rfl (hkC.out _ a0) row22 ?_ (bytesV key) hkx.out ?_); (rw [hks.out]; decide))
      | (go_at_call 48; refine (keystream_out key c b d n hn _).mono ?_; rintro e w1 ⟨rfl, hb1⟩; replace hB := bnext hB hb1; clear hb1 q0 q1 q2)
      | (go_at_call 29; refine (known40 _).mono ?_; rintro e w4 ⟨rfl, hb4⟩; replace hB := bnext hB hb4; clear hb4)
      | fail)
    go_ret
    exact ⟨rfl, hB⟩
  · have h1 : 16384 < n := by omega
    have h3 : 300 < n := by omega
    go_enter Try.func16, Try.ntmps16
    go_wp2_with (first
      | ((with_reducible refine wpList_load_blk rfl 22 (.tmp 20) rfl w.heap.size 0 16 rfl (hkC.out _ a0) row22 ?_ (bytesV key) hkx.out ?_); (rw [hks.out]; decide))
      | (go_at_call 48; refine (keystream_out key c b d n hn _).mono ?_; rintro e w1 ⟨rfl, hb1⟩; replace hB := bnext hB hb1; clear hb1 q0 q1 q2)
      | (go_at_call 29; refine (known40 _).mono ?_; rintro e w4 ⟨rfl, hb4⟩; replace hB := bnext hB hb4; clear hb4)
      | fail)
    go_ret
    exact ⟨rfl, hB⟩
set_option maxRecDepth 100000 in
set_option maxHeartbeats 4000000 in
theorem ctrstreams_bad (key : List UInt8) (hk : key.length = 16) (c b d : Int) (hbad : b < 0 ∨ 31 < b ∨ (d ≠ 0 ∧ d ≠ 1)) (n : Nat) (hn : n ≤ 300) (less : Int) (w : World) :
    Calls Try.prog 16 #[.agg (parV key c b d), .int .i64 n, .int .i64 less] w fun e w' => e = .returned (.bool true) ∧ Below w.heap.size w w' := by
  obtain ⟨C, hC⟩ : ∃ C, C = parV key c b d := ⟨_, rfl⟩
  have a0 : PBox (w.alloc (.cells C 26)) w.heap.size key c b d := ⟨by rw [hC]; exact Blk.new' rfl, hk⟩
  have hkC := Lib.hid (fun w' (h : PBox w' w.heap.size key c b d) => h.blk)
  have hB : Below w.heap.size w (w.alloc (.cells C 26)) := (Below.refl _ _).alloc (Nat.le_refl _) _
  have hkx := Lib.hid (parV_key key hk c b d)
  have hks := Lib.hid (parV_size key hk c b d)
  rw [← hC] at hkx hks hkC ⊢
  clear hC
  obtain ⟨q0, q1, q2⟩ := a0.cells
  have hni : (n : Int) ≤ 300 := by omega
  have hn0 : (0 : Int) ≤ n := by omega
  go_enter Try.func16, Try.ntmps16
  go_wp2_with (first
    | ((with_reducible refine wpList_load_blk rfl 22 (.tmp 20) rfl w.heap.size 0 16 rfl (hkC.out _ a0) row22 ?_ (bytesV key) hkx.out ?_); (rw [hks.out]; decide))
    | (go_at_call 48; refine (keystream_bad key hk c b d hbad n hn _).mono ?_; rintro e w1 ⟨rfl, hb1⟩; replace a0 := a0.below hb1; replace hB := bnext hB hb1; clear hb1 q0 q1 q2; obtain ⟨q0, q1, q2⟩ := a0.cells)
    | (go_at_call 28; (with_reducible refine (valid_err b d hbad _).mono ?_); rintro e w5 ⟨rfl, rfl⟩)
    | (go_at_call 29; refine (known40 _).mono ?_; rintro e w4 ⟨rfl, hb4⟩; replace hB := bnext hB hb4; clear hb4)
    | fail)
  go_ret
  exact ⟨rfl, hB⟩
theorem ksU_take (key : List UInt8) (c b d n k : Nat) (h : k ≤ n) : (ksU key c b d n).take k = ksU key c b d k := by
  unfold ksU
  rw [← List.map_take, List.take_range]
  congr 2
  omega
set_option maxRecDepth 100000 in
set_option maxHeartbeats 4000000 in
theorem ctrstreams_ok (key : List UInt8) (hk : key.length = 16) (c b d : Nat) (hc : c < 2 ^ 32) (hb : b ≤ 31) (hd : d ≤ 1) (n : Nat) (hn : n ≤ 300) (less : Int) (w : World) :
    Calls Try.prog 16 #[.agg (parV key c b d), .int .i64 n, .int .i64 less] w fun e w' => e = .returned (.bool true) ∧ Below w.heap.size w w' := by
  obtain ⟨m, hm⟩ : ∃ m : Nat, (m : Int) = max 0 (min less n) := ⟨(max 0 (min less n)).toNat, by omega⟩
  have hmn : m ≤ n := by omega
  have hkey : ∀ k, k ≤ n → ∀ w, Calls Try.prog 48 #[.agg (bytesV key), .int .u32 c, .int .i64 b, .int .i64 d, .int .i64 k] w fun e w' => ∃ v', e = .returned (.tuple #[v', .int .i64 0]) ∧
      w'.ownsRow w.heap.size 5 1 v' k ((ksU key c b d k).map B) ∧ Below w.heap.size w w' := fun k hkn w => keystream_ok key hk c b d hc hb hd k (by omega) w
  have hmk := mk_any n (by omega)
  have href : ∀ (w : World) (g : Nat), Blk w g (bytesV (List.replicate n 0)) 5 → Calls Try.prog 45 #[.agg (bytesV key), .int .u32 c, .int .i64 b, .int .i64 d, .slice (some ⟨g, 0, none⟩) n n] w fun e w' => ∃ v', e = .returned v' ∧ Bsl w' v' (ksU key c b d n) ∧ Below w.heap.size w w' := fun w g h => by
    have := refcrypt_any key hk c b d hb hd _ (List.replicate n 0) w (bsl_zero (by omega) h) (by simp; omega)
    rw [cryL_zero] at this
    exact this
  obtain ⟨Z, hZ⟩ : ∃ Z, Z = bytesV (List.replicate n 0) := ⟨_, rfl⟩
  rw [← hZ] at hmk href
  clear hZ
  obtain ⟨X, hX⟩ : ∃ X, X = ksU key c b d n := ⟨_, rfl⟩
  obtain ⟨Y, hY⟩ : ∃ Y, Y = ksU key c b d m := ⟨_, rfl⟩
  have hXl := Lib.hid (show X.length = n by rw [hX, ksU_length])
  have hYl := Lib.hid (show Y.length = m by rw [hY, ksU_length])
  have hXY := Lib.hid (show X.take m = Y by rw [hX, hY, ksU_take _ _ _ _ _ _ hmn])
  have hk1 := hkey n (Nat.le_refl _)
  have hk2 := hkey m hmn
  rw [← hX] at hk1 href
  rw [← hY] at hk2
  clear hX hY hkey
  obtain ⟨C, hC⟩ : ∃ C, C = parV key c b d := ⟨_, rfl⟩
  have a0 : PBox (w.alloc (.cells C 26)) w.heap.size key c b d := ⟨by rw [hC]; exact Blk.new' rfl, hk⟩
  have hkC := Lib.hid (fun w' (h : PBox w' w.heap.size key c b d) => h.blk)
  have hB : Below w.heap.size w (w.alloc (.cells C 26)) := (Below.refl _ _).alloc (Nat.le_refl _) _
  have hkx := Lib.hid (parV_key key hk c b d)
  have hks := Lib.hid (parV_size key hk c b d)
  rw [← hC] at hkx hks hkC ⊢
  clear hC
  obtain ⟨q0, q1, q2⟩ := a0.cells
  have hni : (n : Int) ≤ 300 := by omega
  have hn0 : (0 : Int) ≤ n := by omega
  have r22 : (Try.prog.info? 22).map (·.size) = some (bytesV key).toList.length := by rw [Array.length_toList, bytesV_size, hk]; exact row22.2
  have l22 : (bytesV key).toList.length = 16 := by rw [Array.length_toList, bytesV_size, hk]
  have o22 : ∀ v ∈ (bytesV key).toList, v.oneCell' = true := fun v hv => (Array.all_eq_true_iff_forall_mem.1 (bytesV_one key)) v (by simpa using hv)
  have u22 := Try.underlying22
  have R22 := Lib.hid r22
  have U22 := Lib.hid u22
  clear r22 u22
  replace hm := Lib.hid hm
  go_enter Try.func16, Try.ntmps16
  go_wp2_with (first
    | ((with_reducible refine wpList_load_blk rfl 22 (.tmp 20) rfl w.heap.size 0 16 rfl (hkC.out _ a0) row22 ?_ (bytesV key) hkx.out ?_); (rw [hks.out]; decide))
    | (go_at_call 48; refine (hk1 _).mono ?_; rintro e w1 ⟨x, rfl, ho1, hb1⟩; replace a0 := a0.below hb1; replace hB := bnext hB hb1; (have hx1 : Bsl w1 x X := (by rw [← hXl.out] at ho1; exact bsl_own ho1)); clear ho1 hb1 q0 q1 q2; obtain ⟨q0, q1, q2⟩ := a0.cells)
    | (go_at_call 28; (with_reducible refine (valid_ok b d hb hd _).mono ?_); rintro e w5 ⟨rfl, rfl⟩)
    | fail)
  have s0 : w1.drew.rangeAt w.heap.size 0 (bytesV key).toList ∧ w1.drew.cell? ⟨w.heap.size, 16, none⟩ = some (.int .u32 c) ∧ w1.drew.cell? ⟨w.heap.size, 17, none⟩ = some (.int .i64 b) ∧ w1.drew.cell? ⟨w.heap.size, 18, none⟩ = some (.int .i64 d) := ⟨a0.read.row, q0, q1, q2⟩
  have a1 := a0.below ((Below.refl _ w1).drew.alloc (Nat.le_refl _) (.cells Z 5))
  have s1 : (w1.drew.alloc (.cells Z 5)).rangeAt w.heap.size 0 (bytesV key).toList ∧ (w1.drew.alloc (.cells Z 5)).cell? ⟨w.heap.size, 16, none⟩ = some (.int .u32 c) ∧ (w1.drew.alloc (.cells Z 5)).cell? ⟨w.heap.size, 17, none⟩ = some (.int .i64 b) ∧ (w1.drew.alloc (.cells Z 5)).cell? ⟨w.heap.size, 18, none⟩ = some (.int .i64 d) := ⟨a1.read.row, a1.cells⟩
  have hB1 := hB.drew.alloc hB.size (.cells Z 5)
  have hx2 := hx1.below ((Below.refl _ w1).drew.alloc (Nat.le_refl _) (.cells Z 5))
  have r22 := R22.out
  have u22 := U22.out
  clear q0 q1 q2
  go_wp2
  go_region_held3 (fun w' => w'.rangeAt w.heap.size 0 (bytesV key).toList ∧ w'.cell? ⟨w.heap.size, 16, none⟩ = some (.int .u32 c) ∧ w'.cell? ⟨w.heap.size, 17, none⟩ = some (.int .i64 b) ∧ w'.cell? ⟨w.heap.size, 18, none⟩ = some (.int .i64 d)) (assumption)
    (first
      | (go_at_call 45; (with_reducible refine (href _ _ ?_).mono ?_); (exact Blk.new' (by simp)); rintro e w2 ⟨y, rfl, hy, hb2⟩; have a2 := a1.below hb2; have s2 : w2.rangeAt w.heap.size 0 (bytesV key).toList ∧ w2.cell? ⟨w.heap.size, 16, none⟩ = some (.int .u32 c) ∧ w2.cell? ⟨w.heap.size, 17, none⟩ = some (.int .i64 b) ∧ w2.cell? ⟨w.heap.size, 18, none⟩ = some (.int .i64 d) := ⟨a2.read.row, a2.cells⟩; have hB2 := bnext hB1 hb2; have hx3 := hx2.below hb2)
      | (go_at_call 44; refine (bsame_any X X _ _ _ hx3 hy (by rw [hXl.out]; omega)).mono ?_; rintro e w3 ⟨rfl, hb3⟩; rw [decide_eq_true rfl]; have a3 := a2.below hb3; have s3 : w3.rangeAt w.heap.size 0 (bytesV key).toList ∧ w3.cell? ⟨w.heap.size, 16, none⟩ = some (.int .u32 c) ∧ w3.cell? ⟨w.heap.size, 17, none⟩ = some (.int .i64 b) ∧ w3.cell? ⟨w.heap.size, 18, none⟩ = some (.int .i64 d) := ⟨a3.read.row, a3.cells⟩; have hB3 := bnext hB2 hb3; have hx4 := hx3.below hb3)
      | fail)
  clear s0 s1 a0 a1 a2 hB hB1 hB2 hx1 hx2 hx3 hy hb2 hb3 r22 l22 o22 u22 href hmk
  obtain ⟨M1, hM1⟩ : ∃ M1 : Int, M1 = min less n := ⟨_, rfl⟩
  have g1 : (if (n : Int) < less then (n : Int) else less) = M1 := by rw [hM1]; split <;> omega
  have g2 : (if 0 < M1 then M1 else 0) = (m : Int) := by rw [hm.out, hM1]; split <;> omega
  have hm0 : (0 : Int) ≤ m := by omega
  have hmi : (m : Int) ≤ n := by omega
  clear hM1
  have ha3 := a3.cells
  obtain ⟨q0, q1, q2⟩ := ha3
  obtain ⟨ax, cx, rfl, h1, h2, h3, h4⟩ := hx4
  have hx4 : Bsl w3 (.slice ax X.length cx) X := ⟨ax, cx, rfl, h1, h2, h3, h4⟩
  have hxm := bsl_take m hx4 (by rw [hXl.out]; exact hmn)
  rw [hXY.out] at hxm
  rw [hXl.out] at h1
  have hmc : (m : Int) ≤ cx := by omega
  clear h2 h3 h4 hx4
  go_wp2_with (first
    | ((with_reducible refine wpList_load_blk rfl 22 (.tmp 79) rfl w.heap.size 0 16 rfl (hkC.out _ a3) row22 ?_ (bytesV key) hkx.out ?_); (rw [hks.out]; decide))
    | (go_at_call 48; refine (hk2 _).mono ?_; rintro e w4 ⟨x2, rfl, ho2, hb4⟩; replace hxm := hxm.below hb4; replace hB3 := bnext hB3 hb4; (have hx2 : Bsl w4 x2 Y := (by rw [← hYl.out] at ho2; exact bsl_own ho2)); clear ho2 hb4 q0 q1 q2)
    | (go_at_call 44; refine (bsame_any Y Y _ _ _ hx2 hxm (by rw [hYl.out]; omega)).mono ?_; rintro e w5 ⟨rfl, hb5⟩; rw [decide_eq_true rfl]; replace hB3 := bnext hB3 hb5; clear hb5)
    | (go_at_call 29; refine (known40 _).mono ?_; rintro e w6 ⟨rfl, hb6⟩; replace hB3 := bnext hB3 hb6; clear hb6)
    | fail)
  go_ret
  exact ⟨rfl, hB3⟩
theorem walk_CtrStreams (key : List UInt8) (hk : key.length = 16) (c b d : Int) (wc : (Lit.int .u32 c).wf = true) (n : Int) (wn : (Lit.int .i64 n).wf = true) (less : Int) (_wl : (Lit.int .i64 less).wf = true) (w : World) :
    Calls Try.prog 16 #[.agg (parV key c b d), .int .i64 n, .int .i64 less] w fun e w' => e = .returned (.bool true) ∧ Below w.heap.size w w' := by
  obtain ⟨c0, c1⟩ := bounds_u32' wc
  obtain ⟨c, rfl⟩ := Int.eq_ofNat_of_zero_le c0
  by_cases h : n < 0 ∨ 16384 < n
  · exact ctrstreams_out key hk c b d n less h w
  · by_cases h3 : 300 < n
    · exact ctrstreams_big _ n less h3 (by omega) w
    · obtain ⟨n, rfl⟩ := Int.eq_ofNat_of_zero_le (show 0 ≤ n by omega)
      rcases cases_par b d with ⟨b', d', rfl, rfl, hb, hd⟩ | hbad
      · exact ctrstreams_ok key hk c b' d' (by omega) hb hd n (by omega) less w
      · exact ctrstreams_bad key hk c b d hbad n (by omega) less w
end Go.Proofs.Ytdgmahgidmjniaa
