/-
  The law's helpers, walks: Load and Send on both sides, the blocks that the law writes over.
-/
import Derived.Test.YthbpmofabcilhaaHarW
set_option linter.unusedSimpArgs false
set_option linter.unusedVariables false
namespace Go.Proofs.Ythbpmofabcilhaa
open Go.RowKit
attribute [-go_sem] Instr.build

/-- A row of bytes that the law may write over. -/
structure Scr (w : World) (oA : Option Addr) (q base : Nat) : Prop where
  all : 0 < q → ∃ og Cc, oA = some ⟨og, 0, none⟩ ∧ base ≤ og ∧ Blk w og Cc 5 ∧ ∀ j, j < q → ∃ n : Int, Cc[j]? = some (.int .u8 n)
section
variable {w w' : World} {oA : Option Addr} {q base : Nat}
theorem Scr.below (h : Scr w oA q base) (hb : Below w.heap.size w w') : Scr w' oA q base := ⟨fun h0 => by
  obtain ⟨og, Cc, e, h1, h2, h3⟩ := h.all h0
  exact ⟨og, Cc, e, h1, h2.below hb h2.lt, h3⟩⟩
theorem Scr.but {b : Nat} (h : Scr w oA q base) (hb : But b w.heap.size w w') (h1 : b < base) : Scr w' oA q base := ⟨fun h0 => by
  obtain ⟨og, Cc, e, h2, h3, h4⟩ := h.all h0
  exact ⟨og, Cc, e, h2, h3.but hb h3.lt (by omega), h4⟩⟩
theorem Scr.only {g : Nat} {C : Array Value} {t : TypeId} (h : Scr w oA q base) (ho : Only g w w') (hg : Blk w g C t) (ht : 5 ≠ t) : Scr w' oA q base := ⟨fun h0 => by
  obtain ⟨og, Cc, e, h2, h3, h4⟩ := h.all h0
  refine ⟨og, Cc, e, h2, h3.only ho ?_, h4⟩
  rintro rfl
  unfold Blk at h3 hg
  rw [h3] at hg
  simp only [Option.some.injEq, Obj.cells.injEq] at hg
  exact ht hg.2.1⟩
theorem Scr.set {og : Nat} {Cc : Array Value} (hq : ∀ j, j < q → ∃ n : Int, Cc[j]? = some (.int .u8 n)) (hb : base ≤ og) (hk : Blk w og Cc 5) (i : Nat) (x : Int) : Scr (w.setCell ⟨og, i, none⟩ (.int .u8 x)) (some ⟨og, 0, none⟩) q base := ⟨fun _ =>
  ⟨og, _, rfl, hb, hk.set i _, fun j hj => by
    rw [Array.getElem?_setIfInBounds]
    obtain ⟨n, hn⟩ := hq j hj
    split
    · split
      · exact ⟨x, rfl⟩
      · rename_i h1 h2
        subst h1
        rw [Array.getElem?_eq_none (by omega)] at hn
        cases hn
    · exact ⟨n, hn⟩⟩⟩
end
theorem own_scr {w : World} {base : Nat} {v : Value} {l : List UInt8} (h : w.ownsRow base 5 1 v l.length (l.map B)) : ∃ oA oc, v = .slice oA l.length oc ∧ (oA = none → oc = 0) ∧ Byt w oA l ∧ Scr w oA l.length base ∧ (∀ og o, oA = some ⟨og, o, none⟩ → base ≤ og ∧ og < w.heap.size) := by
  have hb := bsl_own h
  obtain ⟨_, ⟨rfl, h1⟩ | ⟨g, cap, cur, rfl, hg, hh, hl, hm, hs, ht⟩⟩ := h
  · exact ⟨none, 0, by rw [h1], fun _ => rfl, by
      obtain ⟨a, c, e, _, _, _, hy⟩ := hb
      rw [h1] at e
      simp only [Value.slice.injEq] at e
      rw [← e.1] at hy; exact hy, ⟨fun h0 => by omega⟩, fun _ _ e => nomatch e⟩
  · refine ⟨_, cap, rfl, (fun e => nomatch e), ?_, ⟨fun _ => ⟨g, cur, rfl, hg, hh, fun j hj => ?_⟩⟩, fun og o e => ?_⟩
    · obtain ⟨a, c, e, _, _, _, hy⟩ := hb
      simp only [Value.slice.injEq] at e
      rw [← e.1] at hy; exact hy
    · rw [Nat.mul_one] at ht
      refine ⟨(gd l j).toNat, ?_⟩
      rw [← Array.getElem?_toList, ← List.getElem?_take_of_lt hj, ht]
      simp [gd, hj, B]
    · simp only [Option.some.injEq, Addr.mk.injEq] at e
      have := lt_of_block hh
      omega
theorem byt_but {b : Nat} {w w' : World} {a : Option Addr} {l : List UInt8} (h : Byt w a l) (k : But b w.heap.size w w') (hn : 0 < l.length → ∀ g o, a = some ⟨g, o, none⟩ → g ≠ b) : Byt w' a l := by
  intro h0
  obtain ⟨g, o, rfl, hlt, hc⟩ := h h0
  refine ⟨g, o, rfl, by have := k.size; omega, fun i hi => ?_⟩
  rw [← hc i hi]
  unfold World.cell?
  rw [k.block g hlt (hn h0 g o rfl)]
theorem tr_one (A : Option Addr) (k c : Nat) (r n : Int) (x : Bool) : (#[.slice A k c, .int .i64 r, .int .i64 n, .bool x] : Array Value).all (·.oneCell') = true := by
  rw [Array.all_eq_true_iff_forall_mem]
  intro v hv
  simp only [List.mem_toArray, List.mem_cons, List.not_mem_nil, or_false] at hv
  rcases hv with rfl | rfl | rfl | rfl <;> rfl
/-- What is written over lies apart from all else. -/
def Sep (oA : Option Addr) (b g1 g2 : Nat) (v u : Value) : Prop := ∀ og, oA = some ⟨og, 0, none⟩ → og ≠ b ∧ og ≠ g1 ∧ og ≠ g2 ∧ (∀ x, v.ownBlock = some x → x ≠ og) ∧ (∀ x, u.ownBlock = some x → x ≠ og)
theorem own_ge' {w : World} {u : Value} {m : Hq} (h : RP w u m) (x : Nat) (hx : u.ownBlock = some x) : x < w.heap.size := (World.ownsRow.lt h x hx).2
set_option maxRecDepth 100000 in
set_option maxHeartbeats 4000000 in
theorem do_load (b : Nat) (v u : Value) (m : Hq) (hm : OkH m) (t c : Int) (l : List UInt8) (a : Option Addr) (q cap : Nat) (hq : q = l.length) (w : World) (hP : HP w b v m) (hu : RP w u m) (hb : Byt w a l) (h0 : a = none → cap = 0) (hl : l.length ≤ 1000) (hap : 0 < l.length → ∀ g o, a = some ⟨g, o, none⟩ → g ≠ b) :
    Calls Try.prog 19 #[.pointer (some ⟨b, 0, none⟩), .agg (cellsR u m), .agg #[.int .i64 0, .slice a q cap, .int .i64 t, .int .i64 c]] w fun e w' => ∃ v' u', e = .returned (.tuple #[.agg (cellsR u' (loadS m l)), .bool true]) ∧ DoI w w' b v' u' (loadS m l) (loadS m l) := by
  obtain ⟨uA, uk, uc, rfl⟩ := own_form hu
  obtain ⟨Z, hZ⟩ : ∃ Z, Z = cellsR (.slice none 0 0) ⟨0, 0, [], 0, 0, 0⟩ := ⟨_, rfl⟩
  obtain ⟨C, hC⟩ : ∃ C, C = cellsR (.slice uA uk uc) m := ⟨_, rfl⟩
  have z1 := zero48'
  rw [← hZ] at z1
  have hZs := Lib.hid (show Z.size = 6 by rw [hZ]; rfl)
  have hCs := Lib.hid (show C.size = 6 by rw [hC]; rfl)
  have hCw := Lib.hid (show C.extract 0 (0 + 6) = C by rw [hC]; rfl)
  have hC1 := Lib.hid (show C.all (·.oneCell') = true by rw [hC]; exact cellsR_one _ rfl)
  have hB : Below w.heap.size w (((w.alloc (.cells C 48)).alloc (.cells #[.int .i64 0, .slice a q cap, .int .i64 t, .int .i64 c] 53)).alloc (.cells Z 48)) := below_new (below_new (below_new (Below.refl w.heap.size w) _) _) _
  have HD0 : RowKit.Hid (DoI w (((w.alloc (.cells C 48)).alloc (.cells #[.int .i64 0, .slice a q cap, .int .i64 t, .int .i64 c] 53)).alloc (.cells Z 48)) b v (.slice uA uk uc) m m) := Lib.hid ⟨hP.below hB, hu.below hB, (But.refl _ _ _).below hB (Nat.le_refl _)⟩
  have b0 : Blk (((w.alloc (.cells C 48)).alloc (.cells #[.int .i64 0, .slice a q cap, .int .i64 t, .int .i64 c] 53)).alloc (.cells Z 48)) w.heap.size C 48 := ((Blk.new' rfl).alloc _).alloc _
  have b1 : Blk (((w.alloc (.cells C 48)).alloc (.cells #[.int .i64 0, .slice a q cap, .int .i64 t, .int .i64 c] 53)).alloc (.cells Z 48)) (w.heap.size + 1) #[.int .i64 0, .slice a q cap, .int .i64 t, .int .i64 c] 53 := (Blk.new' (by simp)).alloc _
  have b2 : Blk (((w.alloc (.cells C 48)).alloc (.cells #[.int .i64 0, .slice a q cap, .int .i64 t, .int .i64 c] 53)).alloc (.cells Z 48)) (w.heap.size + 1 + 1) Z 48 := Blk.new' (by simp)
  have hbw := hP.1.lt
  have HBY := Lib.hid hb
  have H0 := Lib.hid h0
  have HL := Lib.hid hl
  have HQ := Lib.hid hq
  have HAP := Lib.hid hap
  have HM := Lib.hid hm
  have HC := Lib.hid hC
  have HP0 := Lib.hid hP
  have HU0 := Lib.hid hu
  have HB := Lib.hid hB
  rw [← hC]
  clear hZ hC hP hu hb h0 hl hap hm hq
  have d0 : (((w.alloc (.cells C 48)).alloc (.cells #[.int .i64 0, .slice a q cap, .int .i64 t, .int .i64 c] 53)).alloc (.cells Z 48)).cell? ⟨w.heap.size + 1, 0, none⟩ = some (.int .i64 0) := b1.cell 0; have d1 : (((w.alloc (.cells C 48)).alloc (.cells #[.int .i64 0, .slice a q cap, .int .i64 t, .int .i64 c] 53)).alloc (.cells Z 48)).cell? ⟨w.heap.size + 1, 1, none⟩ = some (.slice a q cap) := b1.cell 1; have d2 : (((w.alloc (.cells C 48)).alloc (.cells #[.int .i64 0, .slice a q cap, .int .i64 t, .int .i64 c] 53)).alloc (.cells Z 48)).cell? ⟨w.heap.size + 1, 2, none⟩ = some (.int .i64 t) := b1.cell 2; have d3 : (((w.alloc (.cells C 48)).alloc (.cells #[.int .i64 0, .slice a q cap, .int .i64 t, .int .i64 c] 53)).alloc (.cells Z 48)).cell? ⟨w.heap.size + 1, 3, none⟩ = some (.int .i64 c) := b1.cell 3
  obtain ⟨W0, hW0⟩ : ∃ W0, W0 = (((w.alloc (.cells C 48)).alloc (.cells #[.int .i64 0, .slice a q cap, .int .i64 t, .int .i64 c] 53)).alloc (.cells Z 48)) := ⟨_, rfl⟩
  have hsz : W0.heap.size = w.heap.size + 1 + 1 + 1 := by rw [hW0]; simp
  have hl0 : m.lim ≠ 0 := by have := HM.out.l1; omega
  have hown : ∀ W, Byt W a l → Calls Try.prog 33 #[.slice a q cap] W fun e w' => ∃ oA oc, e = .returned (.slice oA q oc) ∧ (oA = none → oc = 0) ∧ Byt w' oA l ∧ Scr w' oA q W.heap.size ∧ (∀ og o, oA = some ⟨og, o, none⟩ → W.heap.size ≤ og ∧ og < w'.heap.size) ∧ Below W.heap.size W w' := fun W hb => by
    rw [HQ.out]
    refine (own_any l a cap W hb H0.out (by have := HL.out; omega)).mono ?_
    rintro e w' ⟨v1, rfl, ho, hB'⟩
    obtain ⟨oA, oc, rfl, h1, h2, h3, h4⟩ := own_scr ho
    exact ⟨oA, oc, rfl, h1, h2, h3, h4, hB'⟩
  have hld : ∀ W oA oc, HP W b v m → Byt W oA l → (oA = none → oc = 0) → Calls Try.prog 11 #[.pointer (some ⟨b, 0, none⟩), .slice oA q oc] W fun e w' => ∃ v', e = .returned (.int .i64 (loadE m l)) ∧ HP w' b v' (loadS m l) ∧ Kept b v v' W w' := fun W oA oc h1 h2 h3 => by
    rw [HQ.out]
    exact load_any b v m l oA oc W h1 hl0 h2 h3 (by have := HL.out; omega)
  have hrl : ∀ W, RP W (.slice uA uk uc) m → Byt W a l → Calls Try.prog 34 #[.agg C, .slice a q cap] W fun e w' => ∃ u', e = .returned (.tuple #[.agg (cellsR u' (loadS m l)), .int .i64 (loadE m l)]) ∧ RP w' u' (loadS m l) ∧ (u' = .slice uA uk uc ∨ ∀ g, u'.ownBlock = some g → W.heap.size ≤ g) ∧ Below W.heap.size W w' := fun W h1 h2 => by
    rw [HQ.out, HC.out]
    exact rload_any (.slice uA uk uc) m l a cap W h1 h2 H0.out HL.out
  obtain ⟨E, hE⟩ : ∃ E, E = (loadE m l : Int) := ⟨_, rfl⟩
  obtain ⟨m1, hm1⟩ : ∃ m1, m1 = loadS m l := ⟨_, rfl⟩
  have hok : OkH m1 := by rw [hm1]; exact okH_load HM.out l HL.out
  rw [← hE, ← hm1] at hrl
  simp only [← hE, ← hm1] at hld
  rw [← hm1]
  rw [← hW0] at HD0 b0 b1 b2 HB
  have HW0 := Lib.hid hW0
  have HOK := Lib.hid hok
  replace hown := Lib.hid hown
  replace hld := Lib.hid hld
  replace hrl := Lib.hid hrl
  have e1 : (E == E) = true := by simp
  have HB0 := Lib.hid b0
  have HB1 := Lib.hid b1
  have HB2 := Lib.hid b2
  have hq1000 : q ≤ 1000 := by have := HL.out; have := HQ.out; omega
  clear hW0 hE hm1 hok hB b0 b1 b2
  go_enter Try.func19, Try.ntmps19
  go_wp2_with (first
    | (go_at_call 33; rw [← HW0.out]; (with_reducible refine (hown.out _ (HBY.out.cells HB.out)).mono ?_); rintro e w1 ⟨oA, oc, rfl, ho0, hoy, hos, hof, hB1⟩; have hp1 := HD0.out.p.below hB1; have HP1 := Lib.hid hp1; have HO0 := Lib.hid ho0; have HOY := Lib.hid hoy; have HOS := Lib.hid hos; have HOF := Lib.hid hof; have HB1' := Lib.hid hB1; have hsz1 := hB1.size; clear hp1 ho0 hoy hos hof hB1)
    | (go_at_call 11; (with_reducible refine (hld.out _ _ _ HP1.out HOY.out HO0.out).mono ?_); rintro e w2 ⟨v', rfl, hp2, hk2⟩; have HP2 := Lib.hid hp2; have HK2 := Lib.hid hk2; have r2 : RP w2 (.slice uA uk uc) m := own_but (own_below HD0.out.r HB1'.out) hk2.1 (own_ne_blk (own_below HD0.out.r HB1'.out) HP1.out.1 (by decide)); have R2 := Lib.hid r2; have a0 := (HB0.out.below HB1'.out HB0.out.lt).but hk2.1 (by have := HB0.out.lt; omega) (by omega); have a1 := (HB1.out.below HB1'.out HB1.out.lt).but hk2.1 (by have := HB1.out.lt; omega) (by omega); have a2 := (HB2.out.below HB1'.out HB2.out.lt).but hk2.1 (by have := HB2.out.lt; omega) (by omega); have x0 : w2.cell? ⟨w.heap.size + 1, 0, none⟩ = some (.int .i64 0) := a1.cell 0; have x1 : w2.cell? ⟨w.heap.size + 1, 1, none⟩ = some (.slice a q cap) := a1.cell 1; have x2 : w2.cell? ⟨w.heap.size + 1, 2, none⟩ = some (.int .i64 t) := a1.cell 2; have x3 : w2.cell? ⟨w.heap.size + 1, 3, none⟩ = some (.int .i64 c) := a1.cell 3; have A2 := Lib.hid a2; have hsz2 := hk2.1.size; have HY2 := Lib.hid (byt_but (HBY.out.cells (bnext HB.out HB1'.out)) hk2.1 HAP.out); have HS2 := Lib.hid (HOS.out.but hk2.1 (by omega)); clear hp2 hk2 r2 a1 a2)
    | (with_reducible refine wpList_load_blk rfl 48 _ rfl w.heap.size 0 6 rfl a0 row48 (by rw [hCs.out]; exact Nat.le_refl 6) C hCw.out ?_)
    | (go_at_call 34; (with_reducible refine (hrl.out _ R2.out HY2.out).mono ?_); rintro e w3 ⟨u', rfl, hr3, hun, hB3⟩; obtain ⟨R, hR⟩ : ∃ R, R = cellsR u' m1 := ⟨_, rfl⟩
       rw [← hR]; have hRs := Lib.hid (show R.size = 6 by rw [hR]; rfl); have hR1 := Lib.hid (show R.all (·.oneCell') = true by rw [hR]; exact cellsR_one _ (own_slice hr3).2); have HR := Lib.hid hR; have HR3 := Lib.hid hr3; have HUN := Lib.hid hun; have HB3 := Lib.hid hB3; have A3 := Lib.hid (A2.out.below hB3 A2.out.lt); have hsz3 := hB3.size; have kz : Blk (w3.alloc (.cells Z 48)) w3.heap.size Z 48 := Blk.new' rfl
       clear hr3 hB3 hR a0 hun)
    | ((with_reducible refine wpList_store_blk rfl 48 _ _ rfl w3.heap.size 0 6 R rfl rfl kz row48 hRs.out (by rw [hZs.out]; exact Nat.le_refl 6) hR1.out ?_); intro w4 hb4 ho4; rw [splice_full _ _ (by rw [hZs.out, hRs.out])] at hb4))
  have kg := (A3.out.alloc (.cells Z 48)).only ho4 (by have := A3.out.lt; omega)
  have D2 : DoI w w2 b v' (.slice uA uk uc) m1 m := ⟨HP2.out, R2.out, (HD0.out.k.below HB1'.out (by omega)).trans ⟨HK2.out.1.os, HK2.out.1.tape, HK2.out.1.output, HK2.out.1.size, fun i hi hn => HK2.out.1.block i (by omega) hn⟩⟩
  have D3 : DoI w w3 b v' u' m1 m1 := ⟨HP2.out.below HB3.out, HR3.out, D2.k.below HB3.out (by omega)⟩
  have D4 : RowKit.Hid (DoI w w4 b v' u' m1 m1) := Lib.hid ((D3.below (alloc_below _ _)).store ho4 kz (by decide) (by omega) hbw)
  have S4 : RowKit.Hid (Scr w4 oA q W0.heap.size) := Lib.hid (((HS2.out.below HB3.out).below (alloc_below _ (.cells Z 48))).only ho4 kz (by decide))
  have HSEP : RowKit.Hid (Sep oA b w3.heap.size (w.heap.size + 1 + 1) v' u') := Lib.hid (fun og e => by
    obtain ⟨f1, f2⟩ := HOF.out og 0 e
    refine ⟨by omega, by omega, by omega, fun x hx => ?_, fun x hx => ?_⟩
    · rcases HK2.out.2 with rfl | hv
      · have := (HP0.out.2.lt x hx).2; omega
      · have := hv x hx; omega
    · rcases HUN.out with rfl | hv
      · have := (own_ge' HU0.out x hx); omega
      · have := hv x hx; omega)
  have hne0 : w.heap.size + 1 + 1 ≠ w3.heap.size := by omega
  have K4 := Lib.hid hb4
  have G4 := Lib.hid kg
  have hW0w : w.heap.size ≤ W0.heap.size := by omega
  clear D2 D3 hb4 ho4 kz kg hld hrl hown d0 d1 d2 d3 x0 x1 x2 x3
  generalize w3.heap.size = gr at *
  go_loopw [12] (fun t wr => ∃ k : Nat, k ≤ q ∧ t = .int .i64 k ∧ DoI w wr b v' u' m1 m1 ∧ Blk wr gr R 48 ∧ Blk wr (w.heap.size + 1 + 1) Z 48 ∧ Scr wr oA q W0.heap.size) (fun t _ => q - (intOf t).toNat)
  case atStart => exact ⟨0, by omega, rfl, D4.out, K4.out, G4.out, S4.out⟩
  case round =>
    clear D4 K4 G4 S4
    obtain ⟨k, hk, rfl, hD, hK, hG, hS⟩ := hrel
    have DI := Lib.hid hD
    have KR := Lib.hid hK
    have KG := Lib.hid hG
    clear hD hK hG
    by_cases hlt : k < q
    · obtain ⟨og, Cc, rfl, hob, hcc, hcn⟩ := hS.all (by omega)
      obtain ⟨n, hn⟩ := hcn k hlt
      obtain ⟨p1, p2, p3, p4, p5⟩ := HSEP.out og rfl
      have c0 := (hcc.cell k).trans hn
      have f0 := hcc.frozen k
      have HN := Lib.hid (fun x => Scr.set (base := W0.heap.size) hcn hob hcc k x)
      clear hcn hn hS hcc
      go_wp2
      refine ⟨⟨k + 1, by omega, by go_num, DI.out.only (Only.setCell wr k _) (Ne.symm p1) p4 p5 (by omega), KR.out.set_other (by show gr ≠ og; omega) _, KG.out.set_other (by show w.heap.size + 1 + 1 ≠ og; omega) _, HN.out _⟩, by simp [intOf]; omega⟩
    · obtain rfl : q = k := by omega
      clear hlt hk hS
      have kr := KR.out
      have kg := KG.out
      have hne := hne0
      clear KR KG
      go_wp2
      obtain ⟨gg, hgg⟩ : ∃ gg, gg = w.heap.size + 1 + 1 := ⟨_, rfl⟩
      have hgrg : gg ≠ gr := by rw [hgg]; exact hne
      rw [← hgg] at kg ⊢
      replace hgg := Lib.hid hgg
      have HAG := Lib.hid (fun WW h => agrees_any b (v') (u') (m1) HOK.out WW h)
      rw [← HR.out] at HAG
      have DD : RowKit.Hid (DoI w wr.drew b (v') (u') (m1) (m1)) := Lib.hid DI.out.drew
      have s0 : Blk wr.drew gr R 48 := kr.drew
      have t8 : Blk wr.drew gg Z 48 := kg.drew
      clear kg hne
      refine wp_region_held_drew (S := fun W' => Blk W' gr R 48) (by kernel_rfl) s0 (fun hHeld => ?_)
      generalize wr.drew = W7 at *
      refine wpAnyH_takeD 0 (some 59) (v := (.agg (R))) rfl rfl (by kernel_rfl) (by kernel_rfl) (by kernel_rfl) (fun _ _ _ h => h) (yieldsIf_load_blk rfl 48 _ rfl (gr) 6 (R) 48 rfl (fun _ h => h) row48 (hRs.out)) (by assumption) ?_; try simp only [Act.put, List.setIfInBounds_toArray, List.set_cons_zero, List.set_cons_succ, Array.toArray_toList]
      refine wpAnyH_takeD 1 (some 60) (v := (.int .i64 E)) rfl rfl (by kernel_rfl) (by kernel_rfl) (by kernel_rfl) (fun _ _ _ h => h) (yieldsIf_calc rfl (fun w => by unfold execOp; go_simp)) (by assumption) ?_; try simp only [Act.put, List.setIfInBounds_toArray, List.set_cons_zero, List.set_cons_succ, Array.toArray_toList]
      refine wpAnyH_takeD 2 (some 61) (v := (.int .i64 E)) rfl rfl (by kernel_rfl) (by kernel_rfl) (by kernel_rfl) (fun _ _ _ h => h) (yieldsIf_calc rfl (fun w => by unfold execOp; go_simp)) (by assumption) ?_; try simp only [Act.put, List.setIfInBounds_toArray, List.set_cons_zero, List.set_cons_succ, Array.toArray_toList]
      refine wpAnyH_takeD 3 (some 62) (v := (.bool true)) rfl rfl (by kernel_rfl) (by kernel_rfl) (by kernel_rfl) (fun _ _ _ h => h) (yieldsIf_calc rfl (fun w => by unfold execOp; go_simp)) (by assumption) ?_; try simp only [Act.put, List.setIfInBounds_toArray, List.set_cons_zero, List.set_cons_succ, Array.toArray_toList]
      refine wpAnyH_takeD 4 (some 63) (v := (.bool true)) rfl rfl (by kernel_rfl) (by kernel_rfl) (by kernel_rfl) (fun _ _ _ h => h) (yieldsIf_calc rfl (fun w => by unfold execOp; go_simp)) (by assumption) ?_; try simp only [Act.put, List.setIfInBounds_toArray, List.set_cons_zero, List.set_cons_succ, Array.toArray_toList]
      refine wpAnyH_takeD 5 (some 64) (v := (.pointer (some ⟨b, 0, none⟩))) rfl rfl (by kernel_rfl) (by kernel_rfl) (by kernel_rfl) (fun _ _ _ h => h) (yieldsIf_calc rfl (fun w => by unfold execOp; go_simp)) (by assumption) ?_; try simp only [Act.put, List.setIfInBounds_toArray, List.set_cons_zero, List.set_cons_succ, Array.toArray_toList]
      refine wpAnyH_takeD 6 (some 65) (v := (.agg (R))) rfl rfl (by kernel_rfl) (by kernel_rfl) (by kernel_rfl) (fun _ _ _ h => h) (yieldsIf_load_blk rfl 48 _ rfl (gr) 6 (R) 48 rfl (fun _ h => h) row48 (hRs.out)) (by assumption) ?_; try simp only [Act.put, List.setIfInBounds_toArray, List.set_cons_zero, List.set_cons_succ, Array.toArray_toList]
      refine wpAnyH_one 7 rfl (by kernel_rfl) (fun K' hK' => ?_)
      go_simp
      (go_at_call 18; (with_reducible refine (HAG.out _ DD.out.p.1).mono ?_); rintro e w9 ⟨rfl, hw9⟩; have s9 := s0.below hw9 s0.lt; replace DD := Lib.hid (DD.out.below hw9); have t9 := t8.below hw9 t8.lt)
      go_wp2
      refine hK'.out _ _ (s9) ?_; clear hK' K'; try simp only [Act.put, List.setIfInBounds_toArray, List.set_cons_zero, List.set_cons_succ, Array.toArray_toList]
      refine wpAnyH_takeD 8 (some 67) (v := (.bool true)) rfl rfl (by kernel_rfl) (by kernel_rfl) (by kernel_rfl) (fun _ _ _ h => h) (yieldsIf_calc rfl (fun w => by unfold execOp; go_simp)) (by assumption) ?_; try simp only [Act.put, List.setIfInBounds_toArray, List.set_cons_zero, List.set_cons_succ, Array.toArray_toList]
      refine wpAnyH_one 9 rfl (by kernel_rfl) (fun K' hK' => ?_)
      refine ite_go rfl ?_
      refine wp_store_blk none rfl 48 _ _ rfl gg 0 6 R rfl rfl t9 row48 hRs.out (by rw [hZs.out]; exact Nat.le_refl 6) hR1.out ?_
      intro w10 hb10 ho10; rw [splice_full _ _ (by rw [hZs.out, hRs.out])] at hb10
      have s10 := s9.only ho10 (Ne.symm hgrg)
      refine hK'.out _ _ (s10) ?_; clear hK' K'; try simp only [Act.put, List.setIfInBounds_toArray, List.set_cons_zero, List.set_cons_succ, Array.toArray_toList]
      refine wpAnyH_takeD 10 (some 7) (v := (.bool true)) rfl rfl (by kernel_rfl) (by kernel_rfl) (by kernel_rfl) (fun _ _ _ h => h) (yieldsIf_calc rfl (fun w => by unfold execOp; go_simp)) (by assumption) ?_; try simp only [Act.put, List.setIfInBounds_toArray, List.set_cons_zero, List.set_cons_succ, Array.toArray_toList]
      refine wpAnyH_done (by kernel_rfl) ?_ _
      go_wp2
      refine bodyPost_ret (results_blk_tmp rfl _ _ gg R 48 6 _ rfl rfl hb10 row48 hRs.out) rfl ?_
      exact ⟨_, _, by rw [HR.out]; rfl, DD.out.store ho10 t9 (by decide) (by have := hgg.out; omega) hbw⟩
set_option maxRecDepth 100000 in
set_option maxHeartbeats 4000000 in
theorem do_send1 (b : Nat) (v u : Value) (m : Hq) (hm : OkH m) (t c : Int) (l : List UInt8) (a : Option Addr) (q cap : Nat) (hq : q = l.length) (w : World) (hP : HP w b v m) (hu : RP w u m) (hb : Byt w a l) (h0 : a = none → cap = 0) (hl : l.length ≤ 1000) (hap : 0 < l.length → ∀ g o, a = some ⟨g, o, none⟩ → g ≠ b) (hE : sendE m t = 0) :
    Calls Try.prog 19 #[.pointer (some ⟨b, 0, none⟩), .agg (cellsR u m), .agg #[.int .i64 1, .slice a q cap, .int .i64 t, .int .i64 c]] w fun e w' => ∃ v' u', e = .returned (.tuple #[.agg (cellsR u' (sendS m t)), .bool true]) ∧ DoI w w' b v' u' (sendS m t) (sendS m t) := by
  obtain ⟨uA, uk, uc, rfl⟩ := own_form hu
  obtain ⟨Z, hZ⟩ : ∃ Z, Z = cellsR (.slice none 0 0) ⟨0, 0, [], 0, 0, 0⟩ := ⟨_, rfl⟩
  obtain ⟨C, hC⟩ : ∃ C, C = cellsR (.slice uA uk uc) m := ⟨_, rfl⟩
  have z1 := zero48'
  rw [← hZ] at z1
  have hZs := Lib.hid (show Z.size = 6 by rw [hZ]; rfl)
  have hCs := Lib.hid (show C.size = 6 by rw [hC]; rfl)
  have hCw := Lib.hid (show C.extract 0 (0 + 6) = C by rw [hC]; rfl)
  have hC1 := Lib.hid (show C.all (·.oneCell') = true by rw [hC]; exact cellsR_one _ rfl)
  have hB : Below w.heap.size w (((w.alloc (.cells C 48)).alloc (.cells #[.int .i64 1, .slice a q cap, .int .i64 t, .int .i64 c] 53)).alloc (.cells Z 48)) := below_new (below_new (below_new (Below.refl w.heap.size w) _) _) _
  have HD0 : RowKit.Hid (DoI w (((w.alloc (.cells C 48)).alloc (.cells #[.int .i64 1, .slice a q cap, .int .i64 t, .int .i64 c] 53)).alloc (.cells Z 48)) b v (.slice uA uk uc) m m) := Lib.hid ⟨hP.below hB, hu.below hB, (But.refl _ _ _).below hB (Nat.le_refl _)⟩
  have b0 : Blk (((w.alloc (.cells C 48)).alloc (.cells #[.int .i64 1, .slice a q cap, .int .i64 t, .int .i64 c] 53)).alloc (.cells Z 48)) w.heap.size C 48 := ((Blk.new' rfl).alloc _).alloc _
  have b1 : Blk (((w.alloc (.cells C 48)).alloc (.cells #[.int .i64 1, .slice a q cap, .int .i64 t, .int .i64 c] 53)).alloc (.cells Z 48)) (w.heap.size + 1) #[.int .i64 1, .slice a q cap, .int .i64 t, .int .i64 c] 53 := (Blk.new' (by simp)).alloc _
  have b2 : Blk (((w.alloc (.cells C 48)).alloc (.cells #[.int .i64 1, .slice a q cap, .int .i64 t, .int .i64 c] 53)).alloc (.cells Z 48)) (w.heap.size + 1 + 1) Z 48 := Blk.new' (by simp)
  have hbw := hP.1.lt
  have HBY := Lib.hid hb
  have H0 := Lib.hid h0
  have HL := Lib.hid hl
  have HQ := Lib.hid hq
  have HAP := Lib.hid hap
  have HM := Lib.hid hm
  have HC := Lib.hid hC
  have HP0 := Lib.hid hP
  have HU0 := Lib.hid hu
  have HB := Lib.hid hB
  rw [← hC]
  clear hZ hC hP hu hb h0 hl hap hm hq
  have d0 : (((w.alloc (.cells C 48)).alloc (.cells #[.int .i64 1, .slice a q cap, .int .i64 t, .int .i64 c] 53)).alloc (.cells Z 48)).cell? ⟨w.heap.size + 1, 0, none⟩ = some (.int .i64 1) := b1.cell 0; have d1 : (((w.alloc (.cells C 48)).alloc (.cells #[.int .i64 1, .slice a q cap, .int .i64 t, .int .i64 c] 53)).alloc (.cells Z 48)).cell? ⟨w.heap.size + 1, 1, none⟩ = some (.slice a q cap) := b1.cell 1; have d2 : (((w.alloc (.cells C 48)).alloc (.cells #[.int .i64 1, .slice a q cap, .int .i64 t, .int .i64 c] 53)).alloc (.cells Z 48)).cell? ⟨w.heap.size + 1, 2, none⟩ = some (.int .i64 t) := b1.cell 2; have d3 : (((w.alloc (.cells C 48)).alloc (.cells #[.int .i64 1, .slice a q cap, .int .i64 t, .int .i64 c] 53)).alloc (.cells Z 48)).cell? ⟨w.heap.size + 1, 3, none⟩ = some (.int .i64 c) := b1.cell 3
  obtain ⟨W0, hW0⟩ : ∃ W0, W0 = (((w.alloc (.cells C 48)).alloc (.cells #[.int .i64 1, .slice a q cap, .int .i64 t, .int .i64 c] 53)).alloc (.cells Z 48)) := ⟨_, rfl⟩
  have hsz : W0.heap.size = w.heap.size + 1 + 1 + 1 := by rw [hW0]; simp
  obtain ⟨q1, hq1⟩ : ∃ q1, q1 = m.blk.length := ⟨_, rfl⟩
  obtain ⟨r, hr⟩ : ∃ r : Int, r = (verF m.num : Int) := ⟨_, rfl⟩
  obtain ⟨n, hnn⟩ : ∃ n : Int, n = (m.num : Int) := ⟨_, rfl⟩
  obtain ⟨x, hxx⟩ : ∃ x : Bool, x = decide (m.num = 0) := ⟨_, rfl⟩
  have hfs : ∀ W, HP W b v m → Calls Try.prog 12 #[.pointer (some ⟨b, 0, none⟩), .int .i64 t] W fun e w' => ∃ tA tc, e = .returned (.tuple #[.agg #[.slice tA q1 tc, .int .i64 r, .int .i64 n, .bool x], .int .i64 (sendE m t)]) ∧ Bsl w' (.slice tA q1 tc) m.blk ∧ Scr w' tA q1 W.heap.size ∧ (∀ og o, tA = some ⟨og, o, none⟩ → W.heap.size ≤ og ∧ og < w'.heap.size) ∧ HP w' b v (sendS m t) ∧ Kept b v v W w' := fun W h => by
    refine (fsend_any b v m t W h HM.out).mono ?_
    rintro e w' ⟨u1, l1, rfl, ho, hl1, h1, h2⟩
    rw [if_pos hE] at hl1
    subst hl1
    obtain ⟨tA, tc, rfl, _, _, g3, g4⟩ := own_scr ho
    have hbs := bsl_own ho
    refine ⟨tA, tc, ?_, by rw [hq1]; exact hbs, by rw [hq1]; exact g3, g4, h1, h2⟩
    unfold sendT trV
    rw [if_pos hE, hr, hnn, hxx, hq1]
  have hsT : sendT (.slice uA uk uc) m t = #[.slice uA uk uc, .int .i64 r, .int .i64 n, .bool x] := by unfold sendT trV; rw [if_pos hE, hr, hnn, hxx]
  have hqb : q1 ≤ 1000 := by rw [hq1]; exact HM.out.blk
  have hrs := rsend_any uA uk uc m t HM.out.now
  rw [hsT, ← HC.out] at hrs
  obtain ⟨E, hEE⟩ : ∃ E, E = sendE m t := ⟨_, rfl⟩
  obtain ⟨m1, hm1⟩ : ∃ m1, m1 = sendS m t := ⟨_, rfl⟩
  have hok : OkH m1 := by rw [hm1]; exact okH_send HM.out t
  have hblk : m1.blk = m.blk := by rw [hm1]; unfold sendS m1F; split; rfl; split <;> rfl
  rw [← hEE, ← hm1] at hrs
  simp only [← hEE, ← hm1] at hfs
  rw [← hm1]
  obtain ⟨R, hR⟩ : ∃ R, R = cellsR (.slice uA uk uc) m1 := ⟨_, rfl⟩
  rw [← hR] at hrs
  have hRs := Lib.hid (show R.size = 6 by rw [hR]; rfl)
  have hR1 := Lib.hid (show R.all (·.oneCell') = true by rw [hR]; exact cellsR_one _ rfl)
  have HR := Lib.hid hR
  have hbs := fun W v1 h1 h2 => rsame_eq m.blk v1 (.slice uA uk uc) r n x W h1 h2
  obtain ⟨T0, hT0⟩ : ∃ T0, T0 = trZ := ⟨_, rfl⟩
  have z2 : ∀ w, (zeroValue 32).run Try.prog w = .ok (.agg T0) w := by rw [hT0]; exact (zero_of_info zero32).1
  have hTs := Lib.hid (show T0.size = 4 by rw [hT0]; rfl)
  rw [← hW0] at HD0 b0 b1 b2 HB
  have HW0 := Lib.hid hW0
  have HOK := Lib.hid hok
  have HBK := Lib.hid hblk
  replace hfs := Lib.hid hfs
  replace hrs := Lib.hid hrs
  replace hbs := Lib.hid hbs
  replace hE := Lib.hid hE
  have e1 : (E == E) = true := by simp
  have HB0 := Lib.hid b0
  have HB1 := Lib.hid b1
  have HB2 := Lib.hid b2
  clear hW0 hEE hm1 hok hB b0 b1 b2 hR hT0 hsT hr hnn hxx hq1 hblk
  go_enter Try.func19, Try.ntmps19
  go_wp2_with (first
    | (go_at_call 12; rw [← HW0.out]; (with_reducible refine (hfs.out _ HD0.out.p).mono ?_); rintro e w1 ⟨tA, tc, rfl, htb, hts, htf, hp1, hk1⟩; have HP1 := Lib.hid hp1; have HK1 := Lib.hid hk1; have HTB := Lib.hid htb; have HTS := Lib.hid hts; have HTF := Lib.hid htf; have r1 : RP w1 (.slice uA uk uc) m := own_but HD0.out.r hk1.1 (own_ne_blk HD0.out.r HD0.out.p.1 (by decide)); have R1 := Lib.hid r1; have a0 := HB0.out.but hk1.1 HB0.out.lt (by omega); have a1 := HB1.out.but hk1.1 HB1.out.lt (by omega); have a2 := HB2.out.but hk1.1 HB2.out.lt (by omega); have A0 := Lib.hid a0; have A1 := Lib.hid a1; have A2 := Lib.hid a2; have hsz1 := hk1.1.size; have kt : Blk (w1.alloc (.cells T0 32)) w1.heap.size T0 32 := Blk.new' rfl
       have hV1 := Lib.hid (show (#[.slice tA q1 tc, .int .i64 r, .int .i64 n, .bool x] : Array Value).all (·.oneCell') = true from tr_one _ _ _ _ _ _); have hVs := Lib.hid (show (#[.slice tA q1 tc, .int .i64 r, .int .i64 n, .bool x] : Array Value).size = 4 from rfl); have hVw := Lib.hid (show (#[.slice tA q1 tc, .int .i64 r, .int .i64 n, .bool x] : Array Value).extract 0 (0 + 4) = #[.slice tA q1 tc, .int .i64 r, .int .i64 n, .bool x] from rfl)
       clear hp1 hk1 htb hts htf r1 a0 a1 a2)
    | ((with_reducible refine wpList_store_blk rfl 32 _ _ rfl w1.heap.size 0 4 #[.slice tA q1 tc, .int .i64 r, .int .i64 n, .bool x] rfl rfl kt row32 hVs.out (by rw [hTs.out]; exact Nat.le_refl 4) hV1.out ?_); intro w2 hb2 ho2; rw [splice_full _ _ (by rw [hTs.out, hVs.out])] at hb2; have KT := Lib.hid hb2; have a0 := (A0.out.alloc (.cells T0 32)).only ho2 (by have := A0.out.lt; omega); have a1 := (A1.out.alloc (.cells T0 32)).only ho2 (by have := A1.out.lt; omega); have hB12 : Below w1.heap.size w1 w2 := below_only (alloc_below w1 (.cells T0 32)) ho2 (Nat.le_refl _); have A2' := Lib.hid (A2.out.below hB12 A2.out.lt); have HB12 := Lib.hid hB12; have hsz2 := hb2.lt; have x2 : w2.cell? ⟨w.heap.size + 1, 2, none⟩ = some (.int .i64 t) := a1.cell 2; clear hb2 ho2 hB12 a1)
    | (with_reducible refine wpList_load_blk rfl 48 _ rfl w.heap.size 0 6 rfl a0 row48 (by rw [hCs.out]; exact Nat.le_refl 6) C hCw.out ?_)
    | (go_at_call 35; (with_reducible refine (hrs.out _).mono ?_); rintro e w3 ⟨rfl, hB3⟩; have HB3 := Lib.hid hB3; have hsz3 := hB3.size; have ky : Blk ((w3.alloc (.cells Z 48)).alloc (.cells T0 32)) w3.heap.size Z 48 := (Blk.new' rfl).alloc _
       have kx : Blk ((w3.alloc (.cells Z 48)).alloc (.cells T0 32)) (w3.heap.size + 1) T0 32 := Blk.new' (by simp)
       have hU1 := Lib.hid (show (#[.slice uA uk uc, .int .i64 r, .int .i64 n, .bool x] : Array Value).all (·.oneCell') = true from tr_one _ _ _ _ _ _); have hUs := Lib.hid (show (#[.slice uA uk uc, .int .i64 r, .int .i64 n, .bool x] : Array Value).size = 4 from rfl); have hUw := Lib.hid (show (#[.slice uA uk uc, .int .i64 r, .int .i64 n, .bool x] : Array Value).extract 0 (0 + 4) = #[.slice uA uk uc, .int .i64 r, .int .i64 n, .bool x] from rfl)
       clear hB3 a0 x2)
    | ((with_reducible refine wpList_store_blk rfl 48 _ _ rfl w3.heap.size 0 6 R rfl rfl ky row48 hRs.out (by rw [hZs.out]; exact Nat.le_refl 6) hR1.out ?_); intro w4 hb4 ho4; rw [splice_full _ _ (by rw [hZs.out, hRs.out])] at hb4; have kx2 := kx.only ho4 (by omega); have HO4 := Lib.hid ho4; have KR4 := Lib.hid hb4; clear hb4 ho4)
    | ((with_reducible refine wpList_store_blk rfl 32 _ _ rfl (w3.heap.size + 1) 0 4 #[.slice uA uk uc, .int .i64 r, .int .i64 n, .bool x] rfl rfl kx2 row32 hUs.out (by rw [hTs.out]; exact Nat.le_refl 4) hU1.out ?_); intro w5 hb5 ho5; rw [splice_full _ _ (by rw [hTs.out, hUs.out])] at hb5; have hB35 : Below w3.heap.size w3 w5 := below_only (below_only ((alloc_below w3 (.cells Z 48)).alloc (by simp) (.cells T0 32)) HO4.out (Nat.le_refl _)) ho5 (Nat.le_succ _); have HB35 := Lib.hid hB35; have K13 := ((KT.out.below HB3.out KT.out.lt).below hB35 (by have := KT.out.lt; omega)); have K16 := hb5; have KR5 := Lib.hid (KR4.out.only ho5 (by omega)); have kt5 := (HTB.out.below HB12.out).below HB3.out; have hU5 := (bsl_own R1.out).below HB12.out; have HT5 := Lib.hid (kt5.below hB35); have HU5 := Lib.hid ((hU5.below HB3.out).below hB35); have y0 : w5.cell? ⟨w1.heap.size, 0, none⟩ = some (.slice tA q1 tc) := K13.cell 0; have y1 : w5.cell? ⟨w1.heap.size, 1, none⟩ = some (.int .i64 r) := K13.cell 1; have y2 : w5.cell? ⟨w1.heap.size, 2, none⟩ = some (.int .i64 n) := K13.cell 2; have y3 : w5.cell? ⟨w1.heap.size, 3, none⟩ = some (.bool x) := K13.cell 3; have v0 : w5.cell? ⟨w3.heap.size + 1, 0, none⟩ = some (.slice uA uk uc) := K16.cell 0; have v1 : w5.cell? ⟨w3.heap.size + 1, 1, none⟩ = some (.int .i64 r) := K16.cell 1; have v2 : w5.cell? ⟨w3.heap.size + 1, 2, none⟩ = some (.int .i64 n) := K16.cell 2; have v3 : w5.cell? ⟨w3.heap.size + 1, 3, none⟩ = some (.bool x) := K16.cell 3; clear hb5 ho5 hB35 kt5 hU5)
    | (go_at_call 24; (with_reducible refine (hbs.out _ (.slice tA q1 tc) HT5.out HU5.out).mono ?_); rintro e w6 ⟨rfl, hB6⟩; have HB6 := Lib.hid hB6; have hsz6 := hB6.size; have K13' := Lib.hid (K13.below hB6 K13.lt); clear hB6 K13 K16 y0 y1 y2 y3 v0 v1 v2 v3))
  have hsz5 := HB35.out.size
  have hB26 : Below w2.heap.size w2 w6 := (HB3.out.trans (HB35.out.mono (by omega))).trans (HB6.out.mono (by omega))
  have hB16 : Below w1.heap.size w1 w6 := HB12.out.trans (hB26.mono (by have := HB12.out.size; omega))
  have DI0 : DoI w w1 b v (.slice uA uk uc) m1 m1 := ⟨HP1.out, by unfold RP; rw [HBK.out]; exact R1.out, HD0.out.k.trans ⟨HK1.out.1.os, HK1.out.1.tape, HK1.out.1.output, HK1.out.1.size, fun i hi hn => HK1.out.1.block i (by omega) hn⟩⟩
  have D4 : RowKit.Hid (DoI w w6 b v (.slice uA uk uc) m1 m1) := Lib.hid (DI0.below hB16)
  have S4 : RowKit.Hid (Scr w6 tA q1 W0.heap.size) := Lib.hid (HTS.out.below hB16)
  have K4 : RowKit.Hid (Blk w6 w3.heap.size R 48) := Lib.hid (KR5.out.below HB6.out KR5.out.lt)
  have G4 : RowKit.Hid (Blk w6 (w.heap.size + 1 + 1) Z 48) := Lib.hid (A2'.out.below hB26 A2'.out.lt)
  have HSEP : RowKit.Hid (Sep tA b w3.heap.size (w.heap.size + 1 + 1) v (.slice uA uk uc) ∧ ∀ og, tA = some ⟨og, 0, none⟩ → og ≠ w1.heap.size) := Lib.hid ⟨fun og e => by
    obtain ⟨f1, f2⟩ := HTF.out og 0 e
    refine ⟨by omega, by omega, by omega, fun x hx => ?_, fun x hx => ?_⟩
    · have := (HP0.out.2.lt x hx).2; omega
    · have := (own_ge' HU0.out x hx); omega, fun og e => by
    obtain ⟨f1, f2⟩ := HTF.out og 0 e
    omega⟩
  have hne0 : w.heap.size + 1 + 1 ≠ w3.heap.size := by omega
  have hg13b : w.heap.size + 1 + 1 ≠ w1.heap.size := by omega
  have hW0w : w.heap.size ≤ W0.heap.size := by omega
  clear DI0 ky kx kx2 kt d0 d1 d2 d3 hfs hrs hbs hB26 hB16
  generalize w3.heap.size = gr at *
  generalize w1.heap.size = gt at *
  go_loopw [19] (fun t wr => ∃ k : Nat, k ≤ q1 ∧ t = .int .i64 k ∧ DoI w wr b v (.slice uA uk uc) m1 m1 ∧ Blk wr gr R 48 ∧ Blk wr (w.heap.size + 1 + 1) Z 48 ∧ Blk wr gt #[.slice tA q1 tc, .int .i64 r, .int .i64 n, .bool x] 32 ∧ Scr wr tA q1 W0.heap.size) (fun t _ => q1 - (intOf t).toNat)
  case atStart => exact ⟨0, by omega, rfl, D4.out, K4.out, G4.out, K13'.out, S4.out⟩
  case round =>
    clear D4 K4 G4 S4 K13'
    obtain ⟨k, hk, rfl, hD, hK, hG, hTt, hS⟩ := hrel
    have DI := Lib.hid hD
    have KR := Lib.hid hK
    have KG := Lib.hid hG
    have t0 : wr.cell? ⟨gt, 0, none⟩ = some (.slice tA q1 tc) := hTt.cell 0
    have KT2 := Lib.hid hTt
    clear hD hK hG hTt
    by_cases hlt : k < q1
    · obtain ⟨og, Cc, rfl, hob, hcc, hcn⟩ := hS.all (by omega)
      obtain ⟨nn, hn⟩ := hcn k hlt
      obtain ⟨⟨p1, p2, p3, p4, p5⟩, p6⟩ := (⟨HSEP.out.1 og rfl, HSEP.out.2 og rfl⟩ : _ ∧ _)
      have c0 := (hcc.cell k).trans hn
      have f0 := hcc.frozen k
      have HN := Lib.hid (fun x => Scr.set (base := W0.heap.size) hcn hob hcc k x)
      clear hcn hn hS hcc
      go_wp2
      refine ⟨⟨k + 1, by omega, by go_num, DI.out.only (Only.setCell wr k _) (Ne.symm p1) p4 p5 (by omega), KR.out.set_other (by show gr ≠ og; omega) _, KG.out.set_other (by show w.heap.size + 1 + 1 ≠ og; omega) _, KT2.out.set_other (by show gt ≠ og; omega) _, HN.out _⟩, by simp [intOf]; omega⟩
    · obtain rfl : q1 = k := by omega
      clear hlt hk hS
      have kr := KR.out
      have kg := KG.out
      have hne := hne0
      clear KR KG
      go_wp2
      obtain ⟨gg, hgg⟩ : ∃ gg, gg = w.heap.size + 1 + 1 := ⟨_, rfl⟩
      have hgrg : gg ≠ gr := by rw [hgg]; exact hne
      rw [← hgg] at kg ⊢
      replace hgg := Lib.hid hgg
      have HAG := Lib.hid (fun WW h => agrees_any b (v) (.slice uA uk uc) (m1) HOK.out WW h)
      rw [← HR.out] at HAG
      have DD : RowKit.Hid (DoI w wr.drew b (v) (.slice uA uk uc) (m1) (m1)) := Lib.hid DI.out.drew
      have s0 : Blk wr.drew gr R 48 := kr.drew
      have t8 : Blk wr.drew gg Z 48 := kg.drew
      clear kg hne
      refine wp_region_held_drew (S := fun W' => Blk W' gr R 48) (by kernel_rfl) s0 (fun hHeld => ?_)
      generalize wr.drew = W7 at *
      refine wpAnyH_takeD 0 (some 104) (v := (.agg (R))) rfl rfl (by kernel_rfl) (by kernel_rfl) (by kernel_rfl) (fun _ _ _ h => h) (yieldsIf_load_blk rfl 48 _ rfl (gr) 6 (R) 48 rfl (fun _ h => h) row48 (hRs.out)) (by assumption) ?_; try simp only [Act.put, List.setIfInBounds_toArray, List.set_cons_zero, List.set_cons_succ, Array.toArray_toList]
      refine wpAnyH_takeD 1 (some 105) (v := (.bool true)) rfl rfl (by kernel_rfl) (by kernel_rfl) (by kernel_rfl) (fun _ _ _ h => h) (yieldsIf_calc rfl (fun w => by unfold execOp; go_simp)) (by assumption) ?_; try simp only [Act.put, List.setIfInBounds_toArray, List.set_cons_zero, List.set_cons_succ, Array.toArray_toList]
      refine wpAnyH_takeD 2 (some 106) (v := (.bool true)) rfl rfl (by kernel_rfl) (by kernel_rfl) (by kernel_rfl) (fun _ _ _ h => h) (yieldsIf_calc rfl (fun w => by unfold execOp; go_simp)) (by assumption) ?_; try simp only [Act.put, List.setIfInBounds_toArray, List.set_cons_zero, List.set_cons_succ, Array.toArray_toList]
      refine wpAnyH_takeD 3 (some 107) (v := (.pointer (some ⟨b, 0, none⟩))) rfl rfl (by kernel_rfl) (by kernel_rfl) (by kernel_rfl) (fun _ _ _ h => h) (yieldsIf_calc rfl (fun w => by unfold execOp; go_simp)) (by assumption) ?_; try simp only [Act.put, List.setIfInBounds_toArray, List.set_cons_zero, List.set_cons_succ, Array.toArray_toList]
      refine wpAnyH_takeD 4 (some 108) (v := (.agg (R))) rfl rfl (by kernel_rfl) (by kernel_rfl) (by kernel_rfl) (fun _ _ _ h => h) (yieldsIf_load_blk rfl 48 _ rfl (gr) 6 (R) 48 rfl (fun _ h => h) row48 (hRs.out)) (by assumption) ?_; try simp only [Act.put, List.setIfInBounds_toArray, List.set_cons_zero, List.set_cons_succ, Array.toArray_toList]
      refine wpAnyH_one 5 rfl (by kernel_rfl) (fun K' hK' => ?_)
      go_simp
      (go_at_call 18; (with_reducible refine (HAG.out _ DD.out.p.1).mono ?_); rintro e w9 ⟨rfl, hw9⟩; have s9 := s0.below hw9 s0.lt; replace DD := Lib.hid (DD.out.below hw9); have t9 := t8.below hw9 t8.lt)
      go_wp2
      refine hK'.out _ _ (s9) ?_; clear hK' K'; try simp only [Act.put, List.setIfInBounds_toArray, List.set_cons_zero, List.set_cons_succ, Array.toArray_toList]
      refine wpAnyH_takeD 6 (some 110) (v := (.bool true)) rfl rfl (by kernel_rfl) (by kernel_rfl) (by kernel_rfl) (fun _ _ _ h => h) (yieldsIf_calc rfl (fun w => by unfold execOp; go_simp)) (by assumption) ?_; try simp only [Act.put, List.setIfInBounds_toArray, List.set_cons_zero, List.set_cons_succ, Array.toArray_toList]
      refine wpAnyH_one 7 rfl (by kernel_rfl) (fun K' hK' => ?_)
      refine ite_go rfl ?_
      refine wp_store_blk none rfl 48 _ _ rfl gg 0 6 R rfl rfl t9 row48 hRs.out (by rw [hZs.out]; exact Nat.le_refl 6) hR1.out ?_
      intro w10 hb10 ho10; rw [splice_full _ _ (by rw [hZs.out, hRs.out])] at hb10
      have s10 := s9.only ho10 (Ne.symm hgrg)
      refine hK'.out _ _ (s10) ?_; clear hK' K'; try simp only [Act.put, List.setIfInBounds_toArray, List.set_cons_zero, List.set_cons_succ, Array.toArray_toList]
      refine wpAnyH_takeD 8 (some 7) (v := (.bool true)) rfl rfl (by kernel_rfl) (by kernel_rfl) (by kernel_rfl) (fun _ _ _ h => h) (yieldsIf_calc rfl (fun w => by unfold execOp; go_simp)) (by assumption) ?_; try simp only [Act.put, List.setIfInBounds_toArray, List.set_cons_zero, List.set_cons_succ, Array.toArray_toList]
      refine wpAnyH_done (by kernel_rfl) ?_ _
      go_wp2
      refine bodyPost_ret (results_blk_tmp rfl _ _ gg R 48 6 _ rfl rfl hb10 row48 hRs.out) rfl ?_
      exact ⟨_, _, by rw [HR.out]; rfl, DD.out.store ho10 t9 (by decide) (by have := hgg.out; omega) hbw⟩
set_option maxRecDepth 100000 in
set_option maxHeartbeats 4000000 in
theorem do_send0 (b : Nat) (v u : Value) (m : Hq) (hm : OkH m) (t c : Int) (l : List UInt8) (a : Option Addr) (q cap : Nat) (hq : q = l.length) (w : World) (hP : HP w b v m) (hu : RP w u m) (hb : Byt w a l) (h0 : a = none → cap = 0) (hl : l.length ≤ 1000) (hap : 0 < l.length → ∀ g o, a = some ⟨g, o, none⟩ → g ≠ b) (hE : sendE m t ≠ 0) :
    Calls Try.prog 19 #[.pointer (some ⟨b, 0, none⟩), .agg (cellsR u m), .agg #[.int .i64 1, .slice a q cap, .int .i64 t, .int .i64 c]] w fun e w' => ∃ v' u', e = .returned (.tuple #[.agg (cellsR u' (sendS m t)), .bool true]) ∧ DoI w w' b v' u' (sendS m t) (sendS m t) := by
  obtain ⟨uA, uk, uc, rfl⟩ := own_form hu
  obtain ⟨Z, hZ⟩ : ∃ Z, Z = cellsR (.slice none 0 0) ⟨0, 0, [], 0, 0, 0⟩ := ⟨_, rfl⟩
  obtain ⟨C, hC⟩ : ∃ C, C = cellsR (.slice uA uk uc) m := ⟨_, rfl⟩
  have z1 := zero48'
  rw [← hZ] at z1
  have hZs := Lib.hid (show Z.size = 6 by rw [hZ]; rfl)
  have hCs := Lib.hid (show C.size = 6 by rw [hC]; rfl)
  have hCw := Lib.hid (show C.extract 0 (0 + 6) = C by rw [hC]; rfl)
  have hC1 := Lib.hid (show C.all (·.oneCell') = true by rw [hC]; exact cellsR_one _ rfl)
  have hB : Below w.heap.size w (((w.alloc (.cells C 48)).alloc (.cells #[.int .i64 1, .slice a q cap, .int .i64 t, .int .i64 c] 53)).alloc (.cells Z 48)) := below_new (below_new (below_new (Below.refl w.heap.size w) _) _) _
  have HD0 : RowKit.Hid (DoI w (((w.alloc (.cells C 48)).alloc (.cells #[.int .i64 1, .slice a q cap, .int .i64 t, .int .i64 c] 53)).alloc (.cells Z 48)) b v (.slice uA uk uc) m m) := Lib.hid ⟨hP.below hB, hu.below hB, (But.refl _ _ _).below hB (Nat.le_refl _)⟩
  have b0 : Blk (((w.alloc (.cells C 48)).alloc (.cells #[.int .i64 1, .slice a q cap, .int .i64 t, .int .i64 c] 53)).alloc (.cells Z 48)) w.heap.size C 48 := ((Blk.new' rfl).alloc _).alloc _
  have b1 : Blk (((w.alloc (.cells C 48)).alloc (.cells #[.int .i64 1, .slice a q cap, .int .i64 t, .int .i64 c] 53)).alloc (.cells Z 48)) (w.heap.size + 1) #[.int .i64 1, .slice a q cap, .int .i64 t, .int .i64 c] 53 := (Blk.new' (by simp)).alloc _
  have b2 : Blk (((w.alloc (.cells C 48)).alloc (.cells #[.int .i64 1, .slice a q cap, .int .i64 t, .int .i64 c] 53)).alloc (.cells Z 48)) (w.heap.size + 1 + 1) Z 48 := Blk.new' (by simp)
  have hbw := hP.1.lt
  have HBY := Lib.hid hb
  have H0 := Lib.hid h0
  have HL := Lib.hid hl
  have HQ := Lib.hid hq
  have HAP := Lib.hid hap
  have HM := Lib.hid hm
  have HC := Lib.hid hC
  have HP0 := Lib.hid hP
  have HU0 := Lib.hid hu
  have HB := Lib.hid hB
  rw [← hC]
  clear hZ hC hP hu hb h0 hl hap hm hq
  have d0 : (((w.alloc (.cells C 48)).alloc (.cells #[.int .i64 1, .slice a q cap, .int .i64 t, .int .i64 c] 53)).alloc (.cells Z 48)).cell? ⟨w.heap.size + 1, 0, none⟩ = some (.int .i64 1) := b1.cell 0; have d1 : (((w.alloc (.cells C 48)).alloc (.cells #[.int .i64 1, .slice a q cap, .int .i64 t, .int .i64 c] 53)).alloc (.cells Z 48)).cell? ⟨w.heap.size + 1, 1, none⟩ = some (.slice a q cap) := b1.cell 1; have d2 : (((w.alloc (.cells C 48)).alloc (.cells #[.int .i64 1, .slice a q cap, .int .i64 t, .int .i64 c] 53)).alloc (.cells Z 48)).cell? ⟨w.heap.size + 1, 2, none⟩ = some (.int .i64 t) := b1.cell 2; have d3 : (((w.alloc (.cells C 48)).alloc (.cells #[.int .i64 1, .slice a q cap, .int .i64 t, .int .i64 c] 53)).alloc (.cells Z 48)).cell? ⟨w.heap.size + 1, 3, none⟩ = some (.int .i64 c) := b1.cell 3
  obtain ⟨W0, hW0⟩ : ∃ W0, W0 = (((w.alloc (.cells C 48)).alloc (.cells #[.int .i64 1, .slice a q cap, .int .i64 t, .int .i64 c] 53)).alloc (.cells Z 48)) := ⟨_, rfl⟩
  have hsz : W0.heap.size = w.heap.size + 1 + 1 + 1 := by rw [hW0]; simp
  obtain ⟨q1, hq1⟩ : ∃ q1, q1 = 0 := ⟨_, rfl⟩
  obtain ⟨r, hr⟩ : ∃ r : Int, r = 0 := ⟨_, rfl⟩
  obtain ⟨n, hnn⟩ : ∃ n : Int, n = 0 := ⟨_, rfl⟩
  obtain ⟨x, hxx⟩ : ∃ x : Bool, x = false := ⟨_, rfl⟩
  have hfs : ∀ W, HP W b v m → Calls Try.prog 12 #[.pointer (some ⟨b, 0, none⟩), .int .i64 t] W fun e w' => ∃ tA tc, e = .returned (.tuple #[.agg #[.slice tA q1 tc, .int .i64 r, .int .i64 n, .bool x], .int .i64 (sendE m t)]) ∧ Bsl w' (.slice tA q1 tc) [] ∧ Scr w' tA q1 W.heap.size ∧ (∀ og o, tA = some ⟨og, o, none⟩ → W.heap.size ≤ og ∧ og < w'.heap.size) ∧ HP w' b v (sendS m t) ∧ Kept b v v W w' := fun W h => by
    refine (fsend_any b v m t W h HM.out).mono ?_
    rintro e w' ⟨u1, l1, rfl, ho, hl1, h1, h2⟩
    refine ⟨none, 0, ?_, by rw [hq1]; exact ⟨none, 0, rfl, Nat.le_refl _, Nat.zero_le _, fun _ => rfl, fun h0 => by simp at h0⟩, ⟨fun h0 => by omega⟩, (fun _ _ e => nomatch e), h1, h2⟩
    unfold sendT trZ
    rw [if_neg hE, hr, hnn, hxx, hq1]
  have hsT : sendT (.slice uA uk uc) m t = #[.slice none 0 0, .int .i64 r, .int .i64 n, .bool x] := by unfold sendT trZ; rw [if_neg hE, hr, hnn, hxx]
  have hqb : q1 ≤ 1000 := by omega
  have hrs := rsend_any uA uk uc m t HM.out.now
  rw [hsT, ← HC.out] at hrs
  obtain ⟨E, hEE⟩ : ∃ E, E = sendE m t := ⟨_, rfl⟩
  obtain ⟨m1, hm1⟩ : ∃ m1, m1 = sendS m t := ⟨_, rfl⟩
  have hok : OkH m1 := by rw [hm1]; exact okH_send HM.out t
  have hblk : m1.blk = m.blk := by rw [hm1]; unfold sendS m1F; split; rfl; split <;> rfl
  rw [← hEE, ← hm1] at hrs
  simp only [← hEE, ← hm1] at hfs
  rw [← hm1]
  obtain ⟨R, hR⟩ : ∃ R, R = cellsR (.slice uA uk uc) m1 := ⟨_, rfl⟩
  rw [← hR] at hrs
  have hRs := Lib.hid (show R.size = 6 by rw [hR]; rfl)
  have hR1 := Lib.hid (show R.all (·.oneCell') = true by rw [hR]; exact cellsR_one _ rfl)
  have HR := Lib.hid hR
  have hbs := fun W v1 h1 h2 => rsame_eq [] v1 (.slice none 0 0) r n x W h1 h2
  obtain ⟨T0, hT0⟩ : ∃ T0, T0 = trZ := ⟨_, rfl⟩
  have z2 : ∀ w, (zeroValue 32).run Try.prog w = .ok (.agg T0) w := by rw [hT0]; exact (zero_of_info zero32).1
  have hTs := Lib.hid (show T0.size = 4 by rw [hT0]; rfl)
  rw [← hW0] at HD0 b0 b1 b2 HB
  have HW0 := Lib.hid hW0
  have HOK := Lib.hid hok
  have HBK := Lib.hid hblk
  replace hfs := Lib.hid hfs
  replace hrs := Lib.hid hrs
  replace hbs := Lib.hid hbs
  replace hE := Lib.hid hE
  have e1 : (E == E) = true := by simp
  have HB0 := Lib.hid b0
  have HB1 := Lib.hid b1
  have HB2 := Lib.hid b2
  clear hW0 hEE hm1 hok hB b0 b1 b2 hR hT0 hsT hr hnn hxx hq1 hblk
  go_enter Try.func19, Try.ntmps19
  go_wp2_with (first
    | (go_at_call 12; rw [← HW0.out]; (with_reducible refine (hfs.out _ HD0.out.p).mono ?_); rintro e w1 ⟨tA, tc, rfl, htb, hts, htf, hp1, hk1⟩; have HP1 := Lib.hid hp1; have HK1 := Lib.hid hk1; have HTB := Lib.hid htb; have HTS := Lib.hid hts; have HTF := Lib.hid htf; have r1 : RP w1 (.slice uA uk uc) m := own_but HD0.out.r hk1.1 (own_ne_blk HD0.out.r HD0.out.p.1 (by decide)); have R1 := Lib.hid r1; have a0 := HB0.out.but hk1.1 HB0.out.lt (by omega); have a1 := HB1.out.but hk1.1 HB1.out.lt (by omega); have a2 := HB2.out.but hk1.1 HB2.out.lt (by omega); have A0 := Lib.hid a0; have A1 := Lib.hid a1; have A2 := Lib.hid a2; have hsz1 := hk1.1.size; have kt : Blk (w1.alloc (.cells T0 32)) w1.heap.size T0 32 := Blk.new' rfl
       have hV1 := Lib.hid (show (#[.slice tA q1 tc, .int .i64 r, .int .i64 n, .bool x] : Array Value).all (·.oneCell') = true from tr_one _ _ _ _ _ _); have hVs := Lib.hid (show (#[.slice tA q1 tc, .int .i64 r, .int .i64 n, .bool x] : Array Value).size = 4 from rfl); have hVw := Lib.hid (show (#[.slice tA q1 tc, .int .i64 r, .int .i64 n, .bool x] : Array Value).extract 0 (0 + 4) = #[.slice tA q1 tc, .int .i64 r, .int .i64 n, .bool x] from rfl)
       clear hp1 hk1 htb hts htf r1 a0 a1 a2)
    | ((with_reducible refine wpList_store_blk rfl 32 _ _ rfl w1.heap.size 0 4 #[.slice tA q1 tc, .int .i64 r, .int .i64 n, .bool x] rfl rfl kt row32 hVs.out (by rw [hTs.out]; exact Nat.le_refl 4) hV1.out ?_); intro w2 hb2 ho2; rw [splice_full _ _ (by rw [hTs.out, hVs.out])] at hb2; have KT := Lib.hid hb2; have a0 := (A0.out.alloc (.cells T0 32)).only ho2 (by have := A0.out.lt; omega); have a1 := (A1.out.alloc (.cells T0 32)).only ho2 (by have := A1.out.lt; omega); have hB12 : Below w1.heap.size w1 w2 := below_only (alloc_below w1 (.cells T0 32)) ho2 (Nat.le_refl _); have A2' := Lib.hid (A2.out.below hB12 A2.out.lt); have HB12 := Lib.hid hB12; have hsz2 := hb2.lt; have x2 : w2.cell? ⟨w.heap.size + 1, 2, none⟩ = some (.int .i64 t) := a1.cell 2; clear hb2 ho2 hB12 a1)
    | (with_reducible refine wpList_load_blk rfl 48 _ rfl w.heap.size 0 6 rfl a0 row48 (by rw [hCs.out]; exact Nat.le_refl 6) C hCw.out ?_)
    | (go_at_call 35; (with_reducible refine (hrs.out _).mono ?_); rintro e w3 ⟨rfl, hB3⟩; have HB3 := Lib.hid hB3; have hsz3 := hB3.size; have ky : Blk ((w3.alloc (.cells Z 48)).alloc (.cells T0 32)) w3.heap.size Z 48 := (Blk.new' rfl).alloc _
       have kx : Blk ((w3.alloc (.cells Z 48)).alloc (.cells T0 32)) (w3.heap.size + 1) T0 32 := Blk.new' (by simp)
       have hU1 := Lib.hid (show (#[.slice none 0 0, .int .i64 r, .int .i64 n, .bool x] : Array Value).all (·.oneCell') = true from tr_one _ _ _ _ _ _); have hUs := Lib.hid (show (#[.slice none 0 0, .int .i64 r, .int .i64 n, .bool x] : Array Value).size = 4 from rfl); have hUw := Lib.hid (show (#[.slice none 0 0, .int .i64 r, .int .i64 n, .bool x] : Array Value).extract 0 (0 + 4) = #[.slice none 0 0, .int .i64 r, .int .i64 n, .bool x] from rfl)
       clear hB3 a0 x2)
    | ((with_reducible refine wpList_store_blk rfl 48 _ _ rfl w3.heap.size 0 6 R rfl rfl ky row48 hRs.out (by rw [hZs.out]; exact Nat.le_refl 6) hR1.out ?_); intro w4 hb4 ho4; rw [splice_full _ _ (by rw [hZs.out, hRs.out])] at hb4; have kx2 := kx.only ho4 (by omega); have HO4 := Lib.hid ho4; have KR4 := Lib.hid hb4; clear hb4 ho4)
    | ((with_reducible refine wpList_store_blk rfl 32 _ _ rfl (w3.heap.size + 1) 0 4 #[.slice none 0 0, .int .i64 r, .int .i64 n, .bool x] rfl rfl kx2 row32 hUs.out (by rw [hTs.out]; exact Nat.le_refl 4) hU1.out ?_); intro w5 hb5 ho5; rw [splice_full _ _ (by rw [hTs.out, hUs.out])] at hb5; have hB35 : Below w3.heap.size w3 w5 := below_only (below_only ((alloc_below w3 (.cells Z 48)).alloc (by simp) (.cells T0 32)) HO4.out (Nat.le_refl _)) ho5 (Nat.le_succ _); have HB35 := Lib.hid hB35; have K13 := ((KT.out.below HB3.out KT.out.lt).below hB35 (by have := KT.out.lt; omega)); have K16 := hb5; have KR5 := Lib.hid (KR4.out.only ho5 (by omega)); have kt5 := (HTB.out.below HB12.out).below HB3.out; have hU5 := (bsl_own R1.out).below HB12.out; have HT5 := Lib.hid (kt5.below hB35); have HU5 := Lib.hid ((hU5.below HB3.out).below hB35); have y0 : w5.cell? ⟨w1.heap.size, 0, none⟩ = some (.slice tA q1 tc) := K13.cell 0; have y1 : w5.cell? ⟨w1.heap.size, 1, none⟩ = some (.int .i64 r) := K13.cell 1; have y2 : w5.cell? ⟨w1.heap.size, 2, none⟩ = some (.int .i64 n) := K13.cell 2; have y3 : w5.cell? ⟨w1.heap.size, 3, none⟩ = some (.bool x) := K13.cell 3; have v0 : w5.cell? ⟨w3.heap.size + 1, 0, none⟩ = some (.slice none 0 0) := K16.cell 0; have v1 : w5.cell? ⟨w3.heap.size + 1, 1, none⟩ = some (.int .i64 r) := K16.cell 1; have v2 : w5.cell? ⟨w3.heap.size + 1, 2, none⟩ = some (.int .i64 n) := K16.cell 2; have v3 : w5.cell? ⟨w3.heap.size + 1, 3, none⟩ = some (.bool x) := K16.cell 3; clear hb5 ho5 hB35 kt5 hU5)
    | (go_at_call 24; (with_reducible refine (hbs.out _ (.slice tA q1 tc) HT5.out (bsl_nil _)).mono ?_); rintro e w6 ⟨rfl, hB6⟩; have HB6 := Lib.hid hB6; have hsz6 := hB6.size; have K13' := Lib.hid (K13.below hB6 K13.lt); clear hB6 K13 K16 y0 y1 y2 y3 v0 v1 v2 v3))
  have hsz5 := HB35.out.size
  have hB26 : Below w2.heap.size w2 w6 := (HB3.out.trans (HB35.out.mono (by omega))).trans (HB6.out.mono (by omega))
  have hB16 : Below w1.heap.size w1 w6 := HB12.out.trans (hB26.mono (by have := HB12.out.size; omega))
  have DI0 : DoI w w1 b v (.slice uA uk uc) m1 m1 := ⟨HP1.out, by unfold RP; rw [HBK.out]; exact R1.out, HD0.out.k.trans ⟨HK1.out.1.os, HK1.out.1.tape, HK1.out.1.output, HK1.out.1.size, fun i hi hn => HK1.out.1.block i (by omega) hn⟩⟩
  have D4 : RowKit.Hid (DoI w w6 b v (.slice uA uk uc) m1 m1) := Lib.hid (DI0.below hB16)
  have S4 : RowKit.Hid (Scr w6 tA q1 W0.heap.size) := Lib.hid (HTS.out.below hB16)
  have K4 : RowKit.Hid (Blk w6 w3.heap.size R 48) := Lib.hid (KR5.out.below HB6.out KR5.out.lt)
  have G4 : RowKit.Hid (Blk w6 (w.heap.size + 1 + 1) Z 48) := Lib.hid (A2'.out.below hB26 A2'.out.lt)
  have HSEP : RowKit.Hid (Sep tA b w3.heap.size (w.heap.size + 1 + 1) v (.slice uA uk uc) ∧ ∀ og, tA = some ⟨og, 0, none⟩ → og ≠ w1.heap.size) := Lib.hid ⟨fun og e => by
    obtain ⟨f1, f2⟩ := HTF.out og 0 e
    refine ⟨by omega, by omega, by omega, fun x hx => ?_, fun x hx => ?_⟩
    · have := (HP0.out.2.lt x hx).2; omega
    · have := (own_ge' HU0.out x hx); omega, fun og e => by
    obtain ⟨f1, f2⟩ := HTF.out og 0 e
    omega⟩
  have hne0 : w.heap.size + 1 + 1 ≠ w3.heap.size := by omega
  have hg13b : w.heap.size + 1 + 1 ≠ w1.heap.size := by omega
  have hW0w : w.heap.size ≤ W0.heap.size := by omega
  clear DI0 ky kx kx2 kt d0 d1 d2 d3 hfs hrs hbs hB26 hB16
  generalize w3.heap.size = gr at *
  generalize w1.heap.size = gt at *
  go_loopw [19] (fun t wr => ∃ k : Nat, k ≤ q1 ∧ t = .int .i64 k ∧ DoI w wr b v (.slice uA uk uc) m1 m1 ∧ Blk wr gr R 48 ∧ Blk wr (w.heap.size + 1 + 1) Z 48 ∧ Blk wr gt #[.slice tA q1 tc, .int .i64 r, .int .i64 n, .bool x] 32 ∧ Scr wr tA q1 W0.heap.size) (fun t _ => q1 - (intOf t).toNat)
  case atStart => exact ⟨0, by omega, rfl, D4.out, K4.out, G4.out, K13'.out, S4.out⟩
  case round =>
    clear D4 K4 G4 S4 K13'
    obtain ⟨k, hk, rfl, hD, hK, hG, hTt, hS⟩ := hrel
    have DI := Lib.hid hD
    have KR := Lib.hid hK
    have KG := Lib.hid hG
    have t0 : wr.cell? ⟨gt, 0, none⟩ = some (.slice tA q1 tc) := hTt.cell 0
    have KT2 := Lib.hid hTt
    clear hD hK hG hTt
    by_cases hlt : k < q1
    · obtain ⟨og, Cc, rfl, hob, hcc, hcn⟩ := hS.all (by omega)
      obtain ⟨nn, hn⟩ := hcn k hlt
      obtain ⟨⟨p1, p2, p3, p4, p5⟩, p6⟩ := (⟨HSEP.out.1 og rfl, HSEP.out.2 og rfl⟩ : _ ∧ _)
      have c0 := (hcc.cell k).trans hn
      have f0 := hcc.frozen k
      have HN := Lib.hid (fun x => Scr.set (base := W0.heap.size) hcn hob hcc k x)
      clear hcn hn hS hcc
      go_wp2
      refine ⟨⟨k + 1, by omega, by go_num, DI.out.only (Only.setCell wr k _) (Ne.symm p1) p4 p5 (by omega), KR.out.set_other (by show gr ≠ og; omega) _, KG.out.set_other (by show w.heap.size + 1 + 1 ≠ og; omega) _, KT2.out.set_other (by show gt ≠ og; omega) _, HN.out _⟩, by simp [intOf]; omega⟩
    · obtain rfl : q1 = k := by omega
      clear hlt hk hS
      have kr := KR.out
      have kg := KG.out
      have hne := hne0
      clear KR KG
      go_wp2
      obtain ⟨gg, hgg⟩ : ∃ gg, gg = w.heap.size + 1 + 1 := ⟨_, rfl⟩
      have hgrg : gg ≠ gr := by rw [hgg]; exact hne
      rw [← hgg] at kg ⊢
      replace hgg := Lib.hid hgg
      have HAG := Lib.hid (fun WW h => agrees_any b (v) (.slice uA uk uc) (m1) HOK.out WW h)
      rw [← HR.out] at HAG
      have DD : RowKit.Hid (DoI w wr.drew b (v) (.slice uA uk uc) (m1) (m1)) := Lib.hid DI.out.drew
      have s0 : Blk wr.drew gr R 48 := kr.drew
      have t8 : Blk wr.drew gg Z 48 := kg.drew
      clear kg hne
      refine wp_region_held_drew (S := fun W' => Blk W' gr R 48) (by kernel_rfl) s0 (fun hHeld => ?_)
      generalize wr.drew = W7 at *
      refine wpAnyH_takeD 0 (some 104) (v := (.agg (R))) rfl rfl (by kernel_rfl) (by kernel_rfl) (by kernel_rfl) (fun _ _ _ h => h) (yieldsIf_load_blk rfl 48 _ rfl (gr) 6 (R) 48 rfl (fun _ h => h) row48 (hRs.out)) (by assumption) ?_; try simp only [Act.put, List.setIfInBounds_toArray, List.set_cons_zero, List.set_cons_succ, Array.toArray_toList]
      refine wpAnyH_takeD 1 (some 105) (v := (.bool true)) rfl rfl (by kernel_rfl) (by kernel_rfl) (by kernel_rfl) (fun _ _ _ h => h) (yieldsIf_calc rfl (fun w => by unfold execOp; go_simp)) (by assumption) ?_; try simp only [Act.put, List.setIfInBounds_toArray, List.set_cons_zero, List.set_cons_succ, Array.toArray_toList]
      refine wpAnyH_takeD 2 (some 106) (v := (.bool true)) rfl rfl (by kernel_rfl) (by kernel_rfl) (by kernel_rfl) (fun _ _ _ h => h) (yieldsIf_calc rfl (fun w => by unfold execOp; go_simp)) (by assumption) ?_; try simp only [Act.put, List.setIfInBounds_toArray, List.set_cons_zero, List.set_cons_succ, Array.toArray_toList]
      refine wpAnyH_takeD 3 (some 107) (v := (.pointer (some ⟨b, 0, none⟩))) rfl rfl (by kernel_rfl) (by kernel_rfl) (by kernel_rfl) (fun _ _ _ h => h) (yieldsIf_calc rfl (fun w => by unfold execOp; go_simp)) (by assumption) ?_; try simp only [Act.put, List.setIfInBounds_toArray, List.set_cons_zero, List.set_cons_succ, Array.toArray_toList]
      refine wpAnyH_takeD 4 (some 108) (v := (.agg (R))) rfl rfl (by kernel_rfl) (by kernel_rfl) (by kernel_rfl) (fun _ _ _ h => h) (yieldsIf_load_blk rfl 48 _ rfl (gr) 6 (R) 48 rfl (fun _ h => h) row48 (hRs.out)) (by assumption) ?_; try simp only [Act.put, List.setIfInBounds_toArray, List.set_cons_zero, List.set_cons_succ, Array.toArray_toList]
      refine wpAnyH_one 5 rfl (by kernel_rfl) (fun K' hK' => ?_)
      go_simp
      (go_at_call 18; (with_reducible refine (HAG.out _ DD.out.p.1).mono ?_); rintro e w9 ⟨rfl, hw9⟩; have s9 := s0.below hw9 s0.lt; replace DD := Lib.hid (DD.out.below hw9); have t9 := t8.below hw9 t8.lt)
      go_wp2
      refine hK'.out _ _ (s9) ?_; clear hK' K'; try simp only [Act.put, List.setIfInBounds_toArray, List.set_cons_zero, List.set_cons_succ, Array.toArray_toList]
      refine wpAnyH_takeD 6 (some 110) (v := (.bool true)) rfl rfl (by kernel_rfl) (by kernel_rfl) (by kernel_rfl) (fun _ _ _ h => h) (yieldsIf_calc rfl (fun w => by unfold execOp; go_simp)) (by assumption) ?_; try simp only [Act.put, List.setIfInBounds_toArray, List.set_cons_zero, List.set_cons_succ, Array.toArray_toList]
      refine wpAnyH_one 7 rfl (by kernel_rfl) (fun K' hK' => ?_)
      refine ite_go rfl ?_
      refine wp_store_blk none rfl 48 _ _ rfl gg 0 6 R rfl rfl t9 row48 hRs.out (by rw [hZs.out]; exact Nat.le_refl 6) hR1.out ?_
      intro w10 hb10 ho10; rw [splice_full _ _ (by rw [hZs.out, hRs.out])] at hb10
      have s10 := s9.only ho10 (Ne.symm hgrg)
      refine hK'.out _ _ (s10) ?_; clear hK' K'; try simp only [Act.put, List.setIfInBounds_toArray, List.set_cons_zero, List.set_cons_succ, Array.toArray_toList]
      refine wpAnyH_takeD 8 (some 7) (v := (.bool true)) rfl rfl (by kernel_rfl) (by kernel_rfl) (by kernel_rfl) (fun _ _ _ h => h) (yieldsIf_calc rfl (fun w => by unfold execOp; go_simp)) (by assumption) ?_; try simp only [Act.put, List.setIfInBounds_toArray, List.set_cons_zero, List.set_cons_succ, Array.toArray_toList]
      refine wpAnyH_done (by kernel_rfl) ?_ _
      go_wp2
      refine bodyPost_ret (results_blk_tmp rfl _ _ gg R 48 6 _ rfl rfl hb10 row48 hRs.out) rfl ?_
      exact ⟨_, _, by rw [HR.out]; rfl, DD.out.store ho10 t9 (by decide) (by have := hgg.out; omega) hbw⟩
end Go.Proofs.Ythbpmofabcilhaa
