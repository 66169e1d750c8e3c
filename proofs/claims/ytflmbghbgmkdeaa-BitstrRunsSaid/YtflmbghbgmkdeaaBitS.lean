/-
  Bit strings, runs: the iterator over the runs.
-/
import Derived.Test.YtflmbghbgmkdeaaBitR
import Derived.Test.YtflmbghbgmkdeaaRn2
import Derived.Conc.MuLone
namespace Go.Proofs.Ytflmbghbgmkdeaa
open Go.RowKit
attribute [local go_sem] Oper.semAt_some

/-- The run goes on behind element i. -/
def cont (l : List UInt8) (i : Nat) : Bool := decide (i + 1 < l.length) && decide (gd l (i + 1) = gd l i)
/-- Where the run begins that is open when i elements have come. -/
def fromF (l : List UInt8) : Nat → Nat
  | 0 => 0
  | i + 1 => if cont l i then fromF l i else i + 1
/-- The runs that are closed when i elements have come. -/
def runsF (l : List UInt8) : Nat → List (Nat × UInt8)
  | 0 => []
  | i + 1 => if cont l i then runsF l i else runsF l i ++ [(i + 1 - fromF l i, gd l i)]
theorem fromF_le (l : List UInt8) : ∀ i, fromF l i ≤ i
  | 0 => Nat.le_refl _
  | i + 1 => by
    unfold fromF
    split
    · have := fromF_le l i; omega
    · exact Nat.le_refl _
theorem runsF_step (l : List UInt8) (i : Nat) : runsF l i <+: runsF l (i + 1) := by
  rw [runsF]
  split
  · exact List.prefix_refl _
  · exact List.prefix_append _ _
theorem runsF_prefix (l : List UInt8) {i j : Nat} (h : i ≤ j) : runsF l i <+: runsF l j := by
  induction j with
  | zero => rw [show i = 0 by omega]; exact List.prefix_refl _
  | succ j ih =>
    by_cases hij : i = j + 1
    · rw [hij]; exact List.prefix_refl _
    · exact (ih (by omega)).trans (runsF_step l j)
theorem runsF_length (l : List UInt8) : ∀ i, (runsF l i).length ≤ i
  | 0 => Nat.le_refl _
  | i + 1 => by
    rw [runsF]
    have := runsF_length l i
    split
    · omega
    · simp; exact this
/-- The next run, when those of pre have come. -/
def NextRun (l : List UInt8) (pre : List (Nat × UInt8)) (x : Nat × UInt8) : Prop :=
  ∃ i, i < l.length ∧ cont l i = false ∧ pre = runsF l i ∧ x = (i + 1 - fromF l i, gd l i)
theorem NextRun.at {l : List UInt8} {pre : List (Nat × UInt8)} {x : Nat × UInt8} (h : NextRun l pre x) : (runsF l l.length)[pre.length]? = some x ∧ pre.length < (runsF l l.length).length ∧ pre ++ [x] <+: runsF l l.length := by
  obtain ⟨i, hi, hc, rfl, rfl⟩ := h
  have h1 : runsF l (i + 1) = runsF l i ++ [(i + 1 - fromF l i, gd l i)] := by rw [runsF, hc]; rfl
  have h2 := runsF_prefix l (show i + 1 ≤ l.length by omega)
  rw [h1] at h2
  obtain ⟨t, ht⟩ := h2
  refine ⟨?_, ?_, ⟨t, ht⟩⟩
  · rw [← ht]; simp
  · rw [← ht]; simp

theorem all_any (a : Option Addr) (n cap : Nat) (w : World) :
    Calls Try.prog 40 #[.slice a n cap] w fun e w' => ∃ B, B = w.heap.size ∧ e = .returned (.func (.func 44) #[] #[.pointer (some ⟨B, 0, none⟩)]) ∧ Blk w' B #[.slice a n cap] 23 ∧ Below w.heap.size w w' ∧ w'.heap.size = w.heap.size + 1 := by
  go_enter Try.func40, Try.ntmps40
  go_wp2
  go_ret
  exact ⟨_, rfl, rfl, Blk.new' rfl, (Below.refl _ _).alloc (Nat.le_refl _) _, by simp⟩
theorem cf44 (args : Array Value) (w : World) : (callFunc 44 args).run Try.prog w = .ok (.enter 44 args) w := Go.MuLone.run_callFunc_enter (f := 44) Try.func44 rfl rfl args w
theorem Keeps.sub {B0 B : Nat} {K : Nat → Prop} {W A A' : World} (h : Keeps B0 K W A) (k : Below B A A') (hB : W.heap.size ≤ B) : Keeps B0 K W A' :=
  ⟨k.os.trans h.os, k.tape.trans h.tape, k.output.trans h.output, Nat.le_trans h.size k.size, fun i hi hk => (k.block i (by omega)).trans (h.same i hi hk)⟩
/-- What lies when i elements have come. -/
structure RunI (W : World) (l : List UInt8) (lp : Nat) (J : List (Nat × UInt8) → World → Prop) (K : Nat → Prop) (i : Nat) (A : World) : Prop where
  j : J (runsF l i) A
  yld : Blk A W.heap.size #[.func (.yield lp) #[] #[]] 67
  frm : Blk A (W.heap.size + 1) #[.int .i64 (fromF l i)] 3
  keep : Keeps W.heap.size K W A
theorem RunI.same {W : World} {l : List UInt8} {lp : Nat} {J : List (Nat × UInt8) → World → Prop} {K : Nat → Prop} {i B : Nat} {A A' : World} (h : RunI W l lp J K i A) (hJ : ∀ s A A', J s A → Below W.heap.size A A' → J s A') (hB : W.heap.size + 1 < B) (k : Below B A A') : RunI W l lp J K i A' :=
  ⟨hJ _ _ _ h.j (k.mono (by omega)), h.yld.below k (by omega), h.frm.below k hB, h.keep.sub k (by omega)⟩
set_option maxRecDepth 100000 in
set_option maxHeartbeats 4000000 in
theorem runs_seq (n : Nat) (l : List UInt8) (a : Option Addr) (cap k1 : Nat) (w : World) (hlen : l.length ≤ 10000) (hk1 : Blk w k1 #[.slice a l.length cap] 23) (hb : Byt w a l) (hne : ∀ b o, a = some ⟨b, o, none⟩ → b < w.heap.size) :
    SeqAt Fence.wide n Try.prog 39 #[.pointer (some ⟨k1, 0, none⟩)] (fun x : Nat × UInt8 => #[.int .i64 x.1, .int .u8 x.2.toNat])
      (rowK k1 a) (fun _ => True) (NextRun l) (fun xs => xs = runsF l l.length) w := fun lp J Jx W hW hJ hJx hG hY h0 => by
  have d1 := hk1.below hW hk1.lt
  have db := hb.cells hW
  have hne' : ∀ b o, a = some ⟨b, o, none⟩ → b < W.heap.size := fun b o e => Nat.lt_of_lt_of_le (hne b o e) hW.size
  have f1 := d1.cell 0
  simp only [List.getElem?_toArray, List.getElem?_cons_zero] at f1
  have hlt1 := d1.lt
  refine (callsIn_wide (n := n)).2 ((callsIn_wide (n := 3)).1 ?_)
  refine callsIn_of_wp_marks Try.func39 rfl trivial ?_ rfl
  generalize hQ : bodyPostM Fence.wide 3 Try.prog _ _ = Q
  replace hQ := Lib.hid hQ
  simp only [Try.ntmps39, List.size_toArray, List.length_cons, List.length_nil, Nat.reduceAdd, Nat.reduceSub, Array.replicate_succ, Array.replicate_zero, List.push_toArray, List.append_toArray, List.nil_append, List.cons_append]
  refine (wpIn_wide).2 ?_
  have hY' := Lib.hid hY
  clear hY hG hb hk1 hW hne
  go_wp2
  refine wp_scope_straight ?_
  go_wp2
  refine wp_label ?_
  obtain ⟨W1, hW1⟩ : ∃ W1, W1 = (W.alloc (.cells #[.func (.yield lp) #[] #[]] 67)).alloc (.cells #[.int .i64 0] 3) := ⟨_, rfl⟩
  rw [← hW1]
  have hb1 : Below W.heap.size W W1 := by rw [hW1]; exact ((Below.refl _ _).alloc (Nat.le_refl _) _).alloc (by simp) _
  have e2 : Blk W1 W.heap.size #[.func (.yield lp) #[] #[]] 67 := by rw [hW1]; exact (Blk.new' rfl).alloc _
  have e3 : Blk W1 (W.heap.size + 1) #[.int .i64 0] 3 := by rw [hW1]; exact Blk.new' (by simp)
  have d1' := d1.below hb1 d1.lt
  have g1 := d1'.cell 0
  simp only [List.getElem?_toArray, List.getElem?_cons_zero] at g1
  clear hW1
  go_wp2_with (first
    | (go_at_call 40; refine (all_any _ _ _ _).mono ?_; rintro e wL ⟨k2, hk2, rfl, hk2b, hbL, hsL⟩; replace hk2 := Lib.hid hk2; replace hsL := Lib.hid hsL)
    | fail)
  replace hk2 := hk2.out
  replace hsL := hsL.out
  have hs1 := e3.lt
  have hw1 := hb1.size
  have dbL := (db.cells hb1).cells hbL
  have d1L := d1'.below hbL d1'.lt
  have e2L := e2.below hbL e2.lt
  have e3L := e3.below hbL e3.lt
  have hkL : Keeps W.heap.size (rowK k1 a) W wL := ((Keeps.refl _ _ W).next hb1).next hbL
  have h0L : J [] wL := hJ _ _ _ (hJ _ _ _ h0 hb1) (hbL.mono hb1.size)
  have hseq := all_seq Fence.wide 2 trivial rfl (by decide) l a cap k2 wL (by omega) hk2b dbL
  have hbx : ∀ k, rowK k2 a k → k < wL.heap.size := by
    rintro k (rfl | ⟨o, e⟩)
    · omega
    · have := hne' k o e; omega
  have hN3 : ¬ rowK k2 a (W.heap.size + 1) := by
    rintro (h | ⟨o, e⟩)
    · omega
    · have := hne' _ o e; omega
  have HJ := Lib.hid hJ
  have HJx := Lib.hid hJx
  have HN := Lib.hid hne'
  have db9 := db
  have d9 := d1
  clear hJ hJx hne' h0 db d1 d1' f1 g1 e2 e3 hk2b hb1 hbL
  refine (wpIn_wide (n := 3)).1 ?_
  refine wpIn_rangeFunc_two (F := Fence.wide) (n := 3) (P := Try.prog) (p := 8) (p' := 9) (q := 4) (q' := 5) (e := fun x : Nat × UInt8 => .int .i64 x.1) (e' := fun x : Nat × UInt8 => .int .u8 x.2.toNat) (K := rowK k2 a) (G := fun _ => True)
    (R := fun pre x => pre.length < l.length ∧ x = (pre.length, gd l pre.length)) (S := fun xs => xs = upA l l.length) (w0 := wL) (lb := #[.pointer (some ⟨k2, 0, none⟩)]) rfl (by decide) (gf := 44) rfl trivial cf44 hseq (Below.refl _ _) hbx
    (fun pre A => (pre = upA l pre.length ∧ pre.length ≤ l.length) ∧ RunI W l lp J (rowK k1 a) pre.length A)
    (fun cd _ A => cd = .exit 0 ∧ ∃ pr, Jx pr A)
    (fun s A A' h k => ⟨h.1, h.2.same HJ.out (by omega) k⟩) (fun cd s A A' h k => ⟨h.1, h.2.imp fun pr hp => HJx.out _ _ _ hp (k.mono (by omega))⟩) (fun _ _ _ => trivial)
    ⟨⟨rfl, Nat.zero_le _⟩, ⟨h0L, e2L, e3L, hkL⟩⟩ ?assign ?body ?done ?stop
  case assign =>
    intro l' x A C hC
    simp only [setTwo, List.setIfInBounds_toArray, List.set_cons_zero, List.set_cons_succ] at hC ⊢
    gi_wp2
    exact hC
  case body =>
    rintro r pre x A hsz ⟨⟨hp, hpl⟩, hI⟩ ⟨hlt, rfl⟩
    generalize pre.length = i at *
    simp only [setTwo, List.setIfInBounds_toArray, List.set_cons_zero, List.set_cons_succ]
    have hbyt : Byt A a l := byt_keeps db9 (hI.keep) (fun b o e => .inr (.inr ⟨o, e⟩))
    have x1 := (d9.keeps hI.keep (.inr (.inl rfl))).cell 0
    have x2 := hI.yld.cell 0
    have x3 := hI.frm.cell 0
    have x3f := hI.frm.frozen 0
    simp only [List.getElem?_toArray, List.getElem?_cons_zero] at x1 x2 x3
    have hfl := fromF_le l i
    have hlen2 : (pre ++ [(i, gd l i)]).length = i + 1 := by rw [hp, List.length_append, upA_length]; rfl
    have hpn : pre ++ [(i, gd l i)] = upA l (i + 1) := by rw [upA_succ, hp]
    replace hp := Lib.hid hp
    obtain ⟨f, hf⟩ : ∃ f, f = fromF l i := ⟨_, rfl⟩
    rw [← hf] at x3 hfl
    replace hf := Lib.hid hf
    have hw1 : IntKind.i64.wrap ((i : Int) + 1) = (i : Int) + 1 := IntWalk.i64_in _ (by omega)
    have hw2 : IntKind.i64.wrap ((i : Int) + 1 - f) = (i : Int) + 1 - f := IntWalk.i64_in _ (by omega)
    by_cases hcn : cont l i = true
    · have hcc := hcn
      unfold cont at hcc
      rw [Bool.and_eq_true, decide_eq_true_eq, decide_eq_true_eq] at hcc
      obtain ⟨hc1, hc2⟩ := hcc
      obtain ⟨b, o, rfl, hbl, hcl⟩ := hbyt (by omega)
      have hce := hcl (i + 1) hc1
      rw [hc2] at hce
      have hci : (i : Int) + 1 < l.length := by omega
      have hrn : runsF l (i + 1) = runsF l i := by rw [runsF, hcn]; rfl
      have hfn : fromF l (i + 1) = fromF l i := by rw [fromF, hcn]; rfl
      clear hcl
      replace hc2 := Lib.hid hc2
      replace hcn := Lib.hid hcn
      replace hrn := Lib.hid hrn
      replace hfn := Lib.hid hfn
      replace hpn := Lib.hid hpn
      replace hlen2 := Lib.hid hlen2
      gi_wp2
      exact ⟨Keeps.refl _ _ _, ⟨by rw [hlen2.out]; exact hpn.out, by rw [hlen2.out]; omega⟩, by rw [hlen2.out]; exact ⟨by rw [hrn.out]; exact hI.j, hI.yld, by rw [hfn.out]; exact hI.frm, hI.keep⟩⟩
    · obtain ⟨fn, tmps, assign, body, hy, hR⟩ := hY'.out (runsF l i) (i + 1 - f, gd l i) A hI.j ⟨i, hlt, by simpa using hcn, rfl, by rw [hf.out]⟩
      have hcast : ((i + 1 - f : Nat) : Int) = (i : Int) + 1 - f := by omega
      dsimp only at hy
      rw [hcast] at hy
      have hrn : runsF l (i + 1) = runsF l i ++ [(i + 1 - f, gd l i)] := by rw [runsF, if_neg hcn, hf.out]
      have hfn : fromF l (i + 1) = i + 1 := by rw [fromF, if_neg hcn]
      rw [← hrn] at hR
      have hcase : ((l.length : Int) ≤ (i : Int) + 1) ∨ ((i : Int) + 1 < l.length ∧ i + 1 < l.length ∧ gd l (i + 1) ≠ gd l i) := by
        by_cases h1 : i + 1 < l.length
        · refine .inr ⟨by omega, h1, fun he => hcn ?_⟩
          unfold cont
          rw [decide_eq_true h1, decide_eq_true he]; rfl
        · exact .inl (by omega)
      replace hcn := Lib.hid hcn
      replace hrn := Lib.hid hrn
      replace hfn := Lib.hid hfn
      replace hpn := Lib.hid hpn
      replace hlen2 := Lib.hid hlen2
      clear hcast
      have hkp : ∀ W3, Keeps W.heap.size (rowK k1 a) A W3 → Keeps wL.heap.size (rowK k2 a) A W3 := fun W3 hk => by
        refine hk.mono (fun k _ hkk => ?_)
        rcases hkk with h | h | ⟨o, h⟩
        · exact .inl (by omega)
        · exact .inl (by omega)
        · exact .inr (.inr ⟨o, h⟩)
      have hfin : ∀ W3, J (runsF l (i + 1)) W3 → Keeps W.heap.size (rowK k1 a) A W3 → Keeps wL.heap.size (rowK k2 a) A W3 ∧ Blk W3 (W.heap.size + 1) #[.int .i64 f] 3 := fun W3 hj hk => by
        exact ⟨hkp W3 hk, by rw [hf.out]; exact hI.frm.keeps hk (.inl (by omega))⟩
      have hend : ∀ W3 act, J (runsF l (i + 1)) W3 → Keeps W.heap.size (rowK k1 a) A W3 → ownPostA wL.heap.size (rowK k2 a) (fun pre A => (pre = upA l pre.length ∧ pre.length ≤ l.length) ∧ RunI W l lp J (rowK k1 a) pre.length A) (fun cd _ A => cd = .exit 0 ∧ ∃ pr, Jx pr A) (pre ++ [(i, gd l i)]) A .normal act (W3.setCell ⟨W.heap.size + 1, 0, none⟩ (.int .i64 ((i : Int) + 1))) := fun W3 act hj hk => by
        refine ⟨(hfin W3 hj hk).1.setCell 0 _ (by omega) hN3, ⟨by rw [hlen2.out]; exact hpn.out, by rw [hlen2.out]; omega⟩, ?_⟩
        rw [hlen2.out]
        have hbl := (Below.refl W.heap.size W3).setCell (p := ⟨W.heap.size + 1, 0, none⟩) (show W.heap.size ≤ W.heap.size + 1 by omega) (.int .i64 ((i : Int) + 1))
        refine ⟨HJ.out _ _ _ hj hbl, (hI.yld.keeps hk (.inl (Nat.le_refl _))).set_other (by simp) _, ?_, (hI.keep.trans hk).sub hbl (Nat.le_refl _)⟩
        rw [hfn.out]
        exact ((hfin W3 hj hk).2).set 0 _
      rcases hcase with hci | ⟨hci, hc1, hc2⟩
      · gi_wp2
        refine (roundIn_wide hR).mono ?_
        rintro e W3 (⟨rfl, hJ3, hk3⟩ | ⟨rfl, hJx3, hk3⟩)
        · have x4 := (hfin W3 hJ3 hk3).2.cell 0
          have x4f := (hfin W3 hJ3 hk3).2.frozen 0
          simp only [List.getElem?_toArray, List.getElem?_cons_zero] at x4
          gi_wp2
          exact hend W3 _ hJ3 hk3
        · gi_wp2
          exact ⟨hkp W3 hk3, rfl, _, hJx3⟩
      · obtain ⟨b, o, rfl, hbl, hcl⟩ := hbyt (by omega)
        have hce := hcl (i + 1) hc1
        have hne0 : (((gd l (i + 1)).toNat : Int) == (gd l i).toNat) = false := by
          have : (gd l (i + 1)).toNat ≠ (gd l i).toNat := fun e => hc2 (UInt8.toNat_inj.1 e)
          simp; omega
        clear hcl
        replace hc2 := Lib.hid hc2
        gi_wp2
        refine (roundIn_wide hR).mono ?_
        rintro e W3 (⟨rfl, hJ3, hk3⟩ | ⟨rfl, hJx3, hk3⟩)
        · have x4 := (hfin W3 hJ3 hk3).2.cell 0
          have x4f := (hfin W3 hJ3 hk3).2.frozen 0
          simp only [List.getElem?_toArray, List.getElem?_cons_zero] at x4
          gi_wp2
          exact hend W3 _ hJ3 hk3
        · gi_wp2
          exact ⟨hkp W3 hk3, rfl, _, hJx3⟩
  case done =>
    rintro D xs A hD hS ⟨⟨hp, hpl⟩, hI⟩ hK
    have hxl : xs.length = l.length := by rw [hS, upA_length]
    rw [hxl] at hI
    clear hp hS
    go_wp2
    rw [← hQ.out]
    refine ⟨by simp, .inl ⟨_, _, rfl, run_takeDeferred hK, ?_⟩⟩
    exact ⟨_, results_none rfl _ _ _, ⟨_, rfl⟩, .inl ⟨_, rfl, HJ.out _ _ _ hI.j (below_put _ _ _ (by omega))⟩⟩
  case stop =>
    rintro D cd pre A hD ⟨rfl, pr, hx⟩ hK
    gi_wp2
    rw [← hQ.out]
    refine ⟨by simp, .inl ⟨_, _, rfl, run_takeDeferred hK, ?_⟩⟩
    exact ⟨_, results_none rfl _ _ _, ⟨_, rfl⟩, .inr ⟨_, HJx.out _ _ _ hx (below_put _ _ _ (by omega))⟩⟩
end Go.Proofs.Ytflmbghbgmkdeaa
