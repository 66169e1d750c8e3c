/-
  Message authentication codes: the code of a message of any length.
-/
import Derived.Test.YtdgmahgidmjniaaCmcC
import Derived.Laws.EntriesVeiled
namespace Go.Proofs.Ytdgmahgidmjniaa
open Go.RowKit
attribute [-go_sem] Instr.build
attribute [local go_sem] Oper.semAt_some

/-- Block i of l as it is combined. -/
def macB (key l : List UInt8) (i : Nat) : List UInt8 := if i + 1 = nbl l then lastL key (blk l i) (bln l i) else blk l i
/-- The state after k blocks. -/
def macS (key l : List UInt8) : Nat → List UInt8
  | 0 => Z16
  | i + 1 => encR (ksL key 160) (xrL (macS key l i) (macB key l i)) 10
/-- The code of l. -/
def cmacL (key l : List UInt8) : List UInt8 := macS key l (nbl l)
theorem macB_length (key l : List UInt8) (i : Nat) : (macB key l i).length = 16 := by
  unfold macB
  split
  · exact lastL_length _ _ _ (blk_length _ _)
  · exact blk_length _ _
theorem macS_length (key l : List UInt8) (i : Nat) : (macS key l i).length = 16 := by
  cases i with
  | zero => rfl
  | succ i => exact encR_length _ _ _
theorem cmacL_length (key l : List UInt8) : (cmacL key l).length = 16 := macS_length _ _ _

section
variable {F : Fence} {n : Nat} {P : Program} {ops : Array Oper} {rest : List Oper} {op : Oper} {a : Act} {w : World} {Q : Exit → Act → World → Prop}
theorem wpListIn_store_blk (hgd : op.guard = none) (ty : TypeId) (x y : Operand) (ho : op.op = .store ty x y)
    (b o m : Nat) (V : Array Value) (hx : a.eval x = .pointer (some ⟨b, o, none⟩)) (hy : a.eval y = .agg V) {C : Array Value} {t : TypeId} (hb : Blk w b C t) (hr : RowTy P ty m) (hV : V.size = m) (hle : o + m ≤ C.size)
    (h1 : V.all (·.oneCell') = true) (h : ∀ w', Blk w' b (splice C o V.toList) t → Only b w w' → wpListIn F n P ops Q rest (a.put op.dst undef) w') : wpListIn F n P ops Q (op :: rest) a w := by
  refine wpListIn_plain hgd fun K hK => wpIn_of_calm (by rw [ho]; rfl) ?_
  exact wp_store_blk ty x y ho b o m V hx hy hb hr hV hle h1 fun w' h2 h3 => hK _ _ (h w' h2 h3)
end
theorem blocks_any (a : Option Addr) (n cap : Nat) (w : World) :
    Calls Try.prog 88 #[.slice a n cap] w fun e w' => ∃ B, B = w.heap.size ∧ e = .returned (.func (.func 91) #[] #[.pointer (some ⟨B, 0, none⟩)]) ∧ Blk w' B #[.slice a n cap] 37 ∧ Below w.heap.size w w' ∧ w'.heap.size = w.heap.size + 1 := by
  go_enter Try.func88, Try.ntmps88
  go_wp2
  go_ret
  exact ⟨_, rfl, rfl, Blk.new' rfl, (Below.refl _ _).alloc (Nat.le_refl _) _, by simp⟩
theorem cf91 (args : Array Value) (w : World) : (callFunc 91 args).run Try.prog w = .ok (.enter 91 args) w := Go.MuLone.run_callFunc_enter (f := 91) Try.func91 rfl rfl args w

theorem wpAnyT_takeD {P : Program} {md : Region.Mode} {ops : Array Oper} {Q : Exit → Act → World → Prop} {S : World → Prop} {m : Nat} (i : Nat) (d : Option Tmp) (p : List Nat) {oi : Oper} {v : Value} {fuel : Nat} {listed : Array Bool} {a : Act} {w : World} (hi : ops[i]? = some oi) (hd : oi.dst = d)
    (hs : Region.noSelect ops = true) (hf : Region.free md ops listed i = true) (hr : (Region.ready md ops listed).contains i = true) (hp : (closedB md ops listed && pathB md ops (i :: p) && p.contains m) = true)
    (hQ : ∀ c a w, Q (.panic c) (a.put oi.dst v) w → Q (.panic c) a w) (hy : YieldsIf P ops S oi v a) (hS : S w)
    (h : wpAnyT P md ops Q S m fuel (listed.setIfInBounds i true) (a.put d v) w) : wpAnyT P md ops Q S m (fuel + 1) listed a w := by
  subst hd; exact wpAnyT_take i p hi hs hf hr hp hQ hy hS h
/-- The frame of a round whose first variable lies in a block. -/
def setBlk (t : Array Value) (p p' q q' : Tmp) (v v' : Value) (g : Nat) : Array Value := (((t.setIfInBounds p v).setIfInBounds p' v').setIfInBounds q (.pointer (some ⟨g, 0, none⟩))).setIfInBounds q' v'
section
variable {F : Fence} {n : Nat} {P : Program}
theorem wpIn_rangeFunc_blk {α : Type} {f : Operand} {p p' q q' : Tmp} {t : TypeId} {e : α → List UInt8} {e' : α → Value} {assign body : Code} {Q : Exit → Act → World → Prop} {a : Act} {w : World}
    (hro : F.round = none) (h1 : 1 ≤ n) {gf : Nat} {lb : Array Value} (hg : a.eval f = .func (.func gf) #[] lb) (hFg : F.fn gf) (eg : ∀ args w, (callFunc gf args).run P w = .ok (.enter gf args) w)
    {K : Nat → Prop} {G : List α → Prop} {R : List α → α → Prop} {S : List α → Prop} {w0 : World} (hseq : SeqAt F (n - 1) P gf lb (fun x => #[.agg (bytesV (e x)), e' x]) K G R S w0)
    (hb0 : Below w0.heap.size w0 w) (hKw : ∀ k, K k → k < w.heap.size)
    (I : List α → World → Prop) (Ix : Code → List α → World → Prop) (hI : ∀ s A A', I s A → Below w.heap.size A A' → I s A') (hIx : ∀ c s A A', Ix c s A → Below w.heap.size A A' → Ix c s A') (hG : ∀ pre W, I pre W → G pre) (h0 : I [] w)
    (hassign : ∀ (l : Nat) (pre : List α) (x : α) (W : World) (C : Act → World → Prop), R pre x → (∀ g W', W.heap.size ≤ g → Blk W' g (bytesV (e x)) t → Below W.heap.size W W' → C { tmps := setBlk a.tmps p p' q q' (.agg (bytesV (e x))) (e' x) g, defers := [] } W') →
      assign.wpIn (F.inRound l) (n - 1 - 1) P (Exit.then C (fun _ _ _ => False)) { tmps := (a.tmps.setIfInBounds p (.agg (bytesV (e x)))).setIfInBounds p' (e' x), defers := [] } W)
    (hbody : ∀ (l : Nat) (pre : List α) (x : α) (N g : Nat) (W : World), w.heap.size + 2 ≤ N → N ≤ W.heap.size → I pre W → R pre x → N ≤ g → Blk W g (bytesV (e x)) t →
      body.wpIn (F.inRound l) (n - 1 - 1) P (ownPostN N w.heap.size K I Ix (pre ++ [x]) W) { tmps := setBlk a.tmps p p' q q' (.agg (bytesV (e x))) (e' x) g, defers := [] } W)
    (hdone : ∀ (D : Nat) (xs : List α) (W : World), w.heap.size ≤ D → S xs → I xs W → W.heap[D]? = some (.deferred (some [])) → Q .normal { a with defers := { target := .collected D, args := #[] } :: a.defers } W)
    (hstop : ∀ (D : Nat) (c : Code) (pre : List α) (W : World), w.heap.size ≤ D → Ix c pre W → W.heap[D]? = some (.deferred (some [])) → c.wpIn F n P Q { a with defers := { target := .collected D, args := #[] } :: a.defers } W) :
    (Code.rangeFunc f #[p, p'] assign body).wpIn F n P Q a w :=
  wpIn_rangeFunc_new hro h1 hg hFg eg hseq hb0 hKw (fun _ => rfl) I Ix hI hIx hG h0 (fun x N a' A => ∃ g, N ≤ g ∧ Blk A g (bytesV (e x)) t ∧ a' = { tmps := setBlk a.tmps p p' q q' (.agg (bytesV (e x))) (e' x) g, defers := [] })
    (fun x N a' A A' hN ⟨g, h1, h2, h3⟩ hk => ⟨g, h1, h2.keeps hk (.inr (by omega)), h3⟩)
    (fun l pre x W C _ _ hR hC => by have := hassign l pre x W C hR (fun g W' h1 h2 h3 => hC _ _ h3 ⟨g, h1, h2, rfl⟩); simpa using this)
    (fun l pre x N a' W hN hs hi hr ⟨g, h1, h2, ha⟩ => by subst ha; exact hbody l pre x N g W hN hs hi hr h1 h2) hdone hstop
end
/-- What lies when k blocks have come. -/
structure SumI (w : World) (key K l : List UInt8) (bC c5 c6 c7 : Nat) (k : Nat) (W : World) : Prop where
  kb : Blk W w.heap.size (bytesV key) 22
  st : Blk W (w.heap.size + 1) (bytesV (macS key l k)) 97
  p5 : Blk W c5 #[.pointer (some ⟨bC, 0, none⟩)] 47
  cph : Blk W bC (bytesV (cip K)) 59
  p6 : Blk W c6 #[.func (.func 86) #[] #[.pointer (some ⟨w.heap.size, 0, none⟩)]] 109
  p7 : Blk W c7 #[.int .i64 ((l.length - 16 * k : Nat) : Int)] 3
  below : Below w.heap.size w W
theorem SumI.same {w : World} {key K l : List UInt8} {bC c5 c6 c7 k B : Nat} {W W' : World} (h : SumI w key K l bC c5 c6 c7 k W) (hb : Below B W W') (h1 : w.heap.size + 1 < B) (h2 : c5 < B) (h3 : bC < B) (h4 : c6 < B) (h5 : c7 < B) : SumI w key K l bC c5 c6 c7 k W' :=
  ⟨h.kb.below hb (by omega), h.st.below hb h1, h.p5.below hb h2, h.cph.below hb h3, h.p6.below hb h4, h.p7.below hb h5, h.below.trans (hb.mono (by omega))⟩
set_option maxRecDepth 100000 in
set_option maxHeartbeats 8000000 in
theorem sum_any (key : List UInt8) (hk : key.length = 16) (v : Value) (l : List UInt8) (w : World) (hv : Bsl w v l) (hlen : l.length ≤ 100000) :
    Calls Try.prog 74 #[.agg (bytesV key), v] w fun e w' => e = .returned (.agg (bytesV (cmacL key l))) ∧ Below w.heap.size w w' := by
  have z1 : ∀ w, (zeroValue 97).run Try.prog w = .ok (.agg (bytesV Z16)) w := (zero_of_info zero97).1
  obtain ⟨K, hK⟩ : ∃ K, K = ksL key 160 := ⟨_, rfl⟩
  have hKl := Lib.hid (show K.length = 176 by rw [hK, ksL_length key hk])
  have hnew := fun w => new_at key hk w
  rw [← hK] at hnew
  have HK := Lib.hid hK
  clear hK
  obtain ⟨a, cap, rfl, q1, q2, q3, q4⟩ := hv
  have hv : Bsl w (.slice a l.length cap) l := ⟨a, cap, rfl, q1, q2, q3, q4⟩
  have hab : ∀ b o s, a = some ⟨b, o, s⟩ → 0 < l.length → b < w.heap.size := fun b o s e h0 => by
    obtain ⟨b', o', e', hb, _⟩ := q4 h0
    rw [e] at e'
    cases e'
    exact hb
  clear q1 q2 q3 q4
  refine (callsIn_wide (n := 3)).1 ?_
  refine callsIn_of_wp_marks Try.func74 rfl trivial ?_ rfl
  generalize hQ : bodyPostM Fence.wide 3 Try.prog _ _ = Q
  replace hQ := Lib.hid hQ
  simp only [Try.ntmps74, List.size_toArray, List.length_cons, List.length_nil, Nat.reduceAdd, Nat.reduceSub, Array.replicate_succ, Array.replicate_zero, List.push_toArray, List.append_toArray, List.nil_append, List.cons_append]
  refine (wpIn_wide).2 ?_
  obtain ⟨W0, hW0⟩ : ∃ W0, W0 = (w.alloc (.cells (bytesV key) 22)).alloc (.cells (bytesV Z16) 97) := ⟨_, rfl⟩
  have b0 : Blk W0 w.heap.size (bytesV key) 22 := by rw [hW0]; exact (Blk.new' rfl).alloc _
  have b1 : Blk W0 (w.heap.size + 1) (bytesV (macS key l 0)) 97 := by rw [hW0]; exact Blk.new' (by simp)
  have hB : Below w.heap.size w W0 := by rw [hW0]; exact ((Below.refl _ _).alloc (Nat.le_refl _) _).alloc (by simp) _
  have hs0 : w.heap.size + 2 = W0.heap.size := by rw [hW0]; simp
  have HW := Lib.hid hW0
  replace hs0 := Lib.hid hs0
  clear hW0
  go_wp2_with (first
    | ((with_reducible refine wpList_load_blk rfl 22 (.tmp 2) rfl w.heap.size 0 16 rfl (HW.out ▸ b0) row22 ?_ (bytesV key) ?_ ?_); (rw [bytesV_size, hk]; exact Nat.le_refl _); (exact bytesV_whole _ _ hk))
    | (go_at_call 39; rw [← HW.out]; refine (hnew _).mono ?_; rintro e w2 ⟨bC, rfl, hC, hb1, hbC⟩; replace b0 := b0.below hb1 b0.lt; replace b1 := b1.below hb1 b1.lt; replace hB := bnext hB hb1; clear hb1)
    | (go_at_call 88; refine (blocks_any _ _ _ _).mono ?_; rintro e wL ⟨K0, hK0, rfl, k1, hbL, hsL⟩; replace hK0 := Lib.hid hK0; replace hsL := Lib.hid hsL)
    | fail)
  replace hK0 := hK0.out
  replace hsL := hsL.out
  obtain ⟨W3, hW3⟩ : ∃ W3, W3 = (((w2.alloc (.cells #[.pointer (some ⟨bC, 0, none⟩)] 47)).alloc (.cells #[.func (.func 86) #[] #[.pointer (some ⟨w.heap.size, 0, none⟩)]] 109)).alloc (.cells #[.int .i64 (l.length : Int)] 3)) := ⟨_, rfl⟩
  have hs3 : W3.heap.size = w2.heap.size + 3 := by rw [hW3]; simp
  have e5 : Blk W3 w2.heap.size #[.pointer (some ⟨bC, 0, none⟩)] 47 := by rw [hW3]; exact ((Blk.new' rfl).alloc _).alloc _
  have e6 : Blk W3 (w2.heap.size + 1) #[.func (.func 86) #[] #[.pointer (some ⟨w.heap.size, 0, none⟩)]] 109 := by rw [hW3]; exact (Blk.new' (by simp)).alloc _
  have e7 : Blk W3 (w2.heap.size + 1 + 1) #[.int .i64 (l.length : Int)] 3 := by rw [hW3]; exact Blk.new' (by simp)
  have hb3 : Below w2.heap.size w2 W3 := by rw [hW3]; exact (((Below.refl _ _).alloc (Nat.le_refl _) _).alloc (by simp) _).alloc (by simp; omega) _
  rw [← hW3] at hbL hK0 hsL
  clear hW3
  have h1lt := b1.lt
  have hClt := hC.lt
  have hI0 : SumI w key K l bC w2.heap.size (w2.heap.size + 1) (w2.heap.size + 1 + 1) 0 wL :=
    ⟨(b0.below hb3 b0.lt).below hbL (by omega), (b1.below hb3 b1.lt).below hbL (by omega), e5.below hbL (by omega), (hC.below hb3 hC.lt).below hbL (by omega), e6.below hbL (by omega), e7.below hbL (by omega), bnext (bnext hB hb3) hbL⟩
  have hvL := ((hv.below hB).below hb3).below hbL
  have hsw := hB.size
  have hseq := blocks_seq 2 (by decide) l a cap K0 wL hlen k1 hvL
  have hbx : ∀ k, msgK K0 a l.length k → k < wL.heap.size := by
    rintro k (rfl | ⟨h0, o, s, e⟩)
    · omega
    · have := hab k o s e h0; omega
  have hN1 : ¬ msgK K0 a l.length (w.heap.size + 1) := by
    rintro (h | ⟨h0, o, s, e⟩)
    · omega
    · have := hab _ o s e h0; omega
  have hN7 : ¬ msgK K0 a l.length (w2.heap.size + 1 + 1) := by
    rintro (h | ⟨h0, o, s, e⟩)
    · omega
    · have := hab _ o s e h0; omega
  have hc0 := hs0.out
  obtain ⟨c7, hc7⟩ : ∃ c7, c7 = w2.heap.size + 1 + 1 := ⟨_, rfl⟩
  obtain ⟨c6, hc6⟩ : ∃ c6, c6 = w2.heap.size + 1 := ⟨_, rfl⟩
  obtain ⟨c5, hc5⟩ : ∃ c5, c5 = w2.heap.size := ⟨_, rfl⟩
  have hord : w.heap.size + 1 < bC ∧ bC < c5 ∧ c5 < c6 ∧ c6 < c7 ∧ c7 < wL.heap.size := by omega
  rw [← hc7] at hI0 hN7 ⊢
  rw [← hc6] at hI0 ⊢
  rw [← hc5] at hI0 ⊢
  clear hc7 hc6 hc5 hK0 hsL hs3 e5 e6 e7 hb3 hbL k1 hvL hv hC b0 b1 hB hbC h1lt hClt hsw hc0 hs0 HW hnew hab
  obtain ⟨hd1, hd2, hd3, hd4, hd5⟩ := hord
  refine (wpIn_wide (n := 3)).1 ?_
  refine wpIn_rangeFunc_blk (F := Fence.wide) (n := 3) (P := Try.prog) (t := 97) (p := 17) (p' := 18) (q := 8) (q' := 9) (e := fun x : List UInt8 × Nat => x.1) (e' := fun x : List UInt8 × Nat => .int .i64 x.2) rfl (by decide) (gf := 91) (lb := #[.pointer (some ⟨K0, 0, none⟩)]) rfl trivial cf91
    (K := msgK K0 a l.length) (G := fun _ => True) (R := fun pre x => pre.length < nbl l ∧ x = (blk l pre.length, bln l pre.length)) (S := fun xs => xs = blkU l (nbl l)) (w0 := wL) hseq (Below.refl _ _) hbx
    (fun pre A => (pre = blkU l pre.length ∧ pre.length ≤ nbl l) ∧ SumI w key K l bC c5 c6 c7 pre.length A) (fun _ _ _ => False)
    (fun s A A' h k => ⟨h.1, h.2.same k (by omega) (by omega) (by omega) (by omega) (by omega)⟩) (fun _ _ _ _ h _ => h) (fun _ _ _ => trivial) ⟨⟨rfl, Nat.zero_le _⟩, hI0⟩ ?assign ?body ?done ?stop
  case assign =>
    rintro r pre x W C ⟨_, rfl⟩ hC
    simp only [setBlk, List.setIfInBounds_toArray, List.set_cons_zero, List.set_cons_succ] at hC ⊢
    have hbl := blk_length l pre.length
    obtain ⟨b, hb⟩ : ∃ b, b = blk l pre.length := ⟨_, rfl⟩
    rw [← hb] at hbl hC ⊢
    clear hb
    have hbl' := Lib.hid hbl
    clear hbl
    have HC := Lib.hid hC
    clear hC
    gi_wp2_with (first
      | ((with_reducible refine wpListIn_store_blk rfl 97 (.tmp 8) (.tmp 17) rfl W.heap.size 0 16 (bytesV b) rfl rfl (C := bytesV Z16) (t := 97) ?_ row97 ?_ ?_ (bytesV_one _) ?_); (exact Blk.new' rfl); (rw [bytesV_size, hbl'.out]); (rw [bytesV_size]; decide); intro w4 d4 o4; rw [splice_all _ _ (by rw [hbl'.out]; rfl)] at d4; have hb4 := below_only ((Below.refl W.heap.size W).alloc (Nat.le_refl _) (.cells (bytesV Z16) 97)) o4 (Nat.le_refl _))
      | fail)
    exact HC.out _ _ (Nat.le_refl _) d4 hb4
  case body =>
    rintro r pre x N g W hN1' hN2 ⟨⟨hp, hpl⟩, hI⟩ ⟨hlt, rfl⟩ hg hb
    generalize pre.length = k at *
    simp only [setBlk, List.setIfInBounds_toArray, List.set_cons_zero, List.set_cons_succ]
    have x7 := hI.p7.cell 0
    have x7f := hI.p7.frozen 0
    simp only [List.getElem?_toArray, List.getElem?_cons_zero] at x7
    have hlen2 := Lib.hid (show (pre ++ [(blk l k, bln l k)]).length = k + 1 by rw [hp, List.length_append, blkU_length]; rfl)
    have hpn := Lib.hid (show pre ++ [(blk l k, bln l k)] = blkU l (k + 1) by rw [blkU_succ, hp])
    replace hp := Lib.hid hp
    obtain ⟨SS, hSS⟩ : ∃ SS, SS = macS key l k := ⟨_, rfl⟩
    have hSl := Lib.hid (show SS.length = 16 by rw [hSS, macS_length])
    have hbkl := Lib.hid (blk_length l k)
    have hlast := nbl_last l k hlt
    rw [List.length_drop] at hlast
    obtain ⟨m, hm⟩ : ∃ m, m = bln l k := ⟨_, rfl⟩
    obtain ⟨L, hL⟩ : ∃ L, L = l.length - 16 * k := ⟨_, rfl⟩
    have hm1 : m = min 16 L := by rw [hm, hL]; rfl
    have hLn : l.length - 16 * (k + 1) = L - m := by omega
    rw [← hm, ← hL] at hlast
    rw [← hm] at hlen2 hpn ⊢
    rw [← hL] at x7
    have hm16 : m ≤ 16 := by omega
    have hmL : (m : Int) ≤ L := by omega
    have hLi : (L : Int) ≤ 100000 := by omega
    have i6 := hI.p6
    have hst := hI.st
    rw [← hSS] at hst
    replace hSS := Lib.hid hSS
    have hglt := hb.lt
    have hon := Only.setCell (b := c7) W 0 (.int .i64 ((L - m : Nat) : Int))
    by_cases hz : k + 1 = nbl l
    · have hLm : L - m = 0 := by have := hlast.2 hz; omega
      have hsub : (L : Int) - m = 0 := by omega
      obtain ⟨BB, hBB⟩ : ∃ BB, BB = macB key l k := ⟨_, rfl⟩
      have hBl := Lib.hid (show BB.length = 16 by rw [hBB, macB_length])
      have hla := Lib.hid (fun (v : World) (h : Blk v w.heap.size (bytesV key) 22) => last_any key hk w.heap.size (blk l k) (blk_length l k) m hm16 v h)
      have hBe := Lib.hid (show lastL key (blk l k) m = BB by rw [hBB, macB, if_pos hz, hm])
      replace hBB := Lib.hid hBB
      rw [hLm] at hon
      have i70 := hI.p7.set 0 (.int .i64 ((L - m : Nat) : Int))
      rw [hLm] at i70
      obtain ⟨V1, hV1⟩ : ∃ V1, V1 = W.setCell ⟨c7, 0, none⟩ (.int .i64 0) := ⟨_, rfl⟩
      have hon1 : Only c7 W V1 := by rw [hV1]; exact hon
      have v7 : Blk V1 c7 #[.int .i64 ((l.length - 16 * (k + 1) : Nat) : Int)] 3 := by rw [hLn, hLm, hV1]; exact i70
      have vb := hb.only hon1 (by omega)
      have vkb := hI.kb.only hon1 (by omega)
      have vS := hst.only hon1 (by omega)
      have v5 := hI.p5.only hon1 (by omega)
      have vC := hI.cph.only hon1 (by omega)
      have v6 := i6.only hon1 (by omega)
      have vB := below_only hI.below hon1 (by omega)
      have hKV : KeepsN N wL.heap.size (msgK K0 a l.length) W V1 := (KeepsN.refl _ _ _ _).only hon1 (.inr ⟨by omega, hN7⟩)
      have hNV : N ≤ V1.heap.size := by rw [hon1.size]; exact hN2
      have f6 := v6.cell 0
      rw [hV1] at f6
      simp only [List.getElem?_toArray, List.getElem?_cons_zero] at f6
      have HV := Lib.hid hV1
      clear hV1 hon hon1 i70 hb hI hst i6
      replace hlast := Lib.hid hlast
      replace hm := Lib.hid hm
      replace hL := Lib.hid hL
      replace hm1 := Lib.hid hm1
      replace hLn := Lib.hid hLn
      replace hLm := Lib.hid hLm
      replace hz := Lib.hid hz
      gi_wp2_with (first
        | (rw [← HV.out]; (with_reducible refine wpListIn_load_blk rfl 97 (.tmp 8) rfl g 0 16 rfl vb row97 ?_ (bytesV (blk l k)) ?_ ?_); (rw [bytesV_size, hbkl.out]; exact Nat.le_refl _); (exact bytesV_whole _ _ hbkl.out))
        | (refine ⟨trivial, ?_⟩; gi_at_call 86; refine (CallsIn.inRound r (callsIn_wide.2 (hla.out _ vkb))).mono ?_; rintro e w2 ⟨rfl, hb2⟩; rw [hBe.out])
        | ((with_reducible refine wpListIn_store_blk rfl 97 (.tmp 8) (.tmp 27) rfl g 0 16 (bytesV BB) rfl rfl (vb.below hb2 vb.lt) row97 ?_ ?_ (bytesV_one _) ?_); (rw [bytesV_size, hBl.out]); (rw [bytesV_size, hbkl.out]; exact Nat.le_refl _); intro W1 ib o3; rw [splice_all _ _ (by rw [hBl.out, hbkl.out])] at ib)
        | fail)
      have i5 := (v5.below hb2 v5.lt).only o3 (by omega)
      have iS := (vS.below hb2 vS.lt).only o3 (by omega)
      have iC := (vC.below hb2 vC.lt).only o3 (by omega)
      have ikb := (vkb.below hb2 vkb.lt).only o3 (by omega)
      have i6 := (v6.below hb2 v6.lt).only o3 (by omega)
      have i7 := (v7.below hb2 v7.lt).only o3 (by omega)
      have iB := below_only (vB.trans (hb2.mono vB.size)) o3 (by omega)
      have hKN := (hKV.next hNV hb2).only o3 (.inl hg)
      have hNW : N ≤ W1.heap.size := by rw [o3.size]; exact Nat.le_trans hNV hb2.size
      clear f6 x7 x7f
      have j5 : ∀ w', Below W1.heap.size W1 w' → w'.cell? ⟨c5, 0, none⟩ = some (.pointer (some ⟨bC, 0, none⟩)) := fun w' h => by have := (i5.below h i5.lt).cell 0; simpa using this
      have jS : ∀ w', Below W1.heap.size W1 w' → w'.rangeAt (w.heap.size + 1) 0 (bytesV SS).toList := fun w' h => by
        have := (iS.below h iS.lt).range 0 16
        rwa [bytesV_whole SS 16 hSl.out] at this
      have jb : ∀ w', Below W1.heap.size W1 w' → w'.rangeAt g 0 (bytesV BB).toList := fun w' h => by
        have := (ib.below h ib.lt).range 0 16
        rwa [bytesV_whole BB 16 hBl.out] at this
      have rS : (Try.prog.info? 97).map (·.size) = some (bytesV SS).toList.length := by rw [Array.length_toList, bytesV_size, hSl.out]; exact row97.2
      have rb : (Try.prog.info? 97).map (·.size) = some (bytesV BB).toList.length := by rw [Array.length_toList, bytesV_size, hBl.out]; exact row97.2
      have s0 : Below W1.heap.size W1 W1.drew := (Below.refl _ W1).drew
      have hpl := Lib.hid (fun w => plus_any SS BB hSl.out hBl.out w)
      have hXl := Lib.hid (show (xrL SS BB).length = 16 by rw [xrL_length, hSl.out, hBl.out]; rfl)
      have hen := Lib.hid (fun (v : World) (h : Blk v bC (bytesV (cip K)) 59) => encrypt_any K hKl.out (xrL SS BB) hXl.out (.pointer (some ⟨bC, 0, none⟩)) v (.inl ⟨bC, rfl, h⟩))
      have hnx : encR K (xrL SS BB) 10 = macS key l (k + 1) := by rw [macS, hSS.out, hBB.out, ← HK.out]
      have HN := Lib.hid hnx
      clear hnx
      refine wpIn_draw_fit (by kernel_rfl) (by kernel_rfl) (by rintro ⟨_, _, hf⟩; exact hf) ?_
      refine wpAny_of_till (S := fun w' => Below W1.heap.size W1 w') (m := 5) _ _ _ _ ?_
      refine wpAnyT_takeD 0 (some 28) [4, 5] rfl rfl (by kernel_rfl) (by kernel_rfl) (by kernel_rfl) (by kernel_rfl) (fun _ _ _ h => h) (yieldsIf_load_cell rfl 47 _ rfl _ _ rfl (fun w h => by go_simp) j5) s0 ?_
      try simp only [Act.put, List.setIfInBounds_toArray, List.set_cons_zero, List.set_cons_succ, Array.toArray_toList]
      refine wpAnyT_takeD 1 (some 29) [3, 4, 5] rfl rfl (by kernel_rfl) (by kernel_rfl) (by kernel_rfl) (by kernel_rfl) (fun _ _ _ h => h) (yieldsIf_load_mid rfl 97 _ rfl (w.heap.size + 1) 0 rfl (bytesV SS).toList _ jS Try.underlying97 rfl rS) s0 ?_
      try simp only [Act.put, List.setIfInBounds_toArray, List.set_cons_zero, List.set_cons_succ, Array.toArray_toList]
      refine wpAnyT_takeD 2 (some 30) [3, 4, 5] rfl rfl (by kernel_rfl) (by kernel_rfl) (by kernel_rfl) (by kernel_rfl) (fun _ _ _ h => h) (yieldsIf_load_mid rfl 97 _ rfl g 0 rfl (bytesV BB).toList _ jb Try.underlying97 rfl rb) s0 ?_
      try simp only [Act.put, List.setIfInBounds_toArray, List.set_cons_zero, List.set_cons_succ, Array.toArray_toList]
      refine wpAnyT_one 3 rfl (by kernel_rfl) (fun K' hK' => ?_)
      go_simp
      (go_at_call 87; (with_reducible refine (hpl.out _).mono ?_); rintro e w5 ⟨rfl, hb5⟩)
      go_wp2
      have s5 : Below W1.heap.size W1 w5 := s0.trans (hb5.mono (Nat.le_refl _))
      refine hK'.out _ _ (.inr s5) ?_; clear hK' K'; try simp only [Act.put, List.setIfInBounds_toArray, List.set_cons_zero, List.set_cons_succ]
      refine wpAnyT_one 4 rfl (by kernel_rfl) (fun K' hK' => ?_)
      go_simp
      (go_at_call 40; (with_reducible refine (hen.out _ (iC.below s5 iC.lt)).mono ?_); rintro e w6 ⟨rfl, hb6⟩)
      go_wp2
      have s6 : Below W1.heap.size W1 w6 := s5.trans (hb6.mono s5.size)
      refine hK'.out _ _ (.inr s6) ?_; clear hK' K'; try simp only [Act.put, List.setIfInBounds_toArray, List.set_cons_zero, List.set_cons_succ]
      refine wpAnyT_one 5 rfl (by kernel_rfl) (fun K' hK' => ?_)
      refine ite_go rfl ?_
      refine wp_store_blk 97 (.tmp 4) (.tmp 32) rfl (w.heap.size + 1) 0 16 _ rfl rfl (iS.below s6 iS.lt) row97 (by rw [bytesV_size, encR_length]) (by rw [bytesV_size, hSl.out]; exact Nat.le_refl _) (bytesV_one _) ?_
      intro wz iz oz
      rw [splice_all _ _ (by rw [hSl.out, encR_length]), HN.out] at iz
      refine hK'.out _ _ (.inl rfl) ?_; clear hK' K'; try simp only [Act.put, List.setIfInBounds_toArray, List.set_cons_zero, List.set_cons_succ]
      refine wpAnyT_done (by kernel_rfl) ?_ _
      have hfin : SumI w key K l bC c5 c6 c7 (k + 1) wz :=
        ⟨(ikb.below s6 ikb.lt).only oz (by omega), iz, (i5.below s6 i5.lt).only oz (by omega), (iC.below s6 iC.lt).only oz (by omega), (i6.below s6 i6.lt).only oz (by omega), (i7.below s6 i7.lt).only oz (by omega), below_only (iB.trans (s6.mono iB.size)) oz (by omega)⟩
      have hkeep := (hKN.next hNW s6).only oz (.inr ⟨by omega, hN1⟩)
      gi_wp2
      exact ⟨hkeep, ⟨by rw [hlen2.out]; exact hpn.out, by rw [hlen2.out]; omega⟩, by rw [hlen2.out]; exact hfin⟩
    · obtain ⟨L', hL'⟩ : ∃ L', L' = L - m := ⟨_, rfl⟩
      have hLp : 0 < L' := by
        have : ¬ m = L := fun h => hz (hlast.1 h)
        omega
      have hsub : (L : Int) - m = L' := by omega
      have hne : ¬ (L' : Int) = 0 := by omega
      obtain ⟨BB, hBB⟩ : ∃ BB, BB = blk l k := ⟨_, rfl⟩
      rw [← hBB] at hb hbkl hlen2 hpn ⊢
      have hBB2 : BB = macB key l k := by rw [macB, if_neg hz, hBB]
      have hBl := hbkl
      clear hBB
      have hBB := Lib.hid hBB2
      clear hBB2
      rw [← hL'] at hon
      have i70 := hI.p7.set 0 (.int .i64 (L' : Int))
      obtain ⟨W1, hV1⟩ : ∃ V1, V1 = W.setCell ⟨c7, 0, none⟩ (.int .i64 (L' : Int)) := ⟨_, rfl⟩
      have hon1 : Only c7 W W1 := by rw [hV1]; exact hon
      have i7 : Blk W1 c7 #[.int .i64 ((l.length - 16 * (k + 1) : Nat) : Int)] 3 := by rw [hLn, ← hL', hV1]; exact i70
      have ib := hb.only hon1 (by omega)
      have ikb := hI.kb.only hon1 (by omega)
      have iS := hst.only hon1 (by omega)
      have i5 := hI.p5.only hon1 (by omega)
      have iC := hI.cph.only hon1 (by omega)
      replace i6 := i6.only hon1 (by omega)
      have iB := below_only hI.below hon1 (by omega)
      have hKN : KeepsN N wL.heap.size (msgK K0 a l.length) W W1 := (KeepsN.refl _ _ _ _).only hon1 (.inr ⟨by omega, hN7⟩)
      have hNW : N ≤ W1.heap.size := by rw [hon1.size]; exact hN2
      have HV := Lib.hid hV1
      clear hV1 hon hon1 i70 hb hI hst
      replace hlast := Lib.hid hlast
      replace hm := Lib.hid hm
      replace hL := Lib.hid hL
      replace hL' := Lib.hid hL'
      replace hm1 := Lib.hid hm1
      replace hLn := Lib.hid hLn
      gi_wp2
      rw [← HV.out]
      clear x7 x7f
      have j5 : ∀ w', Below W1.heap.size W1 w' → w'.cell? ⟨c5, 0, none⟩ = some (.pointer (some ⟨bC, 0, none⟩)) := fun w' h => by have := (i5.below h i5.lt).cell 0; simpa using this
      have jS : ∀ w', Below W1.heap.size W1 w' → w'.rangeAt (w.heap.size + 1) 0 (bytesV SS).toList := fun w' h => by
        have := (iS.below h iS.lt).range 0 16
        rwa [bytesV_whole SS 16 hSl.out] at this
      have jb : ∀ w', Below W1.heap.size W1 w' → w'.rangeAt g 0 (bytesV BB).toList := fun w' h => by
        have := (ib.below h ib.lt).range 0 16
        rwa [bytesV_whole BB 16 hBl.out] at this
      have rS : (Try.prog.info? 97).map (·.size) = some (bytesV SS).toList.length := by rw [Array.length_toList, bytesV_size, hSl.out]; exact row97.2
      have rb : (Try.prog.info? 97).map (·.size) = some (bytesV BB).toList.length := by rw [Array.length_toList, bytesV_size, hBl.out]; exact row97.2
      have s0 : Below W1.heap.size W1 W1.drew := (Below.refl _ W1).drew
      have hpl := Lib.hid (fun w => plus_any SS BB hSl.out hBl.out w)
      have hXl := Lib.hid (show (xrL SS BB).length = 16 by rw [xrL_length, hSl.out, hBl.out]; rfl)
      have hen := Lib.hid (fun (v : World) (h : Blk v bC (bytesV (cip K)) 59) => encrypt_any K hKl.out (xrL SS BB) hXl.out (.pointer (some ⟨bC, 0, none⟩)) v (.inl ⟨bC, rfl, h⟩))
      have hnx : encR K (xrL SS BB) 10 = macS key l (k + 1) := by rw [macS, hSS.out, hBB.out, ← HK.out]
      have HN := Lib.hid hnx
      clear hnx
      refine wpIn_draw_fit (by kernel_rfl) (by kernel_rfl) (by rintro ⟨_, _, hf⟩; exact hf) ?_
      refine wpAny_of_till (S := fun w' => Below W1.heap.size W1 w') (m := 5) _ _ _ _ ?_
      refine wpAnyT_takeD 0 (some 28) [4, 5] rfl rfl (by kernel_rfl) (by kernel_rfl) (by kernel_rfl) (by kernel_rfl) (fun _ _ _ h => h) (yieldsIf_load_cell rfl 47 _ rfl _ _ rfl (fun w h => by go_simp) j5) s0 ?_
      try simp only [Act.put, List.setIfInBounds_toArray, List.set_cons_zero, List.set_cons_succ, Array.toArray_toList]
      refine wpAnyT_takeD 1 (some 29) [3, 4, 5] rfl rfl (by kernel_rfl) (by kernel_rfl) (by kernel_rfl) (by kernel_rfl) (fun _ _ _ h => h) (yieldsIf_load_mid rfl 97 _ rfl (w.heap.size + 1) 0 rfl (bytesV SS).toList _ jS Try.underlying97 rfl rS) s0 ?_
      try simp only [Act.put, List.setIfInBounds_toArray, List.set_cons_zero, List.set_cons_succ, Array.toArray_toList]
      refine wpAnyT_takeD 2 (some 30) [3, 4, 5] rfl rfl (by kernel_rfl) (by kernel_rfl) (by kernel_rfl) (by kernel_rfl) (fun _ _ _ h => h) (yieldsIf_load_mid rfl 97 _ rfl g 0 rfl (bytesV BB).toList _ jb Try.underlying97 rfl rb) s0 ?_
      try simp only [Act.put, List.setIfInBounds_toArray, List.set_cons_zero, List.set_cons_succ, Array.toArray_toList]
      refine wpAnyT_one 3 rfl (by kernel_rfl) (fun K' hK' => ?_)
      go_simp
      (go_at_call 87; (with_reducible refine (hpl.out _).mono ?_); rintro e w5 ⟨rfl, hb5⟩)
      go_wp2
      have s5 : Below W1.heap.size W1 w5 := s0.trans (hb5.mono (Nat.le_refl _))
      refine hK'.out _ _ (.inr s5) ?_; clear hK' K'; try simp only [Act.put, List.setIfInBounds_toArray, List.set_cons_zero, List.set_cons_succ]
      refine wpAnyT_one 4 rfl (by kernel_rfl) (fun K' hK' => ?_)
      go_simp
      (go_at_call 40; (with_reducible refine (hen.out _ (iC.below s5 iC.lt)).mono ?_); rintro e w6 ⟨rfl, hb6⟩)
      go_wp2
      have s6 : Below W1.heap.size W1 w6 := s5.trans (hb6.mono s5.size)
      refine hK'.out _ _ (.inr s6) ?_; clear hK' K'; try simp only [Act.put, List.setIfInBounds_toArray, List.set_cons_zero, List.set_cons_succ]
      refine wpAnyT_one 5 rfl (by kernel_rfl) (fun K' hK' => ?_)
      refine ite_go rfl ?_
      refine wp_store_blk 97 (.tmp 4) (.tmp 32) rfl (w.heap.size + 1) 0 16 _ rfl rfl (iS.below s6 iS.lt) row97 (by rw [bytesV_size, encR_length]) (by rw [bytesV_size, hSl.out]; exact Nat.le_refl _) (bytesV_one _) ?_
      intro wz iz oz
      rw [splice_all _ _ (by rw [hSl.out, encR_length]), HN.out] at iz
      refine hK'.out _ _ (.inl rfl) ?_; clear hK' K'; try simp only [Act.put, List.setIfInBounds_toArray, List.set_cons_zero, List.set_cons_succ]
      refine wpAnyT_done (by kernel_rfl) ?_ _
      have hfin : SumI w key K l bC c5 c6 c7 (k + 1) wz :=
        ⟨(ikb.below s6 ikb.lt).only oz (by omega), iz, (i5.below s6 i5.lt).only oz (by omega), (iC.below s6 iC.lt).only oz (by omega), (i6.below s6 i6.lt).only oz (by omega), (i7.below s6 i7.lt).only oz (by omega), below_only (iB.trans (s6.mono iB.size)) oz (by omega)⟩
      have hkeep := (hKN.next hNW s6).only oz (.inr ⟨by omega, hN1⟩)
      gi_wp2
      exact ⟨hkeep, ⟨by rw [hlen2.out]; exact hpn.out, by rw [hlen2.out]; omega⟩, by rw [hlen2.out]; exact hfin⟩
  case done =>
    rintro D xs A hD hS ⟨⟨hp, hpl⟩, hI⟩ hK'
    have hxl : xs.length = nbl l := by rw [hS, blkU_length]
    rw [hxl] at hI
    have hst := hI.st
    have hcl := Lib.hid (cmacL_length key l)
    have hst' : Blk A (w.heap.size + 1) (bytesV (cmacL key l)) 97 := hst
    obtain ⟨CM, hCM⟩ : ∃ CM, CM = cmacL key l := ⟨_, rfl⟩
    rw [← hCM] at hst' hcl hQ
    have hDne : D ≠ w.heap.size + 1 := by omega
    have hBA := hI.below
    clear hst hI hp hS hCM hxl
    go_wp2_with (first
      | ((with_reducible refine wpList_load_blk rfl 97 (.tmp 4) rfl (w.heap.size + 1) 0 16 rfl hst' row97 ?_ (bytesV CM) ?_ ?_); (rw [bytesV_size, hcl.out]; exact Nat.le_refl _); (exact bytesV_whole _ _ hcl.out))
      | ((with_reducible refine wpList_store_blk rfl 97 (.tmp 4) (.tmp 33) rfl (w.heap.size + 1) 0 16 (bytesV CM) rfl rfl hst' row97 ?_ ?_ (bytesV_one _) ?_); (rw [bytesV_size, hcl.out]); (rw [bytesV_size, hcl.out]; exact Nat.le_refl _); intro A2 d2 o2; rw [splice_all _ _ rfl] at d2)
      | fail)
    rw [← hQ.out]
    have hK2 : A2.heap[D]? = some (.deferred (some [])) := (o2.block D hDne).trans hK'
    refine ⟨by simp, .inl ⟨_, _, rfl, run_takeDeferred hK2, ?_⟩⟩
    have d3 : Blk (A2.putObj D (.deferred none)) (w.heap.size + 1) (bytesV CM) 97 := d2.below (below_put (B := w.heap.size + 2) A2 D _ (by omega)) (by omega)
    exact ⟨_, results_blk rfl _ _ _ (bytesV CM) 97 16 rfl d3 row97 (by rw [bytesV_size, hcl.out]), rfl, (below_only hBA o2 (by omega)).trans (below_put _ _ _ (by omega))⟩
  case stop =>
    rintro D cd pre A hD hf hK'
    exact hf.elim
end Go.Proofs.Ytdgmahgidmjniaa
