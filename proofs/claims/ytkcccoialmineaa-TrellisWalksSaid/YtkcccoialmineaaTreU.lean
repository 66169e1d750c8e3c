/-
  The trellis, walks over states: the iterator.
-/
import Derived.Test.YtkcccoialmineaaTreT
set_option linter.unusedSimpArgs false
set_option linter.unusedVariables false
namespace Go.Proofs.Ytkcccoialmineaa
open Go.RowKit
attribute [-go_sem] Instr.build
attribute [local go_sem] Oper.semAt_some

section
variable {F : Fence} {n : Nat} {P : Program}
/-- A range over a function whose body takes the second variable alone. -/
theorem wpIn_rangeFunc_snd {α : Type} {f : Operand} {p p' q' : Tmp} {e e' : α → Value} {assign body : Code} {Q : Exit → Act → World → Prop} {a : Act} {w : World}
    (hro : F.round = none) (h1 : 1 ≤ n) {gf : Nat} {lb : Array Value} (hg : a.eval f = .func (.func gf) #[] lb) (hFg : F.fn gf) (eg : ∀ args w, (callFunc gf args).run P w = .ok (.enter gf args) w)
    {K : Nat → Prop} {R : List α → α → Prop} {S : List α → Prop} {w0 : World} (hseq : SeqK F (n - 1) P gf lb (fun x => #[e x, e' x]) K R S w0)
    (hb0 : Below w0.heap.size w0 w) (hKw : ∀ k, K k → k < w.heap.size)
    (I : List α → World → Prop) (Ix : Code → List α → World → Prop) (hI : ∀ s A A', I s A → KeepsP (fun k => k ≠ w.heap.size + 1) A A' → I s A') (hIx : ∀ c s A A', Ix c s A → KeepsP (fun k => k ≠ w.heap.size + 1) A A' → Ix c s A') (h0 : I [] w)
    (hassign : ∀ (l : Nat) (x : α) (W : World) (C : Act → World → Prop), C { tmps := ((a.tmps.setIfInBounds p (e x)).setIfInBounds p' (e' x)).setIfInBounds q' (e' x), defers := [] } W →
      assign.wpIn (F.inRound l) (n - 1 - 1) P (Exit.then C (fun _ _ _ => False)) { tmps := (a.tmps.setIfInBounds p (e x)).setIfInBounds p' (e' x), defers := [] } W)
    (hbody : ∀ (l : Nat) (pre : List α) (x : α) (W : World), w.heap.size + 2 ≤ W.heap.size → I pre W → R pre x →
      body.wpIn (F.inRound l) (n - 1 - 1) P (ownPostK (fun k => K k ∨ k = w.heap.size ∨ k = w.heap.size + 1) I Ix (pre ++ [x]) W) { tmps := ((a.tmps.setIfInBounds p (e x)).setIfInBounds p' (e' x)).setIfInBounds q' (e' x), defers := [] } W)
    (hdone : ∀ (D : Nat) (xs : List α) (W : World), w.heap.size ≤ D → S xs → I xs W → W.heap[D]? = some (.deferred (some [])) → Q .normal { a with defers := { target := .collected D, args := #[] } :: a.defers } W)
    (hstop : ∀ (D : Nat) (c : Code) (pre : List α) (W : World), w.heap.size ≤ D → Ix c pre W → W.heap[D]? = some (.deferred (some [])) → c.wpIn F n P Q { a with defers := { target := .collected D, args := #[] } :: a.defers } W) :
    (Code.rangeFunc f #[p, p'] assign body).wpIn F n P Q a w :=
  wpIn_rangeFunc_keep hro h1 hg hFg eg hseq hb0 hKw (fun _ => rfl) I Ix hI hIx h0 (fun x _ a' _ => a' = { tmps := ((a.tmps.setIfInBounds p (e x)).setIfInBounds p' (e' x)).setIfInBounds q' (e' x), defers := [] })
    (fun _ _ _ _ _ _ h _ => h)
    (fun l _ x W C _ _ _ hC => by have := hassign l x W C (hC _ _ (Below.refl _ _) rfl); simpa using this)
    (fun l pre x a' W0 W hN hi hk hr ha => by subst ha; exact hbody l pre x W (Nat.le_trans hN hk.size) (hI _ _ _ hi hk) hr) hdone hstop
end
theorem own_keepsP {K : Nat → Prop} {W W' : World} {base size n : Nat} {e : TypeId} {v : Value} {xs : List Value} (h : W.ownsRow base e size v n xs) (k : KeepsP K W W') (hb : ∀ g, v.ownBlock = some g → K g) : W'.ownsRow base e size v n xs := by
  obtain ⟨hl, ⟨rfl, h0⟩ | ⟨g, cap, cur, rfl, hb', hh, h1, h2, h3, h4⟩⟩ := h
  · exact ⟨hl, .inl ⟨rfl, h0⟩⟩
  · exact ⟨hl, .inr ⟨g, cap, cur, rfl, hb', (k.same g (lt_of_block hh) (hb g rfl)).trans hh, h1, h2, h3, h4⟩⟩
theorem Keeps.toP {B : Nat} {K K' : Nat → Prop} {W W' : World} (h : Keeps B K W W') (hK : ∀ k, K' k → B ≤ k ∨ K k) : KeepsP K' W W' := ⟨h.os, h.tape, h.output, h.size, fun k hk hi => h.same k hk (hK k hi)⟩
theorem KeepsP.toB {B : Nat} {K : Nat → Prop} {W W' : World} (h : KeepsP K W W') (hB : B ≤ W.heap.size) (hK : ∀ k, k < B → K k) : Below B W W' := ⟨h.os, h.tape, h.output, h.size, fun k hk => h.same k (by omega) (hK k hk)⟩
theorem Keeps.sub {B0 B : Nat} {K : Nat → Prop} {W A A' : World} (h : Keeps B0 K W A) (k : Below B A A') (hB : W.heap.size ≤ B) : Keeps B0 K W A' :=
  ⟨k.os.trans h.os, k.tape.trans h.tape, k.output.trans h.output, Nat.le_trans h.size k.size, fun i hi hk => (k.block i (by omega)).trans (h.same i hi hk)⟩
/-- What lies when i bits have come. -/
structure WalkI (W : World) (l : List UInt8) (lp : Nat) (J : List (Nat × Nat) → World → Prop) (K : Nat → Prop) (base i : Nat) (A : World) : Prop where
  j : J (wkL l i) A
  yld : Blk A W.heap.size #[.func (.yield lp) #[] #[]] 35
  enc : ∃ v, Blk A (W.heap.size + 1) (enc (stt 0 (l.take i)) v) 70 ∧ A.ownsRow base 5 1 v (par 0 (l.take i)).length ((par 0 (l.take i)).map B)
  keep : Keeps W.heap.size K W A
theorem WalkI.same {W : World} {l : List UInt8} {lp : Nat} {J : List (Nat × Nat) → World → Prop} {K : Nat → Prop} {base i N : Nat} {A A' : World} (h : WalkI W l lp J K base i A) (hJ : ∀ s A A', J s A → Below W.heap.size A A' → J s A') (hN : W.heap.size + 1 < N) (hb : N < base) (k : KeepsP (fun k => k ≠ N) A A') : WalkI W l lp J K base i A' := by
  have hs := h.keep.size
  have hB : Below W.heap.size A A' := k.toB hs fun i hi => by omega
  obtain ⟨v, h1, h2⟩ := h.enc
  exact ⟨hJ _ _ _ h.j hB, h.yld.keepsP k (by omega), ⟨v, h1.keepsP k (by omega), own_keepsP h2 k fun g hg => by have := (h2.lt g hg).1; omega⟩, h.keep.sub hB (Nat.le_refl _)⟩
set_option maxRecDepth 100000 in
set_option maxHeartbeats 8000000 in
theorem walk_seq (n : Nat) (l : List UInt8) (kk : Nat) (hv : vld l kk) (a : Option Addr) (cap k1 : Nat) (w : World) (hlen : l.length ≤ 10000) (hk1 : Blk w k1 #[.slice a l.length cap] 36) (hb : Byt w a l) (hne : ∀ b o, a = some ⟨b, o, none⟩ → b < w.heap.size) :
    SeqAt Fence.wide n Try.prog 42 #[.pointer (some ⟨k1, 0, none⟩)] (fun x : Nat × Nat => #[.int .i64 x.1, .int .i64 x.2])
      (rowK k1 a) (fun _ => True) (fun pre x => pre.length < kk ∧ pre = wkL l pre.length ∧ x = wkAt l pre.length) (fun xs => xs = wkL l kk) w := fun lp J Jx W hW hJ hJx hG hY h0 => by
  have d1 := hk1.below hW hk1.lt
  have db := hb.cells hW
  have hne' : ∀ b o, a = some ⟨b, o, none⟩ → b < W.heap.size := fun b o e => Nat.lt_of_lt_of_le (hne b o e) hW.size
  have f1 := d1.cell 0
  simp only [List.getElem?_toArray, List.getElem?_cons_zero] at f1
  have hlt1 := d1.lt
  refine (callsIn_wide (n := n)).2 ((callsIn_wide (n := 3)).1 ?_)
  refine callsIn_of_wp_marks Try.func42 rfl trivial ?_ rfl
  generalize hQ : bodyPostM Fence.wide 3 Try.prog _ _ = Q
  replace hQ := Lib.hid hQ
  simp only [Try.ntmps42, List.size_toArray, List.length_cons, List.length_nil, Nat.reduceAdd, Nat.reduceSub, Array.replicate_succ, Array.replicate_zero, List.push_toArray, List.append_toArray, List.nil_append, List.cons_append]
  refine (wpIn_wide).2 ?_
  have hY' := Lib.hid hY
  clear hY hG hb hk1 hW hne
  go_wp2
  refine wp_scope_straight ?_
  go_wp2
  refine wp_label ?_
  obtain ⟨W1, hW1⟩ : ∃ W1, W1 = (W.alloc (.cells #[.func (.yield lp) #[] #[]] 35)).alloc (.cells #[.int .i64 0, .int .i64 0, .int .i64 0, .slice none 0 0] 70) := ⟨_, rfl⟩
  rw [← hW1]
  have hb1 : Below W.heap.size W W1 := by rw [hW1]; exact ((Below.refl _ _).alloc (Nat.le_refl _) _).alloc (by simp) _
  have e2 : Blk W1 W.heap.size #[.func (.yield lp) #[] #[]] 35 := by rw [hW1]; exact (Blk.new' rfl).alloc _
  have e3 : Blk W1 (W.heap.size + 1) (enc 0 (.slice none 0 0)) 70 := by rw [hW1]; exact Blk.new' (by simp)
  have d1' := d1.below hb1 d1.lt
  have g1 := d1'.cell 0
  simp only [List.getElem?_toArray, List.getElem?_cons_zero] at g1
  clear hW1
  go_wp2_with (first
    | (go_at_call 43; refine (all_any _ _ _ _).mono ?_; rintro e wL ⟨k2, hk2, rfl, hk2b, hbL, hsL⟩; replace hk2 := Lib.hid hk2; replace hsL := Lib.hid hsL)
    | fail)
  replace hk2 := hk2.out
  replace hsL := hsL.out
  have hs1 := e3.lt
  have hw1 := hb1.size
  have dbL := (db.cells hb1).cells hbL
  have d1L := d1'.below hbL d1'.lt
  have e2L := e2.below hbL e2.lt
  have e3L := e3.below hbL e3.lt
  have hkL : Keeps W.heap.size (rowK k1 a) W wL := ((Keeps.refl _ _ W).next hb1).next hbL
  have h0L : J [] wL := hJ _ _ _ (hJ _ _ _ h0 hb1) (hbL.mono hb1.size)
  have hseq := allk_seq Fence.wide 2 trivial rfl (by decide) l a cap k2 wL (by omega) hk2b dbL
  have hbx : ∀ k, rowK k2 a k → k < wL.heap.size := by
    rintro k (rfl | ⟨o, e⟩)
    · omega
    · have := hne' k o e; omega
  have hN3 : ¬ rowK k2 a (W.heap.size + 1) := by
    rintro (h | ⟨o, e⟩)
    · omega
    · have := hne' _ o e; omega
  have HJ := Lib.hid hJ
  have HJx := Lib.hid hJx
  have HN := Lib.hid hne'
  have HV := Lib.hid hv
  clear hJ hJx hne' h0 db d1 d1' f1 g1 e2 e3 hk2b hb1 hbL hv
  refine (wpIn_wide (n := 3)).1 ?_
  refine wpIn_rangeFunc_snd (F := Fence.wide) (n := 3) (P := Try.prog) (p := 9) (p' := 10) (q' := 5) (e := fun x : Nat × UInt8 => .int .i64 x.1) (e' := fun x : Nat × UInt8 => .int .u8 x.2.toNat) (K := rowK k2 a)
    (R := fun pre x => pre.length < l.length ∧ x = (pre.length, gd l pre.length)) (S := fun xs => xs = upA l l.length) (w0 := wL) (lb := #[.pointer (some ⟨k2, 0, none⟩)]) rfl (by decide) (gf := 45) rfl trivial cf45 hseq (Below.refl _ _) hbx
    (fun pre A => (pre = upA l pre.length ∧ pre.length ≤ kk) ∧ WalkI W l lp J (rowK k1 a) (wL.heap.size + 2) pre.length A)
    (fun cd _ A => cd = .exit 0 ∧ (J (wkL l kk) A ∨ ∃ pr, Jx pr A) ∧ W.heap.size ≤ A.heap.size)
    (fun s A A' h k => ⟨h.1, h.2.same HJ.out (by omega) (by omega) k⟩)
    (fun cd s A A' h k => ⟨h.1, by have hB : Below W.heap.size A A' := k.toB h.2.2 (fun i hi => by omega); exact h.2.1.imp (fun hj => HJ.out _ _ _ hj hB) (fun hj => hj.imp fun pr hp => HJx.out _ _ _ hp hB), Nat.le_trans h.2.2 k.size⟩)
    ⟨⟨rfl, Nat.zero_le _⟩, ⟨h0L, e2L, ⟨_, e3L, World.ownsRow_nil _ _ _ _⟩, hkL⟩⟩ ?assign ?body ?done ?stop
  case assign =>
    intro l' x A C hC
    simp only [List.setIfInBounds_toArray, List.set_cons_zero, List.set_cons_succ] at hC ⊢
    gi_wp2
    exact hC
  case body =>
    rintro r pre x A hsz ⟨⟨hp, hpl⟩, hI⟩ ⟨hlt, rfl⟩
    generalize pre.length = i at *
    simp only [List.setIfInBounds_toArray, List.set_cons_zero, List.set_cons_succ]
    have hlen2 : (pre ++ [(i, gd l i)]).length = i + 1 := by rw [hp, List.length_append, upA_length]; rfl
    have hpn : pre ++ [(i, gd l i)] = upA l (i + 1) := by rw [upA_succ, hp]
    replace hp := Lib.hid hp
    replace hpn := Lib.hid hpn
    replace hlen2 := Lib.hid hlen2
    have hsA := hI.keep.size
    by_cases hbit : (gd l i).toNat < 2
    · have hik : i < kk := by
        rcases Nat.lt_or_ge i kk with h | h
        · exact h
        · have hv := HV.out
          have : i = kk := by omega
          subst this
          rcases hv.2.2 with h | h <;> omega
      obtain ⟨v, he, ho⟩ := hI.enc
      have hst := stt_lt 0 (by decide) (l.take i)
      have hN := stt_take 0 l i hlt
      have hP := par_take 0 l i hlt
      have hpL := par_length 0 (l.take i)
      obtain ⟨m, hm⟩ : ∃ m, m = par 0 (l.take i) := ⟨_, rfl⟩
      rw [← hm] at ho hP hpL
      have hml : m.length ≤ 10000 := by rw [hpL, List.length_take]; omega
      have hwk : wkAt l i = (stt 0 (l.take (i + 1)), pr (stt 0 (l.take i)) (gd l i).toNat) := rfl
      have hp2 := pr_lt (stt 0 (l.take i)) (gd l i).toNat
      have hnl := nx_lt (stt 0 (l.take i)) (gd l i).toNat hst
      have htk := fun A he ho hb => takes_any (stt 0 (l.take i)) (gd l i).toNat hst hbit (W.heap.size + 1) (wL.heap.size + 2) v m A (by omega) hb he ho (by omega)
      rw [hN] at hwk
      rw [← hN] at hnl
      obtain ⟨s1, hs1e⟩ : ∃ s1, s1 = stt 0 (l.take (i + 1)) := ⟨_, rfl⟩
      rw [← hN, ← hs1e] at htk hwk
      rw [← hs1e] at hnl
      obtain ⟨p, hpe⟩ : ∃ p, p = pr (stt 0 (l.take i)) (gd l i).toNat := ⟨_, rfl⟩
      rw [← hpe] at htk hwk hp2 hP
      obtain ⟨b, hbe⟩ : ∃ b, b = (gd l i).toNat := ⟨_, rfl⟩
      rw [← hbe] at htk hbit ⊢
      have hk9 : IntKind.i64.wrap (b : Int) = (b : Int) := IntWalk.i64_in _ (by omega)
      have hn1 : ¬ (1 : Int) < (b : Int) := by omega
      have HS1 := Lib.hid hs1e
      have HP := Lib.hid hP
      have HTK := Lib.hid htk
      have HWK := Lib.hid hwk
      have HYD := Lib.hid hI.yld
      have HKP := Lib.hid hI.keep
      have HJI := Lib.hid hI.j
      have HE := Lib.hid he
      have HOW := Lib.hid ho
      have HSQ := Lib.hid hseq
      clear hm hpe hbe hP hN hwk htk hs1e hI he ho hseq hst hpL e2L e3L hkL h0L dbL d1L
      gi_wp2_with (refine ⟨trivial, ?_⟩; gi_at_call 34; go_loud (refine callsIn_wide.2 ?_; refine (HTK.out _ HE.out HOW.out hsz).mono ?_; rintro e A1 ⟨rfl, v', he1, ho1, hbt⟩))
      obtain ⟨A2, hA2⟩ : ∃ A2, A2 = A1.drew := ⟨_, rfl⟩
      have hb2 : Below A1.heap.size A1 A2 := by rw [hA2]; exact (Below.refl _ _).drew
      have hbt1 : Below W.heap.size A A1 := ⟨hbt.os, hbt.tape, hbt.output, hbt.size, fun k hk => hbt.block k (by omega) (by omega)⟩
      have hs21 := hb2.size
      have hst1 := hbt.size
      have hyl2 := (HYD.out.but hbt (by omega) (by omega)).below hb2 (HYD.out.but hbt (by omega) (by omega)).lt
      have y2 := hyl2.cell 0
      simp only [List.getElem?_toArray, List.getElem?_cons_zero] at y2
      have hyc := Lib.hid (fun w5 (hb5 : Below A2.heap.size A2 w5) => by have := (hyl2.below hb5 hyl2.lt).cell 0; simpa using this)
      have hee2 := he1.below hb2 he1.lt
      have hrg : A2.rangeAt (W.heap.size + 1) 0 (rg s1).toList := by
        have := hee2.range 0 3
        rwa [enc_rg] at this
      replace hrg := Lib.hid hrg
      have hst := Lib.hid (fun w => state_any s1 hnl w)
      have hyy := Lib.hid (fun w5 (hb5 : Below A2.heap.size A2 w5) => by
        have := hY'.out (wkL l i) (wkAt l i) w5 (HJ.out _ _ _ (HJ.out _ _ _ (HJ.out _ _ _ HJI.out hbt1) (hb2.mono (by omega))) (hb5.mono (by omega))) ⟨by rw [wkL_length]; exact hik, by rw [wkL_length], by rw [wkL_length]⟩
        rw [← wkL_succ] at this
        rwa [HWK.out] at this)
      have hmid : ∀ w5, Below A2.heap.size A2 w5 → ∀ W3, Keeps W.heap.size (rowK k1 a) w5 W3 → KeepsP (fun k => rowK k2 a k ∨ k = wL.heap.size ∨ k = wL.heap.size + 1) A W3 := fun w5 hb5 W3 hk3 => by
        have q1 : KeepsP (fun k => rowK k2 a k ∨ k = wL.heap.size ∨ k = wL.heap.size + 1) A A1 := ⟨hbt.os, hbt.tape, hbt.output, hbt.size, fun k hk h => hbt.block k (by rcases h with h | h | h; (have := hbx k h; omega); omega; omega) (fun e => by subst e; rcases h with h | h | h; exact hN3 h; omega; omega)⟩
        refine ((q1.trans (KeepsP.below hb2 _)).trans (KeepsP.below hb5 _)).trans (hk3.toP fun k h => ?_)
        rcases h with (h | ⟨o, h⟩) | h | h
        · exact .inl (by omega)
        · exact .inr (.inr ⟨o, h⟩)
        · exact .inl (by omega)
        · exact .inl (by omega)
      have hend := Lib.hid (fun w5 (hb5 : Below A2.heap.size A2 w5) W3 (hj : J (wkL l (i + 1)) W3) (hk3 : Keeps W.heap.size (rowK k1 a) w5 W3) => by
        have hf := hmid w5 hb5 W3 hk3
        have hee5 := hee2.below hb5 hee2.lt
        have ho5 := own_below (own_below ho1 hb2) hb5
        have hkk : Keeps W.heap.size (rowK k1 a) W W3 := ((HKP.out.sub hbt1 (Nat.le_refl _)).sub (hb2.mono (by omega)) (Nat.le_refl _) |>.sub (hb5.mono (by omega)) (Nat.le_refl _)).trans hk3
        exact (⟨hf, ⟨by rw [hlen2.out]; exact hpn.out, by rw [hlen2.out]; omega⟩, by
          rw [hlen2.out]
          refine ⟨hj, ((hyl2.below hb5 hyl2.lt).keeps hk3 (.inl (Nat.le_refl _))), ⟨v', ?_, ?_⟩, hkk⟩
          · rw [← HS1.out]; exact hee5.keeps hk3 (.inl (by omega))
          · rw [HP.out]; exact own_keepsP ho5 (hk3.toP (K' := fun k => W.heap.size ≤ k) fun k h => .inl h) fun g hg => by have := (ho5.lt g hg).1; omega⟩ :
          KeepsP (fun k => rowK k2 a k ∨ k = wL.heap.size ∨ k = wL.heap.size + 1) A W3 ∧ ((pre ++ [(i, gd l i)] = upA l (pre ++ [(i, gd l i)]).length ∧ (pre ++ [(i, gd l i)]).length ≤ kk) ∧ WalkI W l lp J (rowK k1 a) (wL.heap.size + 2) (pre ++ [(i, gd l i)]).length W3)))
      have hstp := Lib.hid (fun w5 (hb5 : Below A2.heap.size A2 w5) W3 (hj : Jx (wkL l (i + 1)) W3) (hk3 : Keeps W.heap.size (rowK k1 a) w5 W3) =>
        (⟨hmid w5 hb5 W3 hk3, .inr ⟨_, hj⟩, by have := hk3.size; have := hb5.size; omega⟩ :
          KeepsP (fun k => rowK k2 a k ∨ k = wL.heap.size ∨ k = wL.heap.size + 1) A W3 ∧ ((J (wkL l kk) W3 ∨ ∃ pr, Jx pr W3) ∧ W.heap.size ≤ W3.heap.size)))
      clear hmid hee2 hyl2 hbt1 hbt he1 ho1 hb2
      refine wpIn_region_any (by kernel_rfl) ?_
      change wpAnyIn _ _ _ _ _ _ _ _ _ A1.drew
      rw [← hA2]
      clear hA2
      refine wpAnyIn_ready (rs := [0, 1, 4]) (by kernel_rfl) (by simp) ?_
      refine AllReadyIn.cons rfl (fun K' hK' => ?_) ?_
      · refine ite_go rfl ?_
        gi_step
        refine hK' _ _ ?_; clear hK' K'; try simp only [Act.put, List.setIfInBounds_toArray, List.set_cons_zero, List.set_cons_succ, Array.toArray_toList]
        refine wpAnyIn_ready (rs := [1, 4]) (by kernel_rfl) (by simp) ?_
        refine AllReadyIn.cons rfl (fun K' hK' => ?_) ?_
        · refine ite_go rfl ?_
          gi_step
          refine hK' _ _ ?_; clear hK' K'; try simp only [Act.put, List.setIfInBounds_toArray, List.set_cons_zero, List.set_cons_succ, Array.toArray_toList]
          refine wpAnyIn_ready (rs := [2, 4]) (by kernel_rfl) (by simp) ?_
          refine AllReadyIn.cons rfl (fun K' hK' => ?_) ?_
          · refine ite_go rfl ?_
            refine wpIn_of_wp (by intro c h; cases h) ?_
            refine wp_load_mid 64 (.tmp 17) rfl (W.heap.size + 1) 0 rfl (rg s1).toList _ hrg.out Try.underlying64 rfl (by exact row64.2) ?_
            refine hK' _ _ ?_; clear hK' K'; try simp only [Act.put, List.setIfInBounds_toArray, List.set_cons_zero, List.set_cons_succ, Array.toArray_toList]
            refine wpAnyIn_ready (rs := [3, 4]) (by kernel_rfl) (by simp) ?_
            refine AllReadyIn.cons rfl (fun K' hK' => ?_) ?_
            · refine ite_go rfl ?_
              refine wpIn_of_wp (by intro c h; cases h) ?_
              go_simp
              (go_at_call 32; (with_reducible refine (hst.out _).mono ?_); rintro e w5 ⟨rfl, hb5⟩)
              have y5 := hyc.out w5 hb5
              go_simp
              refine hK' _ _ ?_; clear hK' K'; try simp only [Act.put, List.setIfInBounds_toArray, List.set_cons_zero, List.set_cons_succ, Array.toArray_toList]
              refine wpAnyIn_ready (rs := [4]) (by kernel_rfl) (by simp) ?_
              refine AllReadyIn.cons rfl (fun K' hK' => ?_) ?_
              · refine ite_go rfl ?_
                gi_step
                refine hK' _ _ ?_; clear hK' K'; try simp only [Act.put, List.setIfInBounds_toArray, List.set_cons_zero, List.set_cons_succ, Array.toArray_toList]
                obtain ⟨fn, tmps, assign, body, hy, hR⟩ := hyy.out w5 hb5
                refine wpAnyIn_ready (rs := [5]) (by kernel_rfl) (by simp) (AllReadyIn.cons rfl (fun K' hK' => ?_) AllReadyIn.nil)
                refine ite_go rfl ?_
                gi_wp2
                refine (roundIn_wide hR).mono ?_
                rintro e W3 (⟨rfl, hJ3, hk3⟩ | ⟨rfl, hJx3, hk3⟩)
                · gi_wp2
                  refine wpAnyIn_ready (rs := [6]) (by kernel_rfl) (by simp) (AllReadyIn.cons rfl (fun K' hK' => ?_) AllReadyIn.nil)
                  refine ite_go rfl ?_
                  gi_wp2
                  refine wpAnyIn_done (by kernel_rfl) ?_ _
                  gi_wp2
                  exact hend.out w5 hb5 W3 hJ3 hk3
                · gi_wp2
                  refine wpAnyIn_ready (rs := [6]) (by kernel_rfl) (by simp) (AllReadyIn.cons rfl (fun K' hK' => ?_) AllReadyIn.nil)
                  refine ite_go rfl ?_
                  gi_wp2
                  refine wpAnyIn_done (by kernel_rfl) ?_ _
                  gi_wp2
                  exact ⟨(hstp.out w5 hb5 W3 hJx3 hk3).1, rfl, (hstp.out w5 hb5 W3 hJx3 hk3).2⟩
              exact AllReadyIn.nil
            refine AllReadyIn.cons rfl (fun K' hK' => ?_) ?_
            · refine ite_go rfl ?_
              gi_step
              refine hK' _ _ ?_; clear hK' K'; try simp only [Act.put, List.setIfInBounds_toArray, List.set_cons_zero, List.set_cons_succ, Array.toArray_toList]
              refine wpAnyIn_ready (rs := [3]) (by kernel_rfl) (by simp) ?_
              refine AllReadyIn.cons rfl (fun K' hK' => ?_) ?_
              · refine ite_go rfl ?_
                refine wpIn_of_wp (by intro c h; cases h) ?_
                go_simp
                (go_at_call 32; (with_reducible refine (hst.out _).mono ?_); rintro e w5 ⟨rfl, hb5⟩)
                have y5 := hyc.out w5 hb5
                go_simp
                refine hK' _ _ ?_; clear hK' K'; try simp only [Act.put, List.setIfInBounds_toArray, List.set_cons_zero, List.set_cons_succ, Array.toArray_toList]
                obtain ⟨fn, tmps, assign, body, hy, hR⟩ := hyy.out w5 hb5
                refine wpAnyIn_ready (rs := [5]) (by kernel_rfl) (by simp) (AllReadyIn.cons rfl (fun K' hK' => ?_) AllReadyIn.nil)
                refine ite_go rfl ?_
                gi_wp2
                refine (roundIn_wide hR).mono ?_
                rintro e W3 (⟨rfl, hJ3, hk3⟩ | ⟨rfl, hJx3, hk3⟩)
                · gi_wp2
                  refine wpAnyIn_ready (rs := [6]) (by kernel_rfl) (by simp) (AllReadyIn.cons rfl (fun K' hK' => ?_) AllReadyIn.nil)
                  refine ite_go rfl ?_
                  gi_wp2
                  refine wpAnyIn_done (by kernel_rfl) ?_ _
                  gi_wp2
                  exact hend.out w5 hb5 W3 hJ3 hk3
                · gi_wp2
                  refine wpAnyIn_ready (rs := [6]) (by kernel_rfl) (by simp) (AllReadyIn.cons rfl (fun K' hK' => ?_) AllReadyIn.nil)
                  refine ite_go rfl ?_
                  gi_wp2
                  refine wpAnyIn_done (by kernel_rfl) ?_ _
                  gi_wp2
                  exact ⟨(hstp.out w5 hb5 W3 hJx3 hk3).1, rfl, (hstp.out w5 hb5 W3 hJx3 hk3).2⟩
              exact AllReadyIn.nil
            exact AllReadyIn.nil
          refine AllReadyIn.cons rfl (fun K' hK' => ?_) ?_
          · refine ite_go rfl ?_
            gi_step
            refine hK' _ _ ?_; clear hK' K'; try simp only [Act.put, List.setIfInBounds_toArray, List.set_cons_zero, List.set_cons_succ, Array.toArray_toList]
            refine wpAnyIn_ready (rs := [2]) (by kernel_rfl) (by simp) ?_
            refine AllReadyIn.cons rfl (fun K' hK' => ?_) ?_
            · refine ite_go rfl ?_
              refine wpIn_of_wp (by intro c h; cases h) ?_
              refine wp_load_mid 64 (.tmp 17) rfl (W.heap.size + 1) 0 rfl (rg s1).toList _ hrg.out Try.underlying64 rfl (by exact row64.2) ?_
              refine hK' _ _ ?_; clear hK' K'; try simp only [Act.put, List.setIfInBounds_toArray, List.set_cons_zero, List.set_cons_succ, Array.toArray_toList]
              refine wpAnyIn_ready (rs := [3]) (by kernel_rfl) (by simp) ?_
              refine AllReadyIn.cons rfl (fun K' hK' => ?_) ?_
              · refine ite_go rfl ?_
                refine wpIn_of_wp (by intro c h; cases h) ?_
                go_simp
                (go_at_call 32; (with_reducible refine (hst.out _).mono ?_); rintro e w5 ⟨rfl, hb5⟩)
                have y5 := hyc.out w5 hb5
                go_simp
                refine hK' _ _ ?_; clear hK' K'; try simp only [Act.put, List.setIfInBounds_toArray, List.set_cons_zero, List.set_cons_succ, Array.toArray_toList]
                obtain ⟨fn, tmps, assign, body, hy, hR⟩ := hyy.out w5 hb5
                refine wpAnyIn_ready (rs := [5]) (by kernel_rfl) (by simp) (AllReadyIn.cons rfl (fun K' hK' => ?_) AllReadyIn.nil)
                refine ite_go rfl ?_
                gi_wp2
                refine (roundIn_wide hR).mono ?_
                rintro e W3 (⟨rfl, hJ3, hk3⟩ | ⟨rfl, hJx3, hk3⟩)
                · gi_wp2
                  refine wpAnyIn_ready (rs := [6]) (by kernel_rfl) (by simp) (AllReadyIn.cons rfl (fun K' hK' => ?_) AllReadyIn.nil)
                  refine ite_go rfl ?_
                  gi_wp2
                  refine wpAnyIn_done (by kernel_rfl) ?_ _
                  gi_wp2
                  exact hend.out w5 hb5 W3 hJ3 hk3
                · gi_wp2
                  refine wpAnyIn_ready (rs := [6]) (by kernel_rfl) (by simp) (AllReadyIn.cons rfl (fun K' hK' => ?_) AllReadyIn.nil)
                  refine ite_go rfl ?_
                  gi_wp2
                  refine wpAnyIn_done (by kernel_rfl) ?_ _
                  gi_wp2
                  exact ⟨(hstp.out w5 hb5 W3 hJx3 hk3).1, rfl, (hstp.out w5 hb5 W3 hJx3 hk3).2⟩
              exact AllReadyIn.nil
            exact AllReadyIn.nil
          exact AllReadyIn.nil
        refine AllReadyIn.cons rfl (fun K' hK' => ?_) ?_
        · refine ite_go rfl ?_
          gi_step
          refine hK' _ _ ?_; clear hK' K'; try simp only [Act.put, List.setIfInBounds_toArray, List.set_cons_zero, List.set_cons_succ, Array.toArray_toList]
          refine wpAnyIn_ready (rs := [1]) (by kernel_rfl) (by simp) ?_
          refine AllReadyIn.cons rfl (fun K' hK' => ?_) ?_
          · refine ite_go rfl ?_
            gi_step
            refine hK' _ _ ?_; clear hK' K'; try simp only [Act.put, List.setIfInBounds_toArray, List.set_cons_zero, List.set_cons_succ, Array.toArray_toList]
            refine wpAnyIn_ready (rs := [2]) (by kernel_rfl) (by simp) ?_
            refine AllReadyIn.cons rfl (fun K' hK' => ?_) ?_
            · refine ite_go rfl ?_
              refine wpIn_of_wp (by intro c h; cases h) ?_
              refine wp_load_mid 64 (.tmp 17) rfl (W.heap.size + 1) 0 rfl (rg s1).toList _ hrg.out Try.underlying64 rfl (by exact row64.2) ?_
              refine hK' _ _ ?_; clear hK' K'; try simp only [Act.put, List.setIfInBounds_toArray, List.set_cons_zero, List.set_cons_succ, Array.toArray_toList]
              refine wpAnyIn_ready (rs := [3]) (by kernel_rfl) (by simp) ?_
              refine AllReadyIn.cons rfl (fun K' hK' => ?_) ?_
              · refine ite_go rfl ?_
                refine wpIn_of_wp (by intro c h; cases h) ?_
                go_simp
                (go_at_call 32; (with_reducible refine (hst.out _).mono ?_); rintro e w5 ⟨rfl, hb5⟩)
                have y5 := hyc.out w5 hb5
                go_simp
                refine hK' _ _ ?_; clear hK' K'; try simp only [Act.put, List.setIfInBounds_toArray, List.set_cons_zero, List.set_cons_succ, Array.toArray_toList]
                obtain ⟨fn, tmps, assign, body, hy, hR⟩ := hyy.out w5 hb5
                refine wpAnyIn_ready (rs := [5]) (by kernel_rfl) (by simp) (AllReadyIn.cons rfl (fun K' hK' => ?_) AllReadyIn.nil)
                refine ite_go rfl ?_
                gi_wp2
                refine (roundIn_wide hR).mono ?_
                rintro e W3 (⟨rfl, hJ3, hk3⟩ | ⟨rfl, hJx3, hk3⟩)
                · gi_wp2
                  refine wpAnyIn_ready (rs := [6]) (by kernel_rfl) (by simp) (AllReadyIn.cons rfl (fun K' hK' => ?_) AllReadyIn.nil)
                  refine ite_go rfl ?_
                  gi_wp2
                  refine wpAnyIn_done (by kernel_rfl) ?_ _
                  gi_wp2
                  exact hend.out w5 hb5 W3 hJ3 hk3
                · gi_wp2
                  refine wpAnyIn_ready (rs := [6]) (by kernel_rfl) (by simp) (AllReadyIn.cons rfl (fun K' hK' => ?_) AllReadyIn.nil)
                  refine ite_go rfl ?_
                  gi_wp2
                  refine wpAnyIn_done (by kernel_rfl) ?_ _
                  gi_wp2
                  exact ⟨(hstp.out w5 hb5 W3 hJx3 hk3).1, rfl, (hstp.out w5 hb5 W3 hJx3 hk3).2⟩
              exact AllReadyIn.nil
            exact AllReadyIn.nil
          exact AllReadyIn.nil
        exact AllReadyIn.nil
      refine AllReadyIn.cons rfl (fun K' hK' => ?_) ?_
      · refine ite_go rfl ?_
        gi_step
        refine hK' _ _ ?_; clear hK' K'; try simp only [Act.put, List.setIfInBounds_toArray, List.set_cons_zero, List.set_cons_succ, Array.toArray_toList]
        refine wpAnyIn_ready (rs := [0, 2, 4]) (by kernel_rfl) (by simp) ?_
        refine AllReadyIn.cons rfl (fun K' hK' => ?_) ?_
        · refine ite_go rfl ?_
          gi_step
          refine hK' _ _ ?_; clear hK' K'; try simp only [Act.put, List.setIfInBounds_toArray, List.set_cons_zero, List.set_cons_succ, Array.toArray_toList]
          refine wpAnyIn_ready (rs := [2, 4]) (by kernel_rfl) (by simp) ?_
          refine AllReadyIn.cons rfl (fun K' hK' => ?_) ?_
          · refine ite_go rfl ?_
            refine wpIn_of_wp (by intro c h; cases h) ?_
            refine wp_load_mid 64 (.tmp 17) rfl (W.heap.size + 1) 0 rfl (rg s1).toList _ hrg.out Try.underlying64 rfl (by exact row64.2) ?_
            refine hK' _ _ ?_; clear hK' K'; try simp only [Act.put, List.setIfInBounds_toArray, List.set_cons_zero, List.set_cons_succ, Array.toArray_toList]
            refine wpAnyIn_ready (rs := [3, 4]) (by kernel_rfl) (by simp) ?_
            refine AllReadyIn.cons rfl (fun K' hK' => ?_) ?_
            · refine ite_go rfl ?_
              refine wpIn_of_wp (by intro c h; cases h) ?_
              go_simp
              (go_at_call 32; (with_reducible refine (hst.out _).mono ?_); rintro e w5 ⟨rfl, hb5⟩)
              have y5 := hyc.out w5 hb5
              go_simp
              refine hK' _ _ ?_; clear hK' K'; try simp only [Act.put, List.setIfInBounds_toArray, List.set_cons_zero, List.set_cons_succ, Array.toArray_toList]
              refine wpAnyIn_ready (rs := [4]) (by kernel_rfl) (by simp) ?_
              refine AllReadyIn.cons rfl (fun K' hK' => ?_) ?_
              · refine ite_go rfl ?_
                gi_step
                refine hK' _ _ ?_; clear hK' K'; try simp only [Act.put, List.setIfInBounds_toArray, List.set_cons_zero, List.set_cons_succ, Array.toArray_toList]
                obtain ⟨fn, tmps, assign, body, hy, hR⟩ := hyy.out w5 hb5
                refine wpAnyIn_ready (rs := [5]) (by kernel_rfl) (by simp) (AllReadyIn.cons rfl (fun K' hK' => ?_) AllReadyIn.nil)
                refine ite_go rfl ?_
                gi_wp2
                refine (roundIn_wide hR).mono ?_
                rintro e W3 (⟨rfl, hJ3, hk3⟩ | ⟨rfl, hJx3, hk3⟩)
                · gi_wp2
                  refine wpAnyIn_ready (rs := [6]) (by kernel_rfl) (by simp) (AllReadyIn.cons rfl (fun K' hK' => ?_) AllReadyIn.nil)
                  refine ite_go rfl ?_
                  gi_wp2
                  refine wpAnyIn_done (by kernel_rfl) ?_ _
                  gi_wp2
                  exact hend.out w5 hb5 W3 hJ3 hk3
                · gi_wp2
                  refine wpAnyIn_ready (rs := [6]) (by kernel_rfl) (by simp) (AllReadyIn.cons rfl (fun K' hK' => ?_) AllReadyIn.nil)
                  refine ite_go rfl ?_
                  gi_wp2
                  refine wpAnyIn_done (by kernel_rfl) ?_ _
                  gi_wp2
                  exact ⟨(hstp.out w5 hb5 W3 hJx3 hk3).1, rfl, (hstp.out w5 hb5 W3 hJx3 hk3).2⟩
              exact AllReadyIn.nil
            refine AllReadyIn.cons rfl (fun K' hK' => ?_) ?_
            · refine ite_go rfl ?_
              gi_step
              refine hK' _ _ ?_; clear hK' K'; try simp only [Act.put, List.setIfInBounds_toArray, List.set_cons_zero, List.set_cons_succ, Array.toArray_toList]
              refine wpAnyIn_ready (rs := [3]) (by kernel_rfl) (by simp) ?_
              refine AllReadyIn.cons rfl (fun K' hK' => ?_) ?_
              · refine ite_go rfl ?_
                refine wpIn_of_wp (by intro c h; cases h) ?_
                go_simp
                (go_at_call 32; (with_reducible refine (hst.out _).mono ?_); rintro e w5 ⟨rfl, hb5⟩)
                have y5 := hyc.out w5 hb5
                go_simp
                refine hK' _ _ ?_; clear hK' K'; try simp only [Act.put, List.setIfInBounds_toArray, List.set_cons_zero, List.set_cons_succ, Array.toArray_toList]
                obtain ⟨fn, tmps, assign, body, hy, hR⟩ := hyy.out w5 hb5
                refine wpAnyIn_ready (rs := [5]) (by kernel_rfl) (by simp) (AllReadyIn.cons rfl (fun K' hK' => ?_) AllReadyIn.nil)
                refine ite_go rfl ?_
                gi_wp2
                refine (roundIn_wide hR).mono ?_
                rintro e W3 (⟨rfl, hJ3, hk3⟩ | ⟨rfl, hJx3, hk3⟩)
                · gi_wp2
                  refine wpAnyIn_ready (rs := [6]) (by kernel_rfl) (by simp) (AllReadyIn.cons rfl (fun K' hK' => ?_) AllReadyIn.nil)
                  refine ite_go rfl ?_
                  gi_wp2
                  refine wpAnyIn_done (by kernel_rfl) ?_ _
                  gi_wp2
                  exact hend.out w5 hb5 W3 hJ3 hk3
                · gi_wp2
                  refine wpAnyIn_ready (rs := [6]) (by kernel_rfl) (by simp) (AllReadyIn.cons rfl (fun K' hK' => ?_) AllReadyIn.nil)
                  refine ite_go rfl ?_
                  gi_wp2
                  refine wpAnyIn_done (by kernel_rfl) ?_ _
                  gi_wp2
                  exact ⟨(hstp.out w5 hb5 W3 hJx3 hk3).1, rfl, (hstp.out w5 hb5 W3 hJx3 hk3).2⟩
              exact AllReadyIn.nil
            exact AllReadyIn.nil
          refine AllReadyIn.cons rfl (fun K' hK' => ?_) ?_
          · refine ite_go rfl ?_
            gi_step
            refine hK' _ _ ?_; clear hK' K'; try simp only [Act.put, List.setIfInBounds_toArray, List.set_cons_zero, List.set_cons_succ, Array.toArray_toList]
            refine wpAnyIn_ready (rs := [2]) (by kernel_rfl) (by simp) ?_
            refine AllReadyIn.cons rfl (fun K' hK' => ?_) ?_
            · refine ite_go rfl ?_
              refine wpIn_of_wp (by intro c h; cases h) ?_
              refine wp_load_mid 64 (.tmp 17) rfl (W.heap.size + 1) 0 rfl (rg s1).toList _ hrg.out Try.underlying64 rfl (by exact row64.2) ?_
              refine hK' _ _ ?_; clear hK' K'; try simp only [Act.put, List.setIfInBounds_toArray, List.set_cons_zero, List.set_cons_succ, Array.toArray_toList]
              refine wpAnyIn_ready (rs := [3]) (by kernel_rfl) (by simp) ?_
              refine AllReadyIn.cons rfl (fun K' hK' => ?_) ?_
              · refine ite_go rfl ?_
                refine wpIn_of_wp (by intro c h; cases h) ?_
                go_simp
                (go_at_call 32; (with_reducible refine (hst.out _).mono ?_); rintro e w5 ⟨rfl, hb5⟩)
                have y5 := hyc.out w5 hb5
                go_simp
                refine hK' _ _ ?_; clear hK' K'; try simp only [Act.put, List.setIfInBounds_toArray, List.set_cons_zero, List.set_cons_succ, Array.toArray_toList]
                obtain ⟨fn, tmps, assign, body, hy, hR⟩ := hyy.out w5 hb5
                refine wpAnyIn_ready (rs := [5]) (by kernel_rfl) (by simp) (AllReadyIn.cons rfl (fun K' hK' => ?_) AllReadyIn.nil)
                refine ite_go rfl ?_
                gi_wp2
                refine (roundIn_wide hR).mono ?_
                rintro e W3 (⟨rfl, hJ3, hk3⟩ | ⟨rfl, hJx3, hk3⟩)
                · gi_wp2
                  refine wpAnyIn_ready (rs := [6]) (by kernel_rfl) (by simp) (AllReadyIn.cons rfl (fun K' hK' => ?_) AllReadyIn.nil)
                  refine ite_go rfl ?_
                  gi_wp2
                  refine wpAnyIn_done (by kernel_rfl) ?_ _
                  gi_wp2
                  exact hend.out w5 hb5 W3 hJ3 hk3
                · gi_wp2
                  refine wpAnyIn_ready (rs := [6]) (by kernel_rfl) (by simp) (AllReadyIn.cons rfl (fun K' hK' => ?_) AllReadyIn.nil)
                  refine ite_go rfl ?_
                  gi_wp2
                  refine wpAnyIn_done (by kernel_rfl) ?_ _
                  gi_wp2
                  exact ⟨(hstp.out w5 hb5 W3 hJx3 hk3).1, rfl, (hstp.out w5 hb5 W3 hJx3 hk3).2⟩
              exact AllReadyIn.nil
            exact AllReadyIn.nil
          exact AllReadyIn.nil
        refine AllReadyIn.cons rfl (fun K' hK' => ?_) ?_
        · refine ite_go rfl ?_
          refine wpIn_of_wp (by intro c h; cases h) ?_
          refine wp_load_mid 64 (.tmp 17) rfl (W.heap.size + 1) 0 rfl (rg s1).toList _ hrg.out Try.underlying64 rfl (by exact row64.2) ?_
          refine hK' _ _ ?_; clear hK' K'; try simp only [Act.put, List.setIfInBounds_toArray, List.set_cons_zero, List.set_cons_succ, Array.toArray_toList]
          refine wpAnyIn_ready (rs := [0, 3, 4]) (by kernel_rfl) (by simp) ?_
          refine AllReadyIn.cons rfl (fun K' hK' => ?_) ?_
          · refine ite_go rfl ?_
            gi_step
            refine hK' _ _ ?_; clear hK' K'; try simp only [Act.put, List.setIfInBounds_toArray, List.set_cons_zero, List.set_cons_succ, Array.toArray_toList]
            refine wpAnyIn_ready (rs := [3, 4]) (by kernel_rfl) (by simp) ?_
            refine AllReadyIn.cons rfl (fun K' hK' => ?_) ?_
            · refine ite_go rfl ?_
              refine wpIn_of_wp (by intro c h; cases h) ?_
              go_simp
              (go_at_call 32; (with_reducible refine (hst.out _).mono ?_); rintro e w5 ⟨rfl, hb5⟩)
              have y5 := hyc.out w5 hb5
              go_simp
              refine hK' _ _ ?_; clear hK' K'; try simp only [Act.put, List.setIfInBounds_toArray, List.set_cons_zero, List.set_cons_succ, Array.toArray_toList]
              refine wpAnyIn_ready (rs := [4]) (by kernel_rfl) (by simp) ?_
              refine AllReadyIn.cons rfl (fun K' hK' => ?_) ?_
              · refine ite_go rfl ?_
                gi_step
                refine hK' _ _ ?_; clear hK' K'; try simp only [Act.put, List.setIfInBounds_toArray, List.set_cons_zero, List.set_cons_succ, Array.toArray_toList]
                obtain ⟨fn, tmps, assign, body, hy, hR⟩ := hyy.out w5 hb5
                refine wpAnyIn_ready (rs := [5]) (by kernel_rfl) (by simp) (AllReadyIn.cons rfl (fun K' hK' => ?_) AllReadyIn.nil)
                refine ite_go rfl ?_
                gi_wp2
                refine (roundIn_wide hR).mono ?_
                rintro e W3 (⟨rfl, hJ3, hk3⟩ | ⟨rfl, hJx3, hk3⟩)
                · gi_wp2
                  refine wpAnyIn_ready (rs := [6]) (by kernel_rfl) (by simp) (AllReadyIn.cons rfl (fun K' hK' => ?_) AllReadyIn.nil)
                  refine ite_go rfl ?_
                  gi_wp2
                  refine wpAnyIn_done (by kernel_rfl) ?_ _
                  gi_wp2
                  exact hend.out w5 hb5 W3 hJ3 hk3
                · gi_wp2
                  refine wpAnyIn_ready (rs := [6]) (by kernel_rfl) (by simp) (AllReadyIn.cons rfl (fun K' hK' => ?_) AllReadyIn.nil)
                  refine ite_go rfl ?_
                  gi_wp2
                  refine wpAnyIn_done (by kernel_rfl) ?_ _
                  gi_wp2
                  exact ⟨(hstp.out w5 hb5 W3 hJx3 hk3).1, rfl, (hstp.out w5 hb5 W3 hJx3 hk3).2⟩
              exact AllReadyIn.nil
            refine AllReadyIn.cons rfl (fun K' hK' => ?_) ?_
            · refine ite_go rfl ?_
              gi_step
              refine hK' _ _ ?_; clear hK' K'; try simp only [Act.put, List.setIfInBounds_toArray, List.set_cons_zero, List.set_cons_succ, Array.toArray_toList]
              refine wpAnyIn_ready (rs := [3]) (by kernel_rfl) (by simp) ?_
              refine AllReadyIn.cons rfl (fun K' hK' => ?_) ?_
              · refine ite_go rfl ?_
                refine wpIn_of_wp (by intro c h; cases h) ?_
                go_simp
                (go_at_call 32; (with_reducible refine (hst.out _).mono ?_); rintro e w5 ⟨rfl, hb5⟩)
                have y5 := hyc.out w5 hb5
                go_simp
                refine hK' _ _ ?_; clear hK' K'; try simp only [Act.put, List.setIfInBounds_toArray, List.set_cons_zero, List.set_cons_succ, Array.toArray_toList]
                obtain ⟨fn, tmps, assign, body, hy, hR⟩ := hyy.out w5 hb5
                refine wpAnyIn_ready (rs := [5]) (by kernel_rfl) (by simp) (AllReadyIn.cons rfl (fun K' hK' => ?_) AllReadyIn.nil)
                refine ite_go rfl ?_
                gi_wp2
                refine (roundIn_wide hR).mono ?_
                rintro e W3 (⟨rfl, hJ3, hk3⟩ | ⟨rfl, hJx3, hk3⟩)
                · gi_wp2
                  refine wpAnyIn_ready (rs := [6]) (by kernel_rfl) (by simp) (AllReadyIn.cons rfl (fun K' hK' => ?_) AllReadyIn.nil)
                  refine ite_go rfl ?_
                  gi_wp2
                  refine wpAnyIn_done (by kernel_rfl) ?_ _
                  gi_wp2
                  exact hend.out w5 hb5 W3 hJ3 hk3
                · gi_wp2
                  refine wpAnyIn_ready (rs := [6]) (by kernel_rfl) (by simp) (AllReadyIn.cons rfl (fun K' hK' => ?_) AllReadyIn.nil)
                  refine ite_go rfl ?_
                  gi_wp2
                  refine wpAnyIn_done (by kernel_rfl) ?_ _
                  gi_wp2
                  exact ⟨(hstp.out w5 hb5 W3 hJx3 hk3).1, rfl, (hstp.out w5 hb5 W3 hJx3 hk3).2⟩
              exact AllReadyIn.nil
            exact AllReadyIn.nil
          refine AllReadyIn.cons rfl (fun K' hK' => ?_) ?_
          · refine ite_go rfl ?_
            refine wpIn_of_wp (by intro c h; cases h) ?_
            go_simp
            (go_at_call 32; (with_reducible refine (hst.out _).mono ?_); rintro e w5 ⟨rfl, hb5⟩)
            have y5 := hyc.out w5 hb5
            go_simp
            refine hK' _ _ ?_; clear hK' K'; try simp only [Act.put, List.setIfInBounds_toArray, List.set_cons_zero, List.set_cons_succ, Array.toArray_toList]
            refine wpAnyIn_ready (rs := [0, 4]) (by kernel_rfl) (by simp) ?_
            refine AllReadyIn.cons rfl (fun K' hK' => ?_) ?_
            · refine ite_go rfl ?_
              gi_step
              refine hK' _ _ ?_; clear hK' K'; try simp only [Act.put, List.setIfInBounds_toArray, List.set_cons_zero, List.set_cons_succ, Array.toArray_toList]
              refine wpAnyIn_ready (rs := [4]) (by kernel_rfl) (by simp) ?_
              refine AllReadyIn.cons rfl (fun K' hK' => ?_) ?_
              · refine ite_go rfl ?_
                gi_step
                refine hK' _ _ ?_; clear hK' K'; try simp only [Act.put, List.setIfInBounds_toArray, List.set_cons_zero, List.set_cons_succ, Array.toArray_toList]
                obtain ⟨fn, tmps, assign, body, hy, hR⟩ := hyy.out w5 hb5
                refine wpAnyIn_ready (rs := [5]) (by kernel_rfl) (by simp) (AllReadyIn.cons rfl (fun K' hK' => ?_) AllReadyIn.nil)
                refine ite_go rfl ?_
                gi_wp2
                refine (roundIn_wide hR).mono ?_
                rintro e W3 (⟨rfl, hJ3, hk3⟩ | ⟨rfl, hJx3, hk3⟩)
                · gi_wp2
                  refine wpAnyIn_ready (rs := [6]) (by kernel_rfl) (by simp) (AllReadyIn.cons rfl (fun K' hK' => ?_) AllReadyIn.nil)
                  refine ite_go rfl ?_
                  gi_wp2
                  refine wpAnyIn_done (by kernel_rfl) ?_ _
                  gi_wp2
                  exact hend.out w5 hb5 W3 hJ3 hk3
                · gi_wp2
                  refine wpAnyIn_ready (rs := [6]) (by kernel_rfl) (by simp) (AllReadyIn.cons rfl (fun K' hK' => ?_) AllReadyIn.nil)
                  refine ite_go rfl ?_
                  gi_wp2
                  refine wpAnyIn_done (by kernel_rfl) ?_ _
                  gi_wp2
                  exact ⟨(hstp.out w5 hb5 W3 hJx3 hk3).1, rfl, (hstp.out w5 hb5 W3 hJx3 hk3).2⟩
              exact AllReadyIn.nil
            refine AllReadyIn.cons rfl (fun K' hK' => ?_) ?_
            · refine ite_go rfl ?_
              gi_step
              refine hK' _ _ ?_; clear hK' K'; try simp only [Act.put, List.setIfInBounds_toArray, List.set_cons_zero, List.set_cons_succ, Array.toArray_toList]
              refine wpAnyIn_ready (rs := [0]) (by kernel_rfl) (by simp) ?_
              refine AllReadyIn.cons rfl (fun K' hK' => ?_) ?_
              · refine ite_go rfl ?_
                gi_step
                refine hK' _ _ ?_; clear hK' K'; try simp only [Act.put, List.setIfInBounds_toArray, List.set_cons_zero, List.set_cons_succ, Array.toArray_toList]
                obtain ⟨fn, tmps, assign, body, hy, hR⟩ := hyy.out w5 hb5
                refine wpAnyIn_ready (rs := [5]) (by kernel_rfl) (by simp) (AllReadyIn.cons rfl (fun K' hK' => ?_) AllReadyIn.nil)
                refine ite_go rfl ?_
                gi_wp2
                refine (roundIn_wide hR).mono ?_
                rintro e W3 (⟨rfl, hJ3, hk3⟩ | ⟨rfl, hJx3, hk3⟩)
                · gi_wp2
                  refine wpAnyIn_ready (rs := [6]) (by kernel_rfl) (by simp) (AllReadyIn.cons rfl (fun K' hK' => ?_) AllReadyIn.nil)
                  refine ite_go rfl ?_
                  gi_wp2
                  refine wpAnyIn_done (by kernel_rfl) ?_ _
                  gi_wp2
                  exact hend.out w5 hb5 W3 hJ3 hk3
                · gi_wp2
                  refine wpAnyIn_ready (rs := [6]) (by kernel_rfl) (by simp) (AllReadyIn.cons rfl (fun K' hK' => ?_) AllReadyIn.nil)
                  refine ite_go rfl ?_
                  gi_wp2
                  refine wpAnyIn_done (by kernel_rfl) ?_ _
                  gi_wp2
                  exact ⟨(hstp.out w5 hb5 W3 hJx3 hk3).1, rfl, (hstp.out w5 hb5 W3 hJx3 hk3).2⟩
              exact AllReadyIn.nil
            exact AllReadyIn.nil
          refine AllReadyIn.cons rfl (fun K' hK' => ?_) ?_
          · refine ite_go rfl ?_
            gi_step
            refine hK' _ _ ?_; clear hK' K'; try simp only [Act.put, List.setIfInBounds_toArray, List.set_cons_zero, List.set_cons_succ, Array.toArray_toList]
            refine wpAnyIn_ready (rs := [0, 3]) (by kernel_rfl) (by simp) ?_
            refine AllReadyIn.cons rfl (fun K' hK' => ?_) ?_
            · refine ite_go rfl ?_
              gi_step
              refine hK' _ _ ?_; clear hK' K'; try simp only [Act.put, List.setIfInBounds_toArray, List.set_cons_zero, List.set_cons_succ, Array.toArray_toList]
              refine wpAnyIn_ready (rs := [3]) (by kernel_rfl) (by simp) ?_
              refine AllReadyIn.cons rfl (fun K' hK' => ?_) ?_
              · refine ite_go rfl ?_
                refine wpIn_of_wp (by intro c h; cases h) ?_
                go_simp
                (go_at_call 32; (with_reducible refine (hst.out _).mono ?_); rintro e w5 ⟨rfl, hb5⟩)
                have y5 := hyc.out w5 hb5
                go_simp
                refine hK' _ _ ?_; clear hK' K'; try simp only [Act.put, List.setIfInBounds_toArray, List.set_cons_zero, List.set_cons_succ, Array.toArray_toList]
                obtain ⟨fn, tmps, assign, body, hy, hR⟩ := hyy.out w5 hb5
                refine wpAnyIn_ready (rs := [5]) (by kernel_rfl) (by simp) (AllReadyIn.cons rfl (fun K' hK' => ?_) AllReadyIn.nil)
                refine ite_go rfl ?_
                gi_wp2
                refine (roundIn_wide hR).mono ?_
                rintro e W3 (⟨rfl, hJ3, hk3⟩ | ⟨rfl, hJx3, hk3⟩)
                · gi_wp2
                  refine wpAnyIn_ready (rs := [6]) (by kernel_rfl) (by simp) (AllReadyIn.cons rfl (fun K' hK' => ?_) AllReadyIn.nil)
                  refine ite_go rfl ?_
                  gi_wp2
                  refine wpAnyIn_done (by kernel_rfl) ?_ _
                  gi_wp2
                  exact hend.out w5 hb5 W3 hJ3 hk3
                · gi_wp2
                  refine wpAnyIn_ready (rs := [6]) (by kernel_rfl) (by simp) (AllReadyIn.cons rfl (fun K' hK' => ?_) AllReadyIn.nil)
                  refine ite_go rfl ?_
                  gi_wp2
                  refine wpAnyIn_done (by kernel_rfl) ?_ _
                  gi_wp2
                  exact ⟨(hstp.out w5 hb5 W3 hJx3 hk3).1, rfl, (hstp.out w5 hb5 W3 hJx3 hk3).2⟩
              exact AllReadyIn.nil
            refine AllReadyIn.cons rfl (fun K' hK' => ?_) ?_
            · refine ite_go rfl ?_
              refine wpIn_of_wp (by intro c h; cases h) ?_
              go_simp
              (go_at_call 32; (with_reducible refine (hst.out _).mono ?_); rintro e w5 ⟨rfl, hb5⟩)
              have y5 := hyc.out w5 hb5
              go_simp
              refine hK' _ _ ?_; clear hK' K'; try simp only [Act.put, List.setIfInBounds_toArray, List.set_cons_zero, List.set_cons_succ, Array.toArray_toList]
              refine wpAnyIn_ready (rs := [0]) (by kernel_rfl) (by simp) ?_
              refine AllReadyIn.cons rfl (fun K' hK' => ?_) ?_
              · refine ite_go rfl ?_
                gi_step
                refine hK' _ _ ?_; clear hK' K'; try simp only [Act.put, List.setIfInBounds_toArray, List.set_cons_zero, List.set_cons_succ, Array.toArray_toList]
                obtain ⟨fn, tmps, assign, body, hy, hR⟩ := hyy.out w5 hb5
                refine wpAnyIn_ready (rs := [5]) (by kernel_rfl) (by simp) (AllReadyIn.cons rfl (fun K' hK' => ?_) AllReadyIn.nil)
                refine ite_go rfl ?_
                gi_wp2
                refine (roundIn_wide hR).mono ?_
                rintro e W3 (⟨rfl, hJ3, hk3⟩ | ⟨rfl, hJx3, hk3⟩)
                · gi_wp2
                  refine wpAnyIn_ready (rs := [6]) (by kernel_rfl) (by simp) (AllReadyIn.cons rfl (fun K' hK' => ?_) AllReadyIn.nil)
                  refine ite_go rfl ?_
                  gi_wp2
                  refine wpAnyIn_done (by kernel_rfl) ?_ _
                  gi_wp2
                  exact hend.out w5 hb5 W3 hJ3 hk3
                · gi_wp2
                  refine wpAnyIn_ready (rs := [6]) (by kernel_rfl) (by simp) (AllReadyIn.cons rfl (fun K' hK' => ?_) AllReadyIn.nil)
                  refine ite_go rfl ?_
                  gi_wp2
                  refine wpAnyIn_done (by kernel_rfl) ?_ _
                  gi_wp2
                  exact ⟨(hstp.out w5 hb5 W3 hJx3 hk3).1, rfl, (hstp.out w5 hb5 W3 hJx3 hk3).2⟩
              exact AllReadyIn.nil
            exact AllReadyIn.nil
          exact AllReadyIn.nil
        refine AllReadyIn.cons rfl (fun K' hK' => ?_) ?_
        · refine ite_go rfl ?_
          gi_step
          refine hK' _ _ ?_; clear hK' K'; try simp only [Act.put, List.setIfInBounds_toArray, List.set_cons_zero, List.set_cons_succ, Array.toArray_toList]
          refine wpAnyIn_ready (rs := [0, 2]) (by kernel_rfl) (by simp) ?_
          refine AllReadyIn.cons rfl (fun K' hK' => ?_) ?_
          · refine ite_go rfl ?_
            gi_step
            refine hK' _ _ ?_; clear hK' K'; try simp only [Act.put, List.setIfInBounds_toArray, List.set_cons_zero, List.set_cons_succ, Array.toArray_toList]
            refine wpAnyIn_ready (rs := [2]) (by kernel_rfl) (by simp) ?_
            refine AllReadyIn.cons rfl (fun K' hK' => ?_) ?_
            · refine ite_go rfl ?_
              refine wpIn_of_wp (by intro c h; cases h) ?_
              refine wp_load_mid 64 (.tmp 17) rfl (W.heap.size + 1) 0 rfl (rg s1).toList _ hrg.out Try.underlying64 rfl (by exact row64.2) ?_
              refine hK' _ _ ?_; clear hK' K'; try simp only [Act.put, List.setIfInBounds_toArray, List.set_cons_zero, List.set_cons_succ, Array.toArray_toList]
              refine wpAnyIn_ready (rs := [3]) (by kernel_rfl) (by simp) ?_
              refine AllReadyIn.cons rfl (fun K' hK' => ?_) ?_
              · refine ite_go rfl ?_
                refine wpIn_of_wp (by intro c h; cases h) ?_
                go_simp
                (go_at_call 32; (with_reducible refine (hst.out _).mono ?_); rintro e w5 ⟨rfl, hb5⟩)
                have y5 := hyc.out w5 hb5
                go_simp
                refine hK' _ _ ?_; clear hK' K'; try simp only [Act.put, List.setIfInBounds_toArray, List.set_cons_zero, List.set_cons_succ, Array.toArray_toList]
                obtain ⟨fn, tmps, assign, body, hy, hR⟩ := hyy.out w5 hb5
                refine wpAnyIn_ready (rs := [5]) (by kernel_rfl) (by simp) (AllReadyIn.cons rfl (fun K' hK' => ?_) AllReadyIn.nil)
                refine ite_go rfl ?_
                gi_wp2
                refine (roundIn_wide hR).mono ?_
                rintro e W3 (⟨rfl, hJ3, hk3⟩ | ⟨rfl, hJx3, hk3⟩)
                · gi_wp2
                  refine wpAnyIn_ready (rs := [6]) (by kernel_rfl) (by simp) (AllReadyIn.cons rfl (fun K' hK' => ?_) AllReadyIn.nil)
                  refine ite_go rfl ?_
                  gi_wp2
                  refine wpAnyIn_done (by kernel_rfl) ?_ _
                  gi_wp2
                  exact hend.out w5 hb5 W3 hJ3 hk3
                · gi_wp2
                  refine wpAnyIn_ready (rs := [6]) (by kernel_rfl) (by simp) (AllReadyIn.cons rfl (fun K' hK' => ?_) AllReadyIn.nil)
                  refine ite_go rfl ?_
                  gi_wp2
                  refine wpAnyIn_done (by kernel_rfl) ?_ _
                  gi_wp2
                  exact ⟨(hstp.out w5 hb5 W3 hJx3 hk3).1, rfl, (hstp.out w5 hb5 W3 hJx3 hk3).2⟩
              exact AllReadyIn.nil
            exact AllReadyIn.nil
          refine AllReadyIn.cons rfl (fun K' hK' => ?_) ?_
          · refine ite_go rfl ?_
            refine wpIn_of_wp (by intro c h; cases h) ?_
            refine wp_load_mid 64 (.tmp 17) rfl (W.heap.size + 1) 0 rfl (rg s1).toList _ hrg.out Try.underlying64 rfl (by exact row64.2) ?_
            refine hK' _ _ ?_; clear hK' K'; try simp only [Act.put, List.setIfInBounds_toArray, List.set_cons_zero, List.set_cons_succ, Array.toArray_toList]
            refine wpAnyIn_ready (rs := [0, 3]) (by kernel_rfl) (by simp) ?_
            refine AllReadyIn.cons rfl (fun K' hK' => ?_) ?_
            · refine ite_go rfl ?_
              gi_step
              refine hK' _ _ ?_; clear hK' K'; try simp only [Act.put, List.setIfInBounds_toArray, List.set_cons_zero, List.set_cons_succ, Array.toArray_toList]
              refine wpAnyIn_ready (rs := [3]) (by kernel_rfl) (by simp) ?_
              refine AllReadyIn.cons rfl (fun K' hK' => ?_) ?_
              · refine ite_go rfl ?_
                refine wpIn_of_wp (by intro c h; cases h) ?_
                go_simp
                (go_at_call 32; (with_reducible refine (hst.out _).mono ?_); rintro e w5 ⟨rfl, hb5⟩)
                have y5 := hyc.out w5 hb5
                go_simp
                refine hK' _ _ ?_; clear hK' K'; try simp only [Act.put, List.setIfInBounds_toArray, List.set_cons_zero, List.set_cons_succ, Array.toArray_toList]
                obtain ⟨fn, tmps, assign, body, hy, hR⟩ := hyy.out w5 hb5
                refine wpAnyIn_ready (rs := [5]) (by kernel_rfl) (by simp) (AllReadyIn.cons rfl (fun K' hK' => ?_) AllReadyIn.nil)
                refine ite_go rfl ?_
                gi_wp2
                refine (roundIn_wide hR).mono ?_
                rintro e W3 (⟨rfl, hJ3, hk3⟩ | ⟨rfl, hJx3, hk3⟩)
                · gi_wp2
                  refine wpAnyIn_ready (rs := [6]) (by kernel_rfl) (by simp) (AllReadyIn.cons rfl (fun K' hK' => ?_) AllReadyIn.nil)
                  refine ite_go rfl ?_
                  gi_wp2
                  refine wpAnyIn_done (by kernel_rfl) ?_ _
                  gi_wp2
                  exact hend.out w5 hb5 W3 hJ3 hk3
                · gi_wp2
                  refine wpAnyIn_ready (rs := [6]) (by kernel_rfl) (by simp) (AllReadyIn.cons rfl (fun K' hK' => ?_) AllReadyIn.nil)
                  refine ite_go rfl ?_
                  gi_wp2
                  refine wpAnyIn_done (by kernel_rfl) ?_ _
                  gi_wp2
                  exact ⟨(hstp.out w5 hb5 W3 hJx3 hk3).1, rfl, (hstp.out w5 hb5 W3 hJx3 hk3).2⟩
              exact AllReadyIn.nil
            refine AllReadyIn.cons rfl (fun K' hK' => ?_) ?_
            · refine ite_go rfl ?_
              refine wpIn_of_wp (by intro c h; cases h) ?_
              go_simp
              (go_at_call 32; (with_reducible refine (hst.out _).mono ?_); rintro e w5 ⟨rfl, hb5⟩)
              have y5 := hyc.out w5 hb5
              go_simp
              refine hK' _ _ ?_; clear hK' K'; try simp only [Act.put, List.setIfInBounds_toArray, List.set_cons_zero, List.set_cons_succ, Array.toArray_toList]
              refine wpAnyIn_ready (rs := [0]) (by kernel_rfl) (by simp) ?_
              refine AllReadyIn.cons rfl (fun K' hK' => ?_) ?_
              · refine ite_go rfl ?_
                gi_step
                refine hK' _ _ ?_; clear hK' K'; try simp only [Act.put, List.setIfInBounds_toArray, List.set_cons_zero, List.set_cons_succ, Array.toArray_toList]
                obtain ⟨fn, tmps, assign, body, hy, hR⟩ := hyy.out w5 hb5
                refine wpAnyIn_ready (rs := [5]) (by kernel_rfl) (by simp) (AllReadyIn.cons rfl (fun K' hK' => ?_) AllReadyIn.nil)
                refine ite_go rfl ?_
                gi_wp2
                refine (roundIn_wide hR).mono ?_
                rintro e W3 (⟨rfl, hJ3, hk3⟩ | ⟨rfl, hJx3, hk3⟩)
                · gi_wp2
                  refine wpAnyIn_ready (rs := [6]) (by kernel_rfl) (by simp) (AllReadyIn.cons rfl (fun K' hK' => ?_) AllReadyIn.nil)
                  refine ite_go rfl ?_
                  gi_wp2
                  refine wpAnyIn_done (by kernel_rfl) ?_ _
                  gi_wp2
                  exact hend.out w5 hb5 W3 hJ3 hk3
                · gi_wp2
                  refine wpAnyIn_ready (rs := [6]) (by kernel_rfl) (by simp) (AllReadyIn.cons rfl (fun K' hK' => ?_) AllReadyIn.nil)
                  refine ite_go rfl ?_
                  gi_wp2
                  refine wpAnyIn_done (by kernel_rfl) ?_ _
                  gi_wp2
                  exact ⟨(hstp.out w5 hb5 W3 hJx3 hk3).1, rfl, (hstp.out w5 hb5 W3 hJx3 hk3).2⟩
              exact AllReadyIn.nil
            exact AllReadyIn.nil
          exact AllReadyIn.nil
        exact AllReadyIn.nil
      refine AllReadyIn.cons rfl (fun K' hK' => ?_) ?_
      · refine ite_go rfl ?_
        gi_step
        refine hK' _ _ ?_; clear hK' K'; try simp only [Act.put, List.setIfInBounds_toArray, List.set_cons_zero, List.set_cons_succ, Array.toArray_toList]
        refine wpAnyIn_ready (rs := [0, 1]) (by kernel_rfl) (by simp) ?_
        refine AllReadyIn.cons rfl (fun K' hK' => ?_) ?_
        · refine ite_go rfl ?_
          gi_step
          refine hK' _ _ ?_; clear hK' K'; try simp only [Act.put, List.setIfInBounds_toArray, List.set_cons_zero, List.set_cons_succ, Array.toArray_toList]
          refine wpAnyIn_ready (rs := [1]) (by kernel_rfl) (by simp) ?_
          refine AllReadyIn.cons rfl (fun K' hK' => ?_) ?_
          · refine ite_go rfl ?_
            gi_step
            refine hK' _ _ ?_; clear hK' K'; try simp only [Act.put, List.setIfInBounds_toArray, List.set_cons_zero, List.set_cons_succ, Array.toArray_toList]
            refine wpAnyIn_ready (rs := [2]) (by kernel_rfl) (by simp) ?_
            refine AllReadyIn.cons rfl (fun K' hK' => ?_) ?_
            · refine ite_go rfl ?_
              refine wpIn_of_wp (by intro c h; cases h) ?_
              refine wp_load_mid 64 (.tmp 17) rfl (W.heap.size + 1) 0 rfl (rg s1).toList _ hrg.out Try.underlying64 rfl (by exact row64.2) ?_
              refine hK' _ _ ?_; clear hK' K'; try simp only [Act.put, List.setIfInBounds_toArray, List.set_cons_zero, List.set_cons_succ, Array.toArray_toList]
              refine wpAnyIn_ready (rs := [3]) (by kernel_rfl) (by simp) ?_
              refine AllReadyIn.cons rfl (fun K' hK' => ?_) ?_
              · refine ite_go rfl ?_
                refine wpIn_of_wp (by intro c h; cases h) ?_
                go_simp
                (go_at_call 32; (with_reducible refine (hst.out _).mono ?_); rintro e w5 ⟨rfl, hb5⟩)
                have y5 := hyc.out w5 hb5
                go_simp
                refine hK' _ _ ?_; clear hK' K'; try simp only [Act.put, List.setIfInBounds_toArray, List.set_cons_zero, List.set_cons_succ, Array.toArray_toList]
                obtain ⟨fn, tmps, assign, body, hy, hR⟩ := hyy.out w5 hb5
                refine wpAnyIn_ready (rs := [5]) (by kernel_rfl) (by simp) (AllReadyIn.cons rfl (fun K' hK' => ?_) AllReadyIn.nil)
                refine ite_go rfl ?_
                gi_wp2
                refine (roundIn_wide hR).mono ?_
                rintro e W3 (⟨rfl, hJ3, hk3⟩ | ⟨rfl, hJx3, hk3⟩)
                · gi_wp2
                  refine wpAnyIn_ready (rs := [6]) (by kernel_rfl) (by simp) (AllReadyIn.cons rfl (fun K' hK' => ?_) AllReadyIn.nil)
                  refine ite_go rfl ?_
                  gi_wp2
                  refine wpAnyIn_done (by kernel_rfl) ?_ _
                  gi_wp2
                  exact hend.out w5 hb5 W3 hJ3 hk3
                · gi_wp2
                  refine wpAnyIn_ready (rs := [6]) (by kernel_rfl) (by simp) (AllReadyIn.cons rfl (fun K' hK' => ?_) AllReadyIn.nil)
                  refine ite_go rfl ?_
                  gi_wp2
                  refine wpAnyIn_done (by kernel_rfl) ?_ _
                  gi_wp2
                  exact ⟨(hstp.out w5 hb5 W3 hJx3 hk3).1, rfl, (hstp.out w5 hb5 W3 hJx3 hk3).2⟩
              exact AllReadyIn.nil
            exact AllReadyIn.nil
          exact AllReadyIn.nil
        refine AllReadyIn.cons rfl (fun K' hK' => ?_) ?_
        · refine ite_go rfl ?_
          gi_step
          refine hK' _ _ ?_; clear hK' K'; try simp only [Act.put, List.setIfInBounds_toArray, List.set_cons_zero, List.set_cons_succ, Array.toArray_toList]
          refine wpAnyIn_ready (rs := [0, 2]) (by kernel_rfl) (by simp) ?_
          refine AllReadyIn.cons rfl (fun K' hK' => ?_) ?_
          · refine ite_go rfl ?_
            gi_step
            refine hK' _ _ ?_; clear hK' K'; try simp only [Act.put, List.setIfInBounds_toArray, List.set_cons_zero, List.set_cons_succ, Array.toArray_toList]
            refine wpAnyIn_ready (rs := [2]) (by kernel_rfl) (by simp) ?_
            refine AllReadyIn.cons rfl (fun K' hK' => ?_) ?_
            · refine ite_go rfl ?_
              refine wpIn_of_wp (by intro c h; cases h) ?_
              refine wp_load_mid 64 (.tmp 17) rfl (W.heap.size + 1) 0 rfl (rg s1).toList _ hrg.out Try.underlying64 rfl (by exact row64.2) ?_
              refine hK' _ _ ?_; clear hK' K'; try simp only [Act.put, List.setIfInBounds_toArray, List.set_cons_zero, List.set_cons_succ, Array.toArray_toList]
              refine wpAnyIn_ready (rs := [3]) (by kernel_rfl) (by simp) ?_
              refine AllReadyIn.cons rfl (fun K' hK' => ?_) ?_
              · refine ite_go rfl ?_
                refine wpIn_of_wp (by intro c h; cases h) ?_
                go_simp
                (go_at_call 32; (with_reducible refine (hst.out _).mono ?_); rintro e w5 ⟨rfl, hb5⟩)
                have y5 := hyc.out w5 hb5
                go_simp
                refine hK' _ _ ?_; clear hK' K'; try simp only [Act.put, List.setIfInBounds_toArray, List.set_cons_zero, List.set_cons_succ, Array.toArray_toList]
                obtain ⟨fn, tmps, assign, body, hy, hR⟩ := hyy.out w5 hb5
                refine wpAnyIn_ready (rs := [5]) (by kernel_rfl) (by simp) (AllReadyIn.cons rfl (fun K' hK' => ?_) AllReadyIn.nil)
                refine ite_go rfl ?_
                gi_wp2
                refine (roundIn_wide hR).mono ?_
                rintro e W3 (⟨rfl, hJ3, hk3⟩ | ⟨rfl, hJx3, hk3⟩)
                · gi_wp2
                  refine wpAnyIn_ready (rs := [6]) (by kernel_rfl) (by simp) (AllReadyIn.cons rfl (fun K' hK' => ?_) AllReadyIn.nil)
                  refine ite_go rfl ?_
                  gi_wp2
                  refine wpAnyIn_done (by kernel_rfl) ?_ _
                  gi_wp2
                  exact hend.out w5 hb5 W3 hJ3 hk3
                · gi_wp2
                  refine wpAnyIn_ready (rs := [6]) (by kernel_rfl) (by simp) (AllReadyIn.cons rfl (fun K' hK' => ?_) AllReadyIn.nil)
                  refine ite_go rfl ?_
                  gi_wp2
                  refine wpAnyIn_done (by kernel_rfl) ?_ _
                  gi_wp2
                  exact ⟨(hstp.out w5 hb5 W3 hJx3 hk3).1, rfl, (hstp.out w5 hb5 W3 hJx3 hk3).2⟩
              exact AllReadyIn.nil
            exact AllReadyIn.nil
          refine AllReadyIn.cons rfl (fun K' hK' => ?_) ?_
          · refine ite_go rfl ?_
            refine wpIn_of_wp (by intro c h; cases h) ?_
            refine wp_load_mid 64 (.tmp 17) rfl (W.heap.size + 1) 0 rfl (rg s1).toList _ hrg.out Try.underlying64 rfl (by exact row64.2) ?_
            refine hK' _ _ ?_; clear hK' K'; try simp only [Act.put, List.setIfInBounds_toArray, List.set_cons_zero, List.set_cons_succ, Array.toArray_toList]
            refine wpAnyIn_ready (rs := [0, 3]) (by kernel_rfl) (by simp) ?_
            refine AllReadyIn.cons rfl (fun K' hK' => ?_) ?_
            · refine ite_go rfl ?_
              gi_step
              refine hK' _ _ ?_; clear hK' K'; try simp only [Act.put, List.setIfInBounds_toArray, List.set_cons_zero, List.set_cons_succ, Array.toArray_toList]
              refine wpAnyIn_ready (rs := [3]) (by kernel_rfl) (by simp) ?_
              refine AllReadyIn.cons rfl (fun K' hK' => ?_) ?_
              · refine ite_go rfl ?_
                refine wpIn_of_wp (by intro c h; cases h) ?_
                go_simp
                (go_at_call 32; (with_reducible refine (hst.out _).mono ?_); rintro e w5 ⟨rfl, hb5⟩)
                have y5 := hyc.out w5 hb5
                go_simp
                refine hK' _ _ ?_; clear hK' K'; try simp only [Act.put, List.setIfInBounds_toArray, List.set_cons_zero, List.set_cons_succ, Array.toArray_toList]
                obtain ⟨fn, tmps, assign, body, hy, hR⟩ := hyy.out w5 hb5
                refine wpAnyIn_ready (rs := [5]) (by kernel_rfl) (by simp) (AllReadyIn.cons rfl (fun K' hK' => ?_) AllReadyIn.nil)
                refine ite_go rfl ?_
                gi_wp2
                refine (roundIn_wide hR).mono ?_
                rintro e W3 (⟨rfl, hJ3, hk3⟩ | ⟨rfl, hJx3, hk3⟩)
                · gi_wp2
                  refine wpAnyIn_ready (rs := [6]) (by kernel_rfl) (by simp) (AllReadyIn.cons rfl (fun K' hK' => ?_) AllReadyIn.nil)
                  refine ite_go rfl ?_
                  gi_wp2
                  refine wpAnyIn_done (by kernel_rfl) ?_ _
                  gi_wp2
                  exact hend.out w5 hb5 W3 hJ3 hk3
                · gi_wp2
                  refine wpAnyIn_ready (rs := [6]) (by kernel_rfl) (by simp) (AllReadyIn.cons rfl (fun K' hK' => ?_) AllReadyIn.nil)
                  refine ite_go rfl ?_
                  gi_wp2
                  refine wpAnyIn_done (by kernel_rfl) ?_ _
                  gi_wp2
                  exact ⟨(hstp.out w5 hb5 W3 hJx3 hk3).1, rfl, (hstp.out w5 hb5 W3 hJx3 hk3).2⟩
              exact AllReadyIn.nil
            refine AllReadyIn.cons rfl (fun K' hK' => ?_) ?_
            · refine ite_go rfl ?_
              refine wpIn_of_wp (by intro c h; cases h) ?_
              go_simp
              (go_at_call 32; (with_reducible refine (hst.out _).mono ?_); rintro e w5 ⟨rfl, hb5⟩)
              have y5 := hyc.out w5 hb5
              go_simp
              refine hK' _ _ ?_; clear hK' K'; try simp only [Act.put, List.setIfInBounds_toArray, List.set_cons_zero, List.set_cons_succ, Array.toArray_toList]
              refine wpAnyIn_ready (rs := [0]) (by kernel_rfl) (by simp) ?_
              refine AllReadyIn.cons rfl (fun K' hK' => ?_) ?_
              · refine ite_go rfl ?_
                gi_step
                refine hK' _ _ ?_; clear hK' K'; try simp only [Act.put, List.setIfInBounds_toArray, List.set_cons_zero, List.set_cons_succ, Array.toArray_toList]
                obtain ⟨fn, tmps, assign, body, hy, hR⟩ := hyy.out w5 hb5
                refine wpAnyIn_ready (rs := [5]) (by kernel_rfl) (by simp) (AllReadyIn.cons rfl (fun K' hK' => ?_) AllReadyIn.nil)
                refine ite_go rfl ?_
                gi_wp2
                refine (roundIn_wide hR).mono ?_
                rintro e W3 (⟨rfl, hJ3, hk3⟩ | ⟨rfl, hJx3, hk3⟩)
                · gi_wp2
                  refine wpAnyIn_ready (rs := [6]) (by kernel_rfl) (by simp) (AllReadyIn.cons rfl (fun K' hK' => ?_) AllReadyIn.nil)
                  refine ite_go rfl ?_
                  gi_wp2
                  refine wpAnyIn_done (by kernel_rfl) ?_ _
                  gi_wp2
                  exact hend.out w5 hb5 W3 hJ3 hk3
                · gi_wp2
                  refine wpAnyIn_ready (rs := [6]) (by kernel_rfl) (by simp) (AllReadyIn.cons rfl (fun K' hK' => ?_) AllReadyIn.nil)
                  refine ite_go rfl ?_
                  gi_wp2
                  refine wpAnyIn_done (by kernel_rfl) ?_ _
                  gi_wp2
                  exact ⟨(hstp.out w5 hb5 W3 hJx3 hk3).1, rfl, (hstp.out w5 hb5 W3 hJx3 hk3).2⟩
              exact AllReadyIn.nil
            exact AllReadyIn.nil
          exact AllReadyIn.nil
        exact AllReadyIn.nil
      exact AllReadyIn.nil
    · have hki : RowKit.Hid (i = kk) := Lib.hid (by
        have hv := HV.out
        rcases Nat.lt_or_ge i kk with h | h
        · exact absurd (hv.2.1 i h) hbit
        · omega)
      have HJI := Lib.hid hI.j
      replace hseq := Lib.hid hseq
      clear hI
      obtain ⟨b, hbe⟩ : ∃ b, b = (gd l i).toNat := ⟨_, rfl⟩
      rw [← hbe] at hbit ⊢
      clear hbe
      have hn1 : (1 : Int) < (b : Int) := by omega
      gi_wp2
      exact ⟨KeepsP.refl _ _, rfl, .inl (by rw [← hki.out]; exact HJI.out), hsA⟩
  case done =>
    rintro D xs A hD hS ⟨⟨hp, hpl⟩, hI⟩ hK
    have hxl : xs.length = l.length := by rw [hS, upA_length]
    rw [hxl] at hI hpl
    have hkk : kk = l.length := by have := HV.out.1; omega
    clear hp hS
    go_wp2
    rw [← hQ.out]
    refine ⟨by simp, .inl ⟨_, _, rfl, run_takeDeferred hK, ?_⟩⟩
    exact ⟨_, results_none rfl _ _ _, ⟨_, rfl⟩, .inl ⟨_, rfl, HJ.out _ _ _ (by rw [hkk]; exact hI.j) (below_put _ _ _ (by omega))⟩⟩
  case stop =>
    rintro D cd pre A hD ⟨rfl, hx, hsA⟩ hK
    gi_wp2
    rw [← hQ.out]
    refine ⟨by simp, .inl ⟨_, _, rfl, run_takeDeferred hK, ?_⟩⟩
    refine ⟨_, results_none rfl _ _ _, ⟨_, rfl⟩, ?_⟩
    rcases hx with hj | ⟨pr, hx⟩
    · exact .inl ⟨_, rfl, HJ.out _ _ _ hj (below_put _ _ _ (by omega))⟩
    · exact .inr ⟨_, HJx.out _ _ _ hx (below_put _ _ _ (by omega))⟩
end Go.Proofs.Ytkcccoialmineaa
