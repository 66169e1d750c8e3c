/-
  Counter mode: the encryption of a message.
-/
import Derived.Test.YtdgmahgidmjniaaCtrC
import Derived.Test.YtdgmahgidmjniaaTill
import Derived.Test.YtdgmahgidmjniaaApp
import Derived.Test.YtdgmahgidmjniaaOne
import Derived.Test.YtdgmahgidmjniaaHeld
import Derived.Deep.RegionHeld3
import Derived.Deep.DeepAppendRoom
namespace Go.Proofs.Ytdgmahgidmjniaa
open Go.RowKit
attribute [-go_sem] Instr.build
attribute [local go_sem] Oper.semAt_some bits_x8

/-- The exclusive or of l and the bytes of s. -/
def xrL (l s : List UInt8) : List UInt8 := List.zipWith x8 l s
def cryL (key : List UInt8) (c b d : Nat) (l : List UInt8) : List UInt8 := xrL l (ksU key c b d l.length)
theorem xrL_length (l s : List UInt8) : (xrL l s).length = min l.length s.length := by simp [xrL]
theorem xrL_nil (l : List UInt8) : xrL l [] = [] := by simp [xrL]
theorem xrL_snoc (l s : List UInt8) (x : UInt8) (h : s.length < l.length) : xrL l (s ++ [x]) = xrL l s ++ [x8 (gd l s.length) x] := by
  unfold xrL
  induction l generalizing s with
  | nil => simp at h
  | cons y l ih =>
    cases s with
    | nil => simp [gd]
    | cons z s =>
      simp only [List.cons_append, List.zipWith_cons_cons, List.length_cons] at h ⊢
      rw [ih s (by omega)]
      simp [gd]
theorem own_at {A A' : World} {base : Nat} {e : TypeId} {size : Nat} {v : Value} {n : Nat} {xs : List Value} (h : A.ownsRow base e size v n xs) (k : ∀ g, v.ownBlock = some g → A'.heap[g]? = A.heap[g]?) : A'.ownsRow base e size v n xs := by
  obtain ⟨h1, h2 | ⟨g, cap, cur, rfl, h3, h4, h5⟩⟩ := h
  · exact ⟨h1, .inl h2⟩
  · exact ⟨h1, .inr ⟨g, cap, cur, rfl, h3, (k g rfl).trans h4, h5⟩⟩

section
variable {F : Fence} {n : Nat} {P : Program}
/-- With one variable, which no closure holds. -/
theorem wpIn_rangeFunc_one {α : Type} {g : Operand} {p q : Tmp} {e : α → Value} {assign body : Code} {Q : Exit → Act → World → Prop} {a : Act} {w : World}
    (hro : F.round = none) (h1 : 1 ≤ n) {gf : Nat} {lb : Array Value} (hg : a.eval g = .func (.func gf) #[] lb) (hFg : F.fn gf) (eg : ∀ args w, (callFunc gf args).run P w = .ok (.enter gf args) w)
    {K : Nat → Prop} {G : List α → Prop} {R : List α → α → Prop} {S : List α → Prop} {w0 : World} (hseq : SeqAt F (n - 1) P gf lb (fun x => #[e x]) K G R S w0)
    (hb0 : Below w0.heap.size w0 w) (hKw : ∀ k, K k → k < w.heap.size)
    (I : List α → World → Prop) (Ix : Code → List α → World → Prop) (hI : ∀ s A A', I s A → Below w.heap.size A A' → I s A') (hIx : ∀ c s A A', Ix c s A → Below w.heap.size A A' → Ix c s A') (hG : ∀ pre W, I pre W → G pre) (h0 : I [] w)
    (hassign : ∀ (l : Nat) (x : α) (W : World) (C : Act → World → Prop), C { tmps := (a.tmps.setIfInBounds p (e x)).setIfInBounds q (e x), defers := [] } W → assign.wpIn (F.inRound l) (n - 1 - 1) P (Exit.then C (fun _ _ _ => False)) { tmps := a.tmps.setIfInBounds p (e x), defers := [] } W)
    (hbody : ∀ (l : Nat) (pre : List α) (x : α) (W : World), w.heap.size + 2 ≤ W.heap.size → I pre W → R pre x → body.wpIn (F.inRound l) (n - 1 - 1) P (ownPostA w.heap.size K I Ix (pre ++ [x]) W) { tmps := (a.tmps.setIfInBounds p (e x)).setIfInBounds q (e x), defers := [] } W)
    (hdone : ∀ (D : Nat) (xs : List α) (W : World), w.heap.size ≤ D → S xs → I xs W → W.heap[D]? = some (.deferred (some [])) → Q .normal { a with defers := { target := .collected D, args := #[] } :: a.defers } W)
    (hstop : ∀ (D : Nat) (c : Code) (pre : List α) (W : World), w.heap.size ≤ D → Ix c pre W → W.heap[D]? = some (.deferred (some [])) → c.wpIn F n P Q { a with defers := { target := .collected D, args := #[] } :: a.defers } W) :
    (Code.rangeFunc g #[p] assign body).wpIn F n P Q a w :=
  wpIn_rangeFunc_at hro h1 hg hFg eg hseq hb0 hKw (fun _ => rfl) I Ix hI hIx hG h0 (fun x a' _ => a' = { tmps := (a.tmps.setIfInBounds p (e x)).setIfInBounds q (e x), defers := [] }) (fun _ _ _ _ _ h _ => h)
    (fun l _ x W C _ _ hC => by have := hassign l x W C (hC _ _ (Below.refl _ _) rfl); simpa using this) (fun l pre x a' W hs hi hr ha => by subst ha; exact hbody l pre x W hs hi hr) hdone hstop
end

theorem stream_any (key : List UInt8) (c b d : Int) (w : World) :
    Calls Try.prog 71 #[.agg (bytesV key), .int .u32 c, .int .i64 b, .int .i64 d] w fun e w' => ∃ B, B = w.heap.size ∧
      e = .returned (.func (.func 85) #[] #[.pointer (some ⟨B, 0, none⟩), .pointer (some ⟨B + 1, 0, none⟩), .pointer (some ⟨B + 1 + 1, 0, none⟩), .pointer (some ⟨B + 1 + 1 + 1, 0, none⟩)]) ∧
      Blk w' B (bytesV key) 22 ∧ Blk w' (B + 1) #[.int .u32 c] 23 ∧ Blk w' (B + 1 + 1) #[.int .i64 b] 3 ∧ Blk w' (B + 1 + 1 + 1) #[.int .i64 d] 24 ∧ Below w.heap.size w w' ∧ w'.heap.size = w.heap.size + 4 := by
  go_enter Try.func71, Try.ntmps71
  go_wp2
  go_ret
  refine ⟨_, rfl, rfl, (((Blk.new' rfl).alloc _).alloc _).alloc _, ((Blk.new' (by simp)).alloc _).alloc _, (Blk.new' (by simp)).alloc _, Blk.new' (by simp), ((((Below.refl _ _).alloc (Nat.le_refl _) _).alloc (by simp) _).alloc (by simp; omega) _).alloc (by simp; omega) _, by simp⟩

/-- What lies when the bytes of pre have come. -/
structure CryI (w : World) (g g3 : Nat) (a : Option Addr) (cap : Nat) (l pre : List UInt8) (W : World) : Prop where
  own : W.ownsRow w.heap.size 5 1 (.slice (some ⟨g, 0, none⟩) pre.length l.length) pre.length ((xrL l pre).map B)
  out : Blk W g3 #[.slice (some ⟨g, 0, none⟩) pre.length l.length] 37
  arg : Blk W (w.heap.size + 1) #[.slice a l.length cap] 37
  below : Below w.heap.size w W
theorem CryI.same {w : World} {g g3 : Nat} {a : Option Addr} {cap : Nat} {l pre : List UInt8} {B : Nat} {W W' : World} (h : CryI w g g3 a cap l pre W) (k : Below B W W') (h1 : g < B) (h2 : g3 < B) (h3 : w.heap.size + 1 < B) : CryI w g g3 a cap l pre W' :=
  ⟨own_at h.own (fun g' hg => by simp only [Value.ownBlock, Option.some.injEq] at hg; subst hg; exact k.block _ h1), h.out.below k h2, h.arg.below k h3, h.below.trans (k.mono (by omega))⟩

theorem Keeps.grown {B : Nat} {K : Nat → Prop} {W W' W'' : World} {g : Nat} (h : Keeps B K W W') (k : W'.grownBy W'' (some g)) (hb : g < B) (hK : ¬ K g) : Keeps B K W W'' :=
  h.trans ⟨k.os, k.tape, k.output, k.size, fun i hi hik => k.block i hi (by rintro h; cases h; rcases hik with h | h; omega; exact hK h)⟩
theorem ite_go {b : Bool} {A C : Prop} (hb : b = true) (h : A) : if b = true then A else C := by rw [if_pos hb]; exact h
theorem info5 : (Try.prog.info? 5).map (fun i => (i.zero, i.size, i.bytes)) = some (some (.int .u8 0), 1, 1) := by kernel_rfl
set_option maxRecDepth 100000 in
set_option maxHeartbeats 4000000 in
theorem crypt_ok (key : List UInt8) (hk : key.length = 16) (c b d : Nat) (hc : c < 2 ^ 32) (hb : b ≤ 31) (hd : d ≤ 1) (v : Value) (l : List UInt8) (w : World) (hv : Bsl w v l) (hlen : l.length ≤ 300) :
    Calls Try.prog 43 #[.agg (bytesV key), .int .u32 c, .int .i64 b, .int .i64 d, v] w fun e w' => ∃ v', e = .returned (.tuple #[v', .int .i64 0]) ∧
      w'.ownsRow w.heap.size 5 1 v' l.length ((cryL key c b d l).map B) ∧ Below w.heap.size w w' := by
  obtain ⟨i0, hi, hz0, hz1, hz2⟩ := info_parts info5
  have z1 : ∀ w, (zeroValue 28).run Try.prog w = .ok (.agg (bytesV Z8)) w := (zero_of_info zero28).1
  have hpre := prefix_ok c b d hc hb hd
  obtain ⟨p, hp⟩ : ∃ p, p = half (pre c b d) := ⟨_, rfl⟩
  have lp := Lib.hid (show p.length = 8 by rw [hp, len_half])
  rw [← hp] at hpre
  clear hp
  obtain ⟨a, cap, rfl, q1, q2, q3, q4⟩ := hv
  have hkey : (bytesV key).size = 16 := by rw [bytesV_size, hk]
  have Q1 := Lib.hid q1
  have Q2 := Lib.hid q2
  clear q1 q2
  refine (callsIn_wide (n := 3)).1 ?_
  refine callsIn_of_wp_marks Try.func43 rfl trivial ?_ rfl
  generalize hQ : bodyPostM Fence.wide 3 Try.prog _ _ = Q
  replace hQ := Lib.hid hQ
  simp only [Try.ntmps43, List.size_toArray, List.length_cons, List.length_nil, Nat.reduceAdd, Nat.reduceSub, Array.replicate_succ, Array.replicate_zero, List.push_toArray, List.append_toArray, List.nil_append, List.cons_append]
  refine (wpIn_wide).2 ?_
  obtain ⟨W0, hW0⟩ : ∃ W0, W0 = (w.alloc (.cells (bytesV key) 22)).alloc (.cells #[.slice a l.length cap] 37) := ⟨_, rfl⟩
  have hB : Below w.heap.size w W0 := by rw [hW0]; exact ((Below.refl w.heap.size w).alloc (Nat.le_refl _) (.cells (bytesV key) 22)).alloc (by simp) _
  have hA1 : Blk W0 w.heap.size (bytesV key) 22 := by rw [hW0]; exact (Blk.new' rfl).alloc _
  have hA2 : Blk W0 (w.heap.size + 1) #[.slice a l.length cap] 37 := by rw [hW0]; exact Blk.new' (by simp)
  have HW0 := Lib.hid hW0
  clear hW0
  by_cases hl0 : l = []
  · have hl2 : (l.length : Int) = 0 := by rw [hl0]; rfl
    replace hl0 := Lib.hid hl0
    go_wp2_with (first
      | (go_at_call 26; rw [← HW0.out]; refine (hpre _).mono ?_; rintro e w1 ⟨rfl, hb1⟩; replace hB := bnext hB hb1; replace hA1 := hA1.below hb1 hA1.lt; replace hA2 := hA2.below hb1 hA2.lt; clear hb1)
      | ((with_reducible refine wpList_store_blk rfl 28 (.tmp 12) (.tmp 21) rfl w1.heap.size 0 8 (bytesV p) rfl rfl (C := bytesV Z8) (t := 28) ?_ row28 ?_ ?_ (bytesV_one _) ?_); (exact Blk.new' rfl); (rw [bytesV_size, lp.out]); (rw [bytesV_size]; decide); intro w2 g1 ho2; clear g1; have hb2 := below_only ((Below.refl w1.heap.size w1).alloc (Nat.le_refl _) (.cells (bytesV Z8) 28)) ho2 (Nat.le_refl _); replace hB := bnext hB hb2; replace hA1 := hA1.below hb2 hA1.lt; replace hA2 := hA2.below hb2 hA2.lt; clear hb2 ho2; have f2 := hA2.cell 0; simp only [List.getElem?_toArray, List.getElem?_cons_zero] at f2)
      | fail)
    rw [← hQ.out]
    refine ⟨_, results_tmp2 rfl _ _ _, _, rfl, ?_, hB⟩
    exact ⟨by simp [hl0.out, cryL, xrL], .inl ⟨rfl, by rw [hl0.out]; rfl⟩⟩
  have hl1 : 0 < l.length := by cases l; exact absurd rfl hl0; simp
  have hl2 : (l.length : Int) ≠ 0 := by omega
  obtain ⟨bb, ob, rfl, hbb, hcx⟩ := q4 hl1
  go_wp2_with (first
    | (go_at_call 26; rw [← HW0.out]; refine (hpre _).mono ?_; rintro e w1 ⟨rfl, hb1⟩; replace hB := bnext hB hb1; replace hA1 := hA1.below hb1 hA1.lt; replace hA2 := hA2.below hb1 hA2.lt; clear hb1)
    | ((with_reducible refine wpList_store_blk rfl 28 (.tmp 12) (.tmp 21) rfl w1.heap.size 0 8 (bytesV p) rfl rfl (C := bytesV Z8) (t := 28) ?_ row28 ?_ ?_ (bytesV_one _) ?_); (exact Blk.new' rfl); (rw [bytesV_size, lp.out]); (rw [bytesV_size]; decide); intro w2 g1 ho2; clear g1; have hb2 := below_only ((Below.refl w1.heap.size w1).alloc (Nat.le_refl _) (.cells (bytesV Z8) 28)) ho2 (Nat.le_refl _); replace hB := bnext hB hb2; replace hA1 := hA1.below hb2 hA1.lt; replace hA2 := hA2.below hb2 hA2.lt; clear hb2 ho2; have hsz2 := hA2.lt; have f2 := hA2.cell 0; simp only [List.getElem?_toArray, List.getElem?_cons_zero] at f2)
    | (at_make; refine wpList_make_own _ rfl _ _ 37 rfl w.heap.size 5 i0 (.int .u8 0) 1 elem37 hi hz0 hz1 .i64 .i64 _ l.length rfl rfl rfl (by rw [hz2]; omega) (by unfold maxLen; omega) hB.size ?_; intro w3 hOwn hgr; have hb3 : Below w2.heap.size w2 w3 := ⟨hgr.os, hgr.tape, hgr.output, hgr.size, fun k hk => hgr.block k hk (by simp)⟩; have hsz := (hOwn.lt w2.heap.size rfl).2; replace hB := bnext hB hb3; replace hA1 := hA1.below hb3 hA1.lt; replace hA2 := hA2.below hb3 hA2.lt; clear hb3 hgr)
    | ((with_reducible refine wpList_load_blk rfl 22 (.tmp 5) rfl w.heap.size 0 16 rfl (hA1.alloc _) row22 ?_ (bytesV key) ?_ ?_); (rw [hkey]; exact Nat.le_refl _); (exact bytesV_whole _ _ hk))
    | (go_at_call 71; (obtain ⟨w4, hw4⟩ : ∃ w4, w4 = w3.alloc (.cells #[.slice (some ⟨w2.heap.size, 0, none⟩) 0 l.length] 37) := ⟨_, rfl⟩); rw [← hw4]; (have hA3 : Blk w4 w3.heap.size #[.slice (some ⟨w2.heap.size, 0, none⟩) 0 l.length] 37 := by rw [hw4]; exact Blk.new' rfl); replace hA2 := hA2.alloc (.cells #[.slice (some ⟨w2.heap.size, 0, none⟩) 0 l.length] 37); replace hOwn := hOwn.alloc (.cells #[.slice (some ⟨w2.heap.size, 0, none⟩) 0 l.length] 37); replace hB := hB.alloc hB.size (.cells #[.slice (some ⟨w2.heap.size, 0, none⟩) 0 l.length] 37); have hs4 : w4.heap.size = w3.heap.size + 1 := (by rw [hw4]; simp); rw [← hw4] at hA2 hOwn hB; clear hw4; refine (stream_any key c b d w4).mono ?_; rintro e wL ⟨K0, hK0, rfl, k1, k2, k3, k4, hbL, hsL⟩; replace hK0 := Lib.hid hK0; replace hsL := Lib.hid hsL; replace hs4 := Lib.hid hs4; replace hB := bnext hB hbL; replace hA2 := hA2.below hbL hA2.lt; replace hA3 := hA3.below hbL hA3.lt; replace hOwn := own_below hOwn hbL; clear hbL)
    | fail)
  replace hK0 := hK0.out
  replace hsL := hsL.out
  replace hs4 := hs4.out
  have hg2 : w2.heap.size < wL.heap.size := by omega
  have hg3 : w3.heap.size < wL.heap.size := by omega
  have hgw : w.heap.size + 1 < wL.heap.size := hA2.lt
  have hseq := stream_seq 2 key hk c b d l.length hc hb hd (by omega) K0 (K0 + 1) (K0 + 1 + 1) (K0 + 1 + 1 + 1) wL k1 k2 k3 k4
  have h0 : CryI w w2.heap.size w3.heap.size (some ⟨bb, ob, none⟩) cap l [] wL := ⟨(by rw [xrL_nil]; exact hOwn), hA3, hA2, hB⟩
  have hbx : ∀ k, boxK K0 (K0 + 1) (K0 + 1 + 1) (K0 + 1 + 1 + 1) k → k < wL.heap.size := by unfold boxK; omega
  refine (wpIn_wide (n := 3)).1 ?_
  refine wpIn_rangeFunc_one (F := Fence.wide) (n := 3) (P := Try.prog) (p := 43) (q := 15) (e := fun x : UInt8 => .int .u8 x.toNat) (K := boxK K0 (K0 + 1) (K0 + 1 + 1) (K0 + 1 + 1 + 1)) (G := fun pre => pre.length < l.length) (R := fun pre x => x = ksB key c b d pre.length) (S := fun _ => False) (w0 := wL)
    (lb := #[.pointer (some ⟨K0, 0, none⟩), .pointer (some ⟨K0 + 1, 0, none⟩), .pointer (some ⟨K0 + 1 + 1, 0, none⟩), .pointer (some ⟨K0 + 1 + 1 + 1, 0, none⟩)]) rfl (by decide) (gf := 85) rfl trivial (Go.MuLone.run_callFunc_enter (f := 85) Try.func85 rfl rfl) hseq (Below.refl _ _) hbx
    (fun pre W => (pre = ksU key c b d pre.length ∧ pre.length < l.length) ∧ CryI w w2.heap.size w3.heap.size (some ⟨bb, ob, none⟩) cap l pre W)
    (fun cd pre W => cd = .exit 1 ∧ pre = ksU key c b d l.length ∧ CryI w w2.heap.size w3.heap.size (some ⟨bb, ob, none⟩) cap l pre W)
    (fun s A A' h k => ⟨h.1, h.2.same k hg2 hg3 hgw⟩) (fun cd s A A' h k => ⟨h.1, h.2.1, h.2.2.same k hg2 hg3 hgw⟩) (fun pre W h => h.1.2)
    ⟨⟨rfl, hl1⟩, h0⟩ ?assign ?body ?done ?stop
  case assign =>
    intro l' x W C hC
    simp only [List.setIfInBounds_toArray, List.set_cons_zero, List.set_cons_succ] at hC ⊢
    gi_wp2
    exact hC
  case body =>
    rintro r pre x W hsz ⟨⟨hp, hpl⟩, hI⟩ hx
    replace hp := Lib.hid hp
    replace hx := Lib.hid hx
    clear hseq hOwn hA1 hA2 hA3 h0 hbx k1 k2 k3 k4
    simp only [List.setIfInBounds_toArray, List.set_cons_zero, List.set_cons_succ]
    gi_wp2
    have u3 : W.drew.cell? ⟨bb, ob + pre.length, none⟩ = some (.int .u8 (gd l pre.length).toNat) := (hI.below.drew.cell (p := ⟨bb, ob + pre.length, none⟩) hbb).trans (hcx _ hpl)
    obtain ⟨Sw, hSw⟩ : ∃ Sw : World → Prop, Sw = fun w' => w'.cell? ⟨w3.heap.size, 0, none⟩ = some (.slice (some ⟨w2.heap.size, 0, none⟩) pre.length l.length) ∧ w'.cell? ⟨w.heap.size + 1, 0, none⟩ = some (.slice (some ⟨bb, ob, none⟩) l.length cap) ∧ w'.cell? ⟨bb, ob + pre.length, none⟩ = some (.int .u8 (gd l pre.length).toNat) := ⟨_, rfl⟩
    have a1 : ∀ w', Sw w' → w'.cell? ⟨w3.heap.size, 0, none⟩ = some (.slice (some ⟨w2.heap.size, 0, none⟩) pre.length l.length) := fun w' h => by rw [hSw] at h; exact h.1
    have a2 : ∀ w', Sw w' → w'.cell? ⟨w.heap.size + 1, 0, none⟩ = some (.slice (some ⟨bb, ob, none⟩) l.length cap) := fun w' h => by rw [hSw] at h; exact h.2.1
    have a3 : ∀ w', Sw w' → w'.cell? ⟨bb, ob + pre.length, none⟩ = some (.int .u8 (gd l pre.length).toNat) := fun w' h => by rw [hSw] at h; exact h.2.2
    have a4 : ∀ w' o, Sw w' → Sw (w'.alloc o) := fun w' o h => by
      rw [hSw] at h ⊢
      exact ⟨by rw [World.cell?_alloc_some _ _ _ (by rw [h.1]; rfl)]; exact h.1, by rw [World.cell?_alloc_some _ _ _ (by rw [h.2.1]; rfl)]; exact h.2.1, by rw [World.cell?_alloc_some _ _ _ (by rw [h.2.2]; rfl)]; exact h.2.2⟩
    have s0 : Sw W.drew := by
      rw [hSw]
      exact ⟨by simpa using hI.out.drew.cell 0, by simpa using hI.arg.drew.cell 0, u3⟩
    clear hSw u3
    refine wpIn_draw_calm (by kernel_rfl) (by kernel_rfl) (by rintro ⟨_, _, hf⟩; exact hf) ?_
    refine wpAny_of_till (S := Sw) (m := 9) _ _ _ _ ?_
    refine wpAnyT_take 6 [7, 8, 9] rfl (by kernel_rfl) (by kernel_rfl) (by kernel_rfl) (by kernel_rfl) (fun _ _ _ h => h) (yieldsIf_move rfl _ rfl (.int .u8 x.toNat) rfl) s0 ?_
    refine wpAnyT_take 0 [9] rfl (by kernel_rfl) (by kernel_rfl) (by kernel_rfl) (by kernel_rfl) (fun _ _ _ h => h) (yieldsIf_load_cell rfl 37 _ rfl _ _ rfl (fun w h => by go_simp) a1) s0 ?_
    refine wpAnyT_take 1 [4, 5, 7, 8, 9] rfl (by kernel_rfl) (by kernel_rfl) (by kernel_rfl) (by kernel_rfl) (fun _ _ _ h => h) (yieldsIf_load_cell rfl 37 _ rfl _ _ rfl (fun w h => by go_simp) a2) s0 ?_
    refine wpAnyT_take 2 [3, 4, 5, 7, 8, 9] rfl (by kernel_rfl) (by kernel_rfl) (by kernel_rfl) (by kernel_rfl) (fun _ _ _ h => h) (yieldsIf_load_cell rfl 37 _ rfl _ _ rfl (fun w h => by go_simp) a1) s0 ?_
    have hWs : W.drew.heap.size = W.heap.size := rfl
    clear hWs
    refine wpAnyT_one 3 rfl (by kernel_rfl) (fun K' hK' => ?_)
    go_simp
    refine hK'.out _ _ (.inr s0) ?_; clear hK' K'; try simp only [Act.put, List.setIfInBounds_toArray, List.set_cons_zero, List.set_cons_succ]
    refine wpAnyT_one 4 rfl (by kernel_rfl) (fun K' hK' => ?_)
    go_simp
    refine hK'.out _ _ (.inr s0) ?_; clear hK' K'; try simp only [Act.put, List.setIfInBounds_toArray, List.set_cons_zero, List.set_cons_succ]
    have b3 := a3 _ s0
    refine wpAnyT_one 5 rfl (by kernel_rfl) (fun K' hK' => ?_)
    go_simp
    refine hK'.out _ _ (.inr s0) ?_; clear hK' K'; try simp only [Act.put, List.setIfInBounds_toArray, List.set_cons_zero, List.set_cons_succ]
    refine wpAnyT_one 7 rfl (by kernel_rfl) (fun K' hK' => ?_)
    go_simp
    refine hK'.out _ _ (.inr s0) ?_; clear hK' K'; try simp only [Act.put, List.setIfInBounds_toArray, List.set_cons_zero, List.set_cons_succ]
    refine wpAnyT_one 8 rfl (by kernel_rfl) (fun K' hK' => ?_)
    go_simp
    refine hK'.out _ _ (.inr (a4 _ _ s0)) ?_; clear hK' K'; try simp only [Act.put, List.setIfInBounds_toArray, List.set_cons_zero, List.set_cons_succ]
    refine wpAnyT_one 9 rfl (by kernel_rfl) (fun K' hK' => ?_)
    refine ite_go rfl ?_
    refine wp_append_own_spare _ (.tmp 44) (.tmp 52) 37 rfl w.heap.size 5 i0 1 elem37 hi hz1 w2.heap.size pre.length l.length _ rfl ((hI.own.alloc _).drew) ⟨W.heap.size, 0, none⟩ 1 1 [.int .u8 (x8 (gd l pre.length) x).toNat] rfl rfl (one_new _ _ _) (one_one _ _) hpl ?_
    intro w9 o9 g9
    have v9 := ((hI.out.alloc (.cells #[.int .u8 (x8 (gd l pre.length) x).toNat] 5)).drew).grown g9 (by simp; omega)
    have v9a := ((hI.arg.alloc (.cells #[.int .u8 (x8 (gd l pre.length) x).toNat] 5)).drew).grown g9 (by simp; omega)
    have t9 := v9.cell 0
    have t9f := v9.frozen 0
    have t9a := v9a.cell 0
    simp only [List.getElem?_toArray, List.getElem?_cons_zero] at t9 t9a
    refine hK'.out _ _ (.inl rfl) ?_; clear hK' K'; try simp only [Act.put, List.setIfInBounds_toArray]
    refine wpAnyT_one 10 rfl (by kernel_rfl) (fun K' hK' => ?_)
    go_simp
    refine hK'.out _ _ (.inl rfl) ?_; clear hK' K'; try simp only [Act.put, List.setIfInBounds_toArray, List.set_cons_zero, List.set_cons_succ]
    refine wpAnyT_done (by kernel_rfl) ?_ _
    have hbf : Below w.heap.size w w9 := (hI.below.alloc hI.below.size (.cells #[.int .u8 (x8 (gd l pre.length) x).toNat] 5)).drew.grown g9 (by simp; have := hI.below.size; omega) (fun k hk => by cases hk; omega)
    have hfin : CryI w w2.heap.size w3.heap.size (some ⟨bb, ob, none⟩) cap l (pre ++ [x]) (w9.setCell ⟨w3.heap.size, 0, none⟩ (.slice (some ⟨w2.heap.size, 0, none⟩) (pre.length + 1) l.length)) := by
      refine ⟨?_, ?_, v9a.set_other (by simp; omega) _, hbf.setCell (show w.heap.size ≤ w3.heap.size by omega) _⟩
      · rw [xrL_snoc _ _ _ hpl, List.length_append, List.map_append]
        exact own_only o9 (Only.setCell _ _ _) (fun g hg => by simp only [Value.ownBlock, Option.some.injEq] at hg; omega)
      · rw [List.length_append]; exact v9.set 0 _
    have hkeep : Keeps wL.heap.size (boxK K0 (K0 + 1) (K0 + 1 + 1) (K0 + 1 + 1 + 1)) W (w9.setCell ⟨w3.heap.size, 0, none⟩ (.slice (some ⟨w2.heap.size, 0, none⟩) (pre.length + 1) l.length)) :=
      (((Keeps.refl _ _ W).next (((Below.refl _ W).alloc (Nat.le_refl _) (.cells #[.int .u8 (x8 (gd l pre.length) x).toNat] 5)).drew)).grown g9 hg2 (by unfold boxK; omega)).setCell 0 _ hg3 (by unfold boxK; omega)
    have hpn : pre ++ [x] = ksU key c b d (pre.length + 1) := by rw [ksU_succ, ← hp.out, hx.out]
    clear o9 v9 v9a hbf t9 t9a t9f g9
    generalize hwf : w9.setCell ⟨w3.heap.size, 0, none⟩ (.slice (some ⟨w2.heap.size, 0, none⟩) (pre.length + 1) l.length) = wf at hfin hkeep ⊢
    have x1 := hfin.out.cell 0
    have x2 := hfin.arg.cell 0
    simp only [List.getElem?_toArray, List.getElem?_cons_zero, List.length_append, List.length_cons, List.length_nil, Nat.zero_add] at x1 x2
    clear hwf
    by_cases hlast : pre.length + 1 = l.length
    · have hli : (pre.length : Int) + 1 = l.length := by omega
      have hpl' : pre ++ [x] = ksU key c b d l.length := by rw [hpn, hlast]
      gi_wp2
      exact ⟨hkeep, rfl, hpl', hfin⟩
    · have hli : (pre.length : Int) + 1 ≠ l.length := by omega
      have hpl' : (pre ++ [x]).length = pre.length + 1 := by simp
      gi_wp2
      exact ⟨hkeep, ⟨by rw [hpl']; exact hpn, by rw [hpl']; omega⟩, hfin⟩
  case done =>
    rintro D xs W _ h _
    exact h.elim
  case stop =>
    rintro D cd pre W hD ⟨rfl, hp, hI⟩ hK
    have x1 := hI.out.cell 0
    simp only [List.getElem?_toArray, List.getElem?_cons_zero] at x1
    gi_wp2
    go_wp2
    rw [← hQ.out]
    refine ⟨by simp, .inl ⟨_, _, rfl, run_takeDeferred hK, ?_⟩⟩
    have hpl : pre.length = l.length := by rw [hp, ksU_length]
    refine ⟨_, results_tmp2 rfl _ _ _, _, rfl, ?_, hI.below.trans ((below_put _ _ _ hD).mono hB.size)⟩
    rw [hp] at hI
    have ho := own_at (A' := W.putObj D (.deferred none)) hI.own (fun g hg => by simp only [Value.ownBlock, Option.some.injEq] at hg; subst hg; exact World.putObj_heap_other (by omega))
    rw [ksU_length] at ho ⊢
    exact ho
end Go.Proofs.Ytdgmahgidmjniaa
