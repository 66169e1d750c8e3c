/-
  Counter mode: the reference's Crypt.
-/
import Derived.Test.YtdgmahgidmjniaaCtrE
import Derived.Test.YtdgmahgidmjniaaRef2
import Derived.Test.YtdgmahgidmjniaaCtrB
namespace Go.Proofs.Ytdgmahgidmjniaa
open Go.RowKit
attribute [-go_sem] Instr.build
attribute [local go_sem] bits_x8

theorem wp_append_bytes {P : Program} {w : World} {o : Oper} {a : Act} {K : Act → World → Prop} {Q : Exit → Act → World → Prop} (s x : Operand) (t : TypeId)
    (ho : o.op = .call { callee := .builtin .append, args := #[s, x], argTypes := #[t, t] })
    (base : Nat) (e : TypeId) (i : TypeInfo) (ht : P.underlying t = some (.slice e)) (hi : P.info? e = some i) (hz : i.zero = some (.int .u8 0)) (hsize : i.size = 1) (hby : i.bytes = 1)
    (v : Value) (l : List UInt8) (hs : a.eval s = v) (hown : w.ownsRow base e 1 v l.length (l.map B))
    (ad : Addr) (m : List UInt8) (c : Nat) (hx : a.eval x = .slice (some ad) m.length c) (hb : Byt w (some ad) m) (hlen : l.length + m.length ≤ 100000000000) (hbase : base ≤ w.heap.size)
    (h : ∀ v' w', w'.ownsRow base e 1 v' (l ++ m).length ((l ++ m).map B) → w.grownBy w' v.ownBlock → K (a.put o.dst v') w') : o.wp P a w K Q := by
  refine wp_append_own w s x t ho base e i (.int .u8 0) 1 1 ht hi hz hsize hby rfl (by decide) v l.length (l.map B) hs hown ad m.length c (m.map B) hx (by simp) (fun j u hj => ?_) (B_one m) (by unfold maxLen; omega) (by omega) hbase
      (fun v' w' h1 h2 _ => h v' w' (by rw [List.length_append, List.map_append]; exact h1) h2)
  have hj' : j < m.length := by
    have := (List.getElem?_eq_some_iff.1 hj).1
    simpa using this
  obtain ⟨b, o, e, _, hc⟩ := hb (by omega)
  simp only [Option.some.injEq] at e
  subst e
  have h1 := hc j hj'
  rw [List.getElem?_map, List.getElem?_eq_getElem hj', Option.map_some, Option.some.injEq] at hj
  subst hj
  rw [Go.WideShapes.add_plain]
  simpa [gd, hj', B] using h1
theorem wp_store_blk {P : Program} {op : Oper} {a : Act} {w : World} {K : Act → World → Prop} {Q : Exit → Act → World → Prop} (ty : TypeId) (x y : Operand) (ho : op.op = .store ty x y)
    (b o n : Nat) (V : Array Value) (hx : a.eval x = .pointer (some ⟨b, o, none⟩)) (hy : a.eval y = .agg V) {C : Array Value} {t : TypeId} (hb : Blk w b C t) (hr : RowTy P ty n) (hV : V.size = n) (hle : o + n ≤ C.size)
    (h1 : V.all (·.oneCell') = true) (h : ∀ w', Blk w' b (splice C o V.toList) t → Only b w w' → K (a.put op.dst undef) w') : op.wp P a w K Q := by
  obtain ⟨_, hi⟩ := hr
  subst hV
  have ht : w.there b o V.size := fun j hj => ⟨by rw [hb.cell, Array.getElem?_eq_getElem (by omega)]; rfl, hb.frozen _⟩
  exact wp_store_mid ty x y ho b o V hx hy ht hi h1 (h _ (hb.setCells _ _ _ _) (Only.setCells b _ _ w))
theorem byt_x {w : World} (x : UInt8) {t : TypeId} : Byt (w.alloc (.cells #[.int .u8 (x.toNat : Int)] t)) (some ⟨w.heap.size, 0, none⟩) [x] := by
  intro _
  refine ⟨w.heap.size, 0, rfl, by simp, fun i hi => ?_⟩
  have : i = 0 := by simpa using hi
  subst this
  exact (Blk.new w #[.int .u8 (x.toNat : Int)] t).cell 0
theorem cell_alloc {w : World} {b o : Nat} {s} {v : Value} (h : w.cell? ⟨b, o, s⟩ = some v) (x : Obj) : (w.alloc x).cell? ⟨b, o, s⟩ = some v := by
  have := ((Below.refl w.heap.size w).alloc (Nat.le_refl _) x).cell (p := ⟨b, o, s⟩) (cell_lt h)
  exact this.trans h
theorem kept2 {w : World} {b o b' o' : Nat} {s s'} {v v' : Value} {x : Obj} (h : w.cell? ⟨b, o, s⟩ = some v ∧ w.cell? ⟨b', o', s'⟩ = some v') : (w.alloc x).cell? ⟨b, o, s⟩ = some v ∧ (w.alloc x).cell? ⟨b', o', s'⟩ = some v' := ⟨cell_alloc h.1 x, cell_alloc h.2 x⟩
theorem own_nil (w : World) (base : Nat) : w.ownsRow base 5 1 (.slice none 0 0) ([] : List UInt8).length (([] : List UInt8).map B) := ⟨rfl, .inl ⟨rfl, rfl⟩⟩
theorem xrL_take (l s : List UInt8) (k : Nat) (hk : k < l.length) (hs : s.length = k) (x : UInt8) : xrL l (s ++ [x]) = xrL l s ++ [x8 (gd l k) x] := by
  have := xrL_snoc l s x (by omega)
  rwa [hs] at this

theorem idx22 (b r : Nat) (hr : r < 16) (W : World) : (Instr.indexAt 22 (.pointer (some ⟨b, 0, none⟩)) (.int .i64 r)).run Try.prog W = .ok (.pointer (some ⟨b, r, none⟩)) W := by
  have := Try.underlying22
  have h1 : (r : Int) < 16 := by omega
  go_simp
set_option maxRecDepth 100000 in
set_option maxHeartbeats 4000000 in
theorem refcrypt_any (key : List UInt8) (hk : key.length = 16) (c b d : Nat) (hb : b ≤ 31) (hd : d ≤ 1) (v : Value) (l : List UInt8) (w : World) (hv : Bsl w v l) (hlen : l.length ≤ 300) :
    Calls Try.prog 45 #[.agg (bytesV key), .int .u32 c, .int .i64 b, .int .i64 d, v] w fun e w' => ∃ v', e = .returned v' ∧ Bsl w' v' (cryL key c b d l) ∧ Below w.heap.size w w' := by
  obtain ⟨i0, hi, hz0, hz1, hz2⟩ := info_parts info5
  have z1 : ∀ w, (zeroValue 22).run Try.prog w = .ok (.agg (bytesV Z16)) w := (zero_of_info zero22).1
  obtain ⟨a, cap, rfl, q1, q2, q3, q4⟩ := hv
  have hkey : (bytesV key).size = 16 := by rw [bytesV_size, hk]
  obtain ⟨W, hW⟩ : ∃ W, W = (w.alloc (.cells (bytesV key) 22)).alloc (.cells (bytesV Z16) 22) := ⟨_, rfl⟩
  have hB : Below w.heap.size w W := by rw [hW]; exact ((Below.refl w.heap.size w).alloc (Nat.le_refl _) (.cells (bytesV key) 22)).alloc (by simp) _
  have hA1 : Blk W w.heap.size (bytesV key) 22 := by rw [hW]; exact (Blk.new' rfl).alloc _
  have hA2 : Blk W (w.heap.size + 1) (bytesV Z16) 22 := by rw [hW]; exact Blk.new' (by simp)
  have HW := Lib.hid hW
  have hblk := fun (i : Nat) w => refblock_ok c b d i hb hd w
  have hen := fun (m : List UInt8) (hm : m.length = 16) w => refencrypt_any key m hk hm w
  clear hW q1 q2
  go_enter Try.func45, Try.ntmps45
  go_wp2
  rw [← HW.out]
  go_loopw [11, 13] (fun t11 t13 wr => ∃ k : Nat, k ≤ l.length ∧ t13 = .int .i64 k ∧ (∃ M : List UInt8, M.length = 16 ∧ (k % 16 ≠ 0 → M = encR (ksL key 160) (cblk c b d (k / 16)) 10) ∧ Blk wr (w.heap.size + 1) (bytesV M) 22) ∧ Blk wr w.heap.size (bytesV key) 22 ∧
    wr.ownsRow (w.heap.size + 2) 5 1 t11 (xrL l (ksU key c b d k)).length ((xrL l (ksU key c b d k)).map B) ∧ Below w.heap.size w wr ∧ w.heap.size + 2 ≤ wr.heap.size) (fun _ t _ => l.length - (intOf t).toNat)
  case atStart => exact ⟨0, by omega, rfl, ⟨Z16, rfl, fun h => absurd rfl h, hA2⟩, hA1, by rw [show ksU key c b d 0 = [] from rfl, xrL_nil]; exact own_nil _ _, hB, by rw [HW.out]; simp⟩
  case round =>
    clear hB hA1 hA2 HW
    obtain ⟨k, hkl, rfl, ⟨M, hM, hMe, hA2⟩, hA1, hown, hB, hsz⟩ := hrel
    by_cases hlt : k < l.length
    · obtain ⟨p, o, rfl, hpl, hp⟩ := q4 (by omega)
      obtain ⟨q, hq⟩ : ∃ q, q = k / 16 := ⟨_, rfl⟩
      have hkq : (k : Int) / 16 = (q : Int) := by omega
      have hq9 : q < 1000 := by omega
      have hw1 : IntKind.i64.wrap (q : Int) = q := IntWalk.i64_in _ (by omega)
      have hw2 : IntKind.u64.wrap (q : Int) = q := IntWalk.u64_in _ (by omega)
      obtain ⟨E, hE⟩ : ∃ E, E = encR (ksL key 160) (cblk c b d q) 10 := ⟨_, rfl⟩
      have hEl : E.length = 16 := by rw [hE, encR_length]
      obtain ⟨r, hr⟩ : ∃ r, r = k % 16 := ⟨_, rfl⟩
      have hks : ksB key c b d k = gd E r := by rw [ksB, hE, hq, hr]
      have hkr : (k : Int) % 16 = (r : Int) := by omega
      have hr16 : r < 16 := by omega
      have hri : (r : Int) < 16 := by omega
      have hrj : (0 : Int) ≤ r := by omega
      have hkt : (k : Int).tmod 16 = (r : Int) := by rw [Int.tmod_eq_emod_of_nonneg (by omega)]; exact hkr
      have hia := fun W => idx22 (w.heap.size + 1) r hr16 W
      by_cases hr0 : r = 0
      · have hrb : ((r : Int) == 0) = true := by rw [hr0]; rfl
        replace hr0 := Lib.hid hr0
        replace hq := Lib.hid hq
        replace hE := Lib.hid hE
        replace hks := Lib.hid hks
        replace hMe := Lib.hid hMe
        replace hr := Lib.hid hr
        go_wp2
        obtain ⟨Sw, hSw⟩ : ∃ Sw : World → Prop, Sw = fun w' => Blk w' w.heap.size (bytesV key) 22 := ⟨_, rfl⟩
        have s0 : Sw wr.drew := by rw [hSw]; exact hA1.drew
        have a1 : ∀ w', Sw w' → Blk w' w.heap.size (bytesV key) 22 := fun w' h => by rw [hSw] at h; exact h
        have a2 : ∀ w' w'', Sw w' → Below w'.heap.size w' w'' → Sw w'' := fun w' w'' h k => by rw [hSw] at h ⊢; exact h.below k h.lt
        have a3 : ∀ w' w'', Sw w' → Only (w.heap.size + 1) w' w'' → Sw w'' := fun w' w'' h k => by rw [hSw] at h ⊢; exact h.only k (by omega)
        clear hSw
        refine wp_region_held_drew (S := Sw) (by kernel_rfl) s0 (fun hHeld => ?_)
        refine wpAnyH_take (i := 0) rfl (by kernel_rfl) (by kernel_rfl) (by kernel_rfl) (fun _ _ _ h => h) (yieldsIf_load_blk rfl _ _ rfl w.heap.size 16 (bytesV key) 22 rfl a1 row22 hkey) s0 ?_
        refine wpAnyH_take (i := 1) rfl (by kernel_rfl) (by kernel_rfl) (by kernel_rfl) (fun _ _ _ h => h) (yieldsIf_move rfl _ rfl (.int .u32 c) rfl) s0 ?_
        refine wpAnyH_take (i := 2) rfl (by kernel_rfl) (by kernel_rfl) (by kernel_rfl) (fun _ _ _ h => h) (yieldsIf_move rfl _ rfl (.int .i64 b) rfl) s0 ?_
        refine wpAnyH_take (i := 3) rfl (by kernel_rfl) (by kernel_rfl) (by kernel_rfl) (fun _ _ _ h => h) (yieldsIf_move rfl _ rfl (.int .i64 d) rfl) s0 ?_
        refine wpAnyH_take (i := 4) rfl (by kernel_rfl) (by kernel_rfl) (by kernel_rfl) (fun _ _ _ h => h) (yieldsIf_move rfl _ rfl (.int .i64 k) rfl) s0 ?_
        refine wpAnyH_one 5 rfl (by kernel_rfl) (fun K' hK' => ?_)
        go_simp
        refine hK'.out _ _ (s0) ?_; clear hK' K'; try simp only [Act.put, List.setIfInBounds_toArray, List.set_cons_zero, List.set_cons_succ]
        refine wpAnyH_one 6 rfl (by kernel_rfl) (fun K' hK' => ?_)
        go_simp
        refine hK'.out _ _ (s0) ?_; clear hK' K'; try simp only [Act.put, List.setIfInBounds_toArray, List.set_cons_zero, List.set_cons_succ]
        refine wpAnyH_one 7 rfl (by kernel_rfl) (fun K' hK' => ?_)
        go_simp
        (go_at_call 30; refine (hblk q _).mono ?_; rintro e w5 ⟨rfl, hb5⟩)
        go_wp2
        have s5 := a2 _ _ s0 hb5
        refine hK'.out _ _ (s5) ?_; clear hK' K'; try simp only [Act.put, List.setIfInBounds_toArray, List.set_cons_zero, List.set_cons_succ]
        refine wpAnyH_one 8 rfl (by kernel_rfl) (fun K' hK' => ?_)
        go_simp
        (go_at_call 41; refine (hen _ (cblk_length c b d q) _).mono ?_; rintro e w6 ⟨rfl, hb6⟩)
        go_wp2
        have s6 := a2 _ _ s5 hb6
        refine hK'.out _ _ (s6) ?_; clear hK' K'; try simp only [Act.put, List.setIfInBounds_toArray, List.set_cons_zero, List.set_cons_succ]
        refine wpAnyH_one 9 rfl (by kernel_rfl) (fun K' hK' => ?_)
        refine ite_go rfl ?_
        have hbx := hb5.trans (hb6.mono hb5.size)
        refine wp_store_blk 22 (.tmp 12) (.tmp 31) rfl (w.heap.size + 1) 0 16 _ rfl rfl ((hA2.drew.below hbx hA2.lt)) row22 (by rw [bytesV_size, encR_length]) (by rw [bytesV_size, hM]; exact Nat.le_refl _) (bytesV_one _) ?_
        intro wz hz o7
        rw [splice_all _ _ (by rw [hM, encR_length]), ← hE.out] at hz
        have s7 := a3 _ _ s6 o7
        refine hK'.out _ _ (s7) ?_; clear hK' K'; try simp only [Act.put, List.setIfInBounds_toArray, List.set_cons_zero, List.set_cons_succ]
        refine wpAnyH_done (by kernel_rfl) ?_ _
        have hBz : Below w.heap.size w wz := by
          have := hB.drew.trans (hbx.mono hB.size)
          exact below_only this o7 (by omega)
        have hoz := own_only (own_below hown.drew hbx) o7 (fun g hg => by have := (hown.lt g hg).1; omega)
        have hszz : w.heap.size + 2 ≤ wz.heap.size := by have h1 := hbx.size; have h2 := o7.size; have h3 : wr.drew.heap.size = wr.heap.size := rfl; omega
        replace hA1 := a1 _ s7
        clear s0 s5 s6 s7 a1 a2 a3 hHeld hbx hb5 hb6 o7 hown hA2 hB hsz hM hMe M
        go_wp2
        clear hrb
        have cA : wz.drew.cell? ⟨p, o + k, none⟩ = some (.int .u8 (gd l k).toNat) := (hBz.drew.cell (p := ⟨p, o + k, none⟩) hpl).trans (hp k hlt)
        have cB : wz.drew.cell? ⟨w.heap.size + 1, r, none⟩ = some (.int .u8 (gd E r).toNat) := hz.drew.gd r (by rw [hEl]; exact hr16)
        have s0 := And.intro cA cB
        clear cA cB
        have hln : (xrL l (ksU key c b d k)).length ≤ 300 := by rw [xrL_length]; omega
        go_region_held3 (fun w' => w'.cell? ⟨p, o + k, none⟩ = some (.int .u8 (gd l k).toNat) ∧ w'.cell? ⟨w.heap.size + 1, r, none⟩ = some (.int .u8 (gd E r).toNat)) (first | assumption | exact kept2 (by assumption))
          (first
            | (rw [if_pos (by rfl)]; refine wp_append_bytes (.tmp 32) (.tmp 42) 37 rfl (w.heap.size + 2) 5 i0 elem37 hi hz0 hz1 hz2 _ _ rfl (hoz.drew.alloc _) ⟨wz.heap.size, 0, none⟩ [x8 (gd l k) (gd E r)] 1 rfl (byt_x (w := wz.drew) _) ?_ ?_ ?_; (simp; omega); (exact le_alloc hszz _); intro v8 w8 o8 g8; have hB8 := (hBz.drew.alloc hBz.size _).grown g8 (le_alloc hBz.size _) (fun k hk => by have := (hoz.lt k hk).1; omega); have h8 := ((hz.drew.alloc _).grown g8 (own_ne hoz (by omega))); have s8 := And.intro ((hB8.cell (p := ⟨p, o + k, none⟩) hpl).trans (hp k hlt)) (h8.gd r (by rw [hEl]; exact hr16))))
        have HT : xrL l (ksU key c b d (k + 1)) = xrL l (ksU key c b d k) ++ [x8 (gd l k) (gd E r)] := by
          rw [ksU_succ, xrL_snoc _ _ _ (by rw [ksU_length]; exact hlt), ksU_length, hks.out]
        rw [← HT] at o8
        have h1 := (hA1.drew.alloc (.cells #[.int .u8 (x8 (gd l k) (gd E r)).toNat] 5)).grown g8 (own_ne hoz (by omega))
        have h9 : w.heap.size + 2 ≤ w8.heap.size := by have := g8.size; simp at this; have h3 : wz.drew.heap.size = wz.heap.size := rfl; omega
        have hE9 : (k + 1) % 16 ≠ 0 → E = encR (ksL key 160) (cblk c b d ((k + 1) / 16)) 10 := fun hh => by
          have h1 := hq.out
          rw [hE.out, show (k + 1) / 16 = q by omega]
        clear HT s0 hks hE hq hr hia hkt hkr hkq
        go_wp2
        exact ⟨⟨k + 1, by omega, by go_num, ⟨E, hEl, hE9, h8⟩, h1, o8, hB8, h9⟩, by simp [intOf]; omega⟩
      · have hrb : ((r : Int) == 0) = false := by simp; omega
        have hME : M = E := by rw [hMe (by omega), hE, hq]
        rw [hME] at hA2
        clear hME
        obtain ⟨wz, hwz⟩ : ∃ wz, wz = wr := ⟨_, rfl⟩
        have hz := hA2
        have hBz := hB
        have hoz := hown
        have hszz := hsz
        rw [← hwz] at hz hBz hoz hszz hA1 ⊢
        clear hwz hA2 hB hown hsz wr
        replace hq := Lib.hid hq
        replace hE := Lib.hid hE
        replace hks := Lib.hid hks
        replace hMe := Lib.hid hMe
        replace hr := Lib.hid hr
        replace hr0 := Lib.hid hr0
        go_wp2
        clear hrb
        have cA : wz.drew.cell? ⟨p, o + k, none⟩ = some (.int .u8 (gd l k).toNat) := (hBz.drew.cell (p := ⟨p, o + k, none⟩) hpl).trans (hp k hlt)
        have cB : wz.drew.cell? ⟨w.heap.size + 1, r, none⟩ = some (.int .u8 (gd E r).toNat) := hz.drew.gd r (by rw [hEl]; exact hr16)
        have s0 := And.intro cA cB
        clear cA cB
        have hln : (xrL l (ksU key c b d k)).length ≤ 300 := by rw [xrL_length]; omega
        go_region_held3 (fun w' => w'.cell? ⟨p, o + k, none⟩ = some (.int .u8 (gd l k).toNat) ∧ w'.cell? ⟨w.heap.size + 1, r, none⟩ = some (.int .u8 (gd E r).toNat)) (first | assumption | exact kept2 (by assumption))
          (first
            | (rw [if_pos (by rfl)]; refine wp_append_bytes (.tmp 32) (.tmp 42) 37 rfl (w.heap.size + 2) 5 i0 elem37 hi hz0 hz1 hz2 _ _ rfl (hoz.drew.alloc _) ⟨wz.heap.size, 0, none⟩ [x8 (gd l k) (gd E r)] 1 rfl (byt_x (w := wz.drew) _) ?_ ?_ ?_; (simp; omega); (exact le_alloc hszz _); intro v8 w8 o8 g8; have hB8 := (hBz.drew.alloc hBz.size _).grown g8 (le_alloc hBz.size _) (fun k hk => by have := (hoz.lt k hk).1; omega); have h8 := ((hz.drew.alloc _).grown g8 (own_ne hoz (by omega))); have s8 := And.intro ((hB8.cell (p := ⟨p, o + k, none⟩) hpl).trans (hp k hlt)) (h8.gd r (by rw [hEl]; exact hr16))))
        have HT : xrL l (ksU key c b d (k + 1)) = xrL l (ksU key c b d k) ++ [x8 (gd l k) (gd E r)] := by
          rw [ksU_succ, xrL_snoc _ _ _ (by rw [ksU_length]; exact hlt), ksU_length, hks.out]
        rw [← HT] at o8
        have h1 := (hA1.drew.alloc (.cells #[.int .u8 (x8 (gd l k) (gd E r)).toNat] 5)).grown g8 (own_ne hoz (by omega))
        have h9 : w.heap.size + 2 ≤ w8.heap.size := by have := g8.size; simp at this; have h3 : wz.drew.heap.size = wz.heap.size := rfl; omega
        have hE9 : (k + 1) % 16 ≠ 0 → E = encR (ksL key 160) (cblk c b d ((k + 1) / 16)) 10 := fun hh => by
          have h1 := hq.out
          rw [hE.out, show (k + 1) / 16 = q by omega]
        clear HT s0 hks hE hq hr hia hkt hkr hkq
        go_wp2
        exact ⟨⟨k + 1, by omega, by go_num, ⟨E, hEl, hE9, h8⟩, h1, o8, hB8, h9⟩, by simp [intOf]; omega⟩
    · obtain rfl : k = l.length := by omega
      go_wp2
      go_ret
      exact ⟨_, rfl, bsl_own hown, hB⟩
end Go.Proofs.Ytdgmahgidmjniaa
