/-
  Codes: growing, concatenating; the integrity code.
-/
import Derived.Test.YtdgmahgidmjniaaCmcI
import Derived.Lib.AppendZerosOnto
import Derived.Deep.DrawnRows
/-! slices.Grow of nil and slices.Concat. -/
namespace Go.Proofs.Ytdgmahgidmjniaa
open Go.RowKit
attribute [-go_sem] Instr.build

theorem run_grow_nil (ty : TypeId) (k : Nat) (h0 : 0 < k) (hk : k ≤ 100000) (w : World) : ∃ C D, k ≤ C ∧ C ≤ maxLen ∧ D.size = C ∧
    (Builtin.append_ #[37, 3] ty #[.slice none 0 0, .int .i64 (k : Int)]).run Try.prog w = .ok (.slice (some ⟨w.heap.size, 0, none⟩) k C) (w.drew.alloc (.cells D 5)) := by
  obtain ⟨i, hi, hz0, hz1, hz2⟩ := info_parts info5
  have hc : Builtin.nextslicecap (0 + k) 0 = k := by
    simp [Builtin.nextslicecap]
    omega
  have h := Lib.run_append_grow_zeros (P := Try.prog) w 37 3 ty 5 i (.int .u8 0) .i64 .i64 elem37 Try.underlying3 hi hz0 none 0 0 [] (by simp [Builtin.firstCells]) k h0 (by omega) (by omega) (by omega) (by rw [hz2]; omega) (by rw [hc, hz2]; omega)
  have h1 := grownCap_ge w (0 + k) 0 5
  have h2 := grownCap_le_maxLen w (0 + k) 0 5 (by unfold maxLen; omega)
  rw [Nat.zero_add] at h1 h2
  refine ⟨grownCap w k 0 5, _, h1, h2, ?_, by simpa using h⟩
  simp [Builtin.zeroCells, Value.cells]
  omega
theorem wpList_grow {w : World} {ops : Array Oper} {rest : List Oper} {op : Oper} {a : Act} {Q : Exit → Act → World → Prop} (hgd : op.guard = none) (s x : Operand) (ho : op.op = .call { callee := .builtin .append, args := #[s, x], argTypes := #[37, 3] })
    (k : Nat) (h0 : 0 < k) (hk : k ≤ 100000) (hs : a.eval s = .slice none 0 0) (hx : a.eval x = .int .i64 (k : Int))
    (h : ∀ C D, k ≤ C → C ≤ maxLen → D.size = C → wpList Try.prog ops Q rest (a.put op.dst (.slice (some ⟨w.heap.size, 0, none⟩) k C)) (w.drew.alloc (.cells D 5))) : wpList Try.prog ops Q (op :: rest) a w := by
  obtain ⟨C, D, h1, h2, h3, hr⟩ := run_grow_nil op.type k h0 hk w
  refine wpList_plain hgd fun K hK => ?_
  unfold Oper.wp
  simp [execOp, ho, resolve, invoke, builtin, hs, hx, hr, Result.andThen]
  exact hK _ _ (h C D h1 h2 h3)
set_option maxRecDepth 100000 in
theorem grow_any (k : Nat) (hk : k ≤ 100000) (w : World) :
    Calls Try.prog 89 #[.slice none 0 0, .int .i64 k] w fun e w' => ∃ v, e = .returned v ∧ w'.ownsRow w.heap.size 5 1 v ([] : List UInt8).length (([] : List UInt8).map B) ∧ Below w.heap.size w w' := by
  by_cases h0 : k = 0
  · subst h0
    go_enter Try.func89, Try.ntmps89
    go_wp2
    go_ret
    exact ⟨_, rfl, own_nil _ _, Below.refl _ _⟩
  · have h1 : 0 < k := by omega
    have h2 : (0 : Int) < k := by omega
    have h3 : (k : Int) ≤ 100000 := by omega
    clear h0
    go_enter Try.func89, Try.ntmps89
    go_wp2_with (first
      | (at_builtin; refine wpList_grow rfl (.tmp 20) (.tmp 21) rfl k h1 hk rfl rfl ?_; intro C D g1 g2 g3; have g4 : ¬ C = 0 := (by omega); have g5 : (0 : Int) ≤ C := (by omega))
      | fail)
    go_ret
    exact ⟨_, rfl, World.ownsRow_made w.drew D C (Nat.le_refl _) g2 (by omega), (Below.refl _ w).drew.alloc (Nat.le_refl _) _⟩

/-- A slice of slices of bytes. -/
structure Psl (w : World) (v : Value) (ps : List (Value × List UInt8)) : Prop where
  arr : ∃ a cap, v = .slice a ps.length cap ∧ (0 < ps.length → ∃ b o, a = some ⟨b, o, none⟩ ∧ b < w.heap.size ∧ ∀ i (hi : i < ps.length), w.cell? ⟨b, o + i, none⟩ = some (ps[i]).1)
  all : ∀ p ∈ ps, Bsl w p.1 p.2
theorem Psl.below {w w' : World} {v : Value} {ps : List (Value × List UInt8)} (h : Psl w v ps) (k : Below w.heap.size w w') : Psl w' v ps := by
  refine ⟨?_, fun p hp => (h.all p hp).below k⟩
  obtain ⟨a, cap, e, ha⟩ := h.arr
  refine ⟨a, cap, e, fun h0 => ?_⟩
  obtain ⟨b, o, e', hb, hc⟩ := ha h0
  exact ⟨b, o, e', Nat.lt_of_lt_of_le hb k.size, fun i hi => (k.cell (p := ⟨b, o + i, none⟩) hb).trans (hc i hi)⟩
/-- The bytes of the first k slices. -/
def catL (ps : List (Value × List UInt8)) (k : Nat) : List UInt8 := (ps.take k).flatMap (·.2)
theorem catL_zero (ps : List (Value × List UInt8)) : catL ps 0 = [] := by simp [catL]
theorem catL_succ (ps : List (Value × List UInt8)) (k : Nat) (hk : k < ps.length) : catL ps (k + 1) = catL ps k ++ (ps[k]).2 := by
  unfold catL
  rw [List.take_succ_eq_append_getElem hk, List.flatMap_append]
  simp
theorem catL_le (ps : List (Value × List UInt8)) (k : Nat) (_hk : k ≤ ps.length) : (catL ps k).length ≤ (catL ps ps.length).length := by
  have h1 : catL ps ps.length = catL ps k ++ (ps.drop k).flatMap (·.2) := by
    unfold catL
    rw [← List.flatMap_append, List.take_append_drop, List.take_length]
  rw [h1, List.length_append]; omega
set_option maxRecDepth 100000 in
set_option maxHeartbeats 4000000 in
theorem concat_any (v : Value) (ps : List (Value × List UInt8)) (w : World) (hp : Psl w v ps) (hn : ps.length ≤ 100000) (hT : (catL ps ps.length).length ≤ 100000) :
    Calls Try.prog 75 #[v] w fun e w' => ∃ v', e = .returned v' ∧ w'.ownsRow w.heap.size 5 1 v' (catL ps ps.length).length ((catL ps ps.length).map B) ∧ Below w.heap.size w w' := by
  obtain ⟨i0, hi, hz0, hz1, hz2⟩ := info_parts info5
  obtain ⟨⟨a, cap, rfl, ha⟩, hall⟩ := hp
  have HA := Lib.hid ha
  have HL := Lib.hid hall
  have hni : (ps.length : Int) ≤ 100000 := by omega
  obtain ⟨n, hnn⟩ : ∃ n, n = ps.length := ⟨_, rfl⟩
  have hcs := Lib.hid (fun k hk => catL_succ ps k hk)
  have hcl := Lib.hid (fun k hk => catL_le ps k hk)
  obtain ⟨T, hTT⟩ : ∃ T, T = (catL ps ps.length).length := ⟨_, rfl⟩
  rw [← hTT] at hT hcl
  clear ha hall
  go_enter Try.func75, Try.ntmps75
  go_wp2_with fail
  go_loop [3, 11] (fun t3 t11 => ∃ k : Nat, k ≤ ps.length ∧ t11 = .int .i64 k ∧ t3 = .int .i64 (catL ps k).length) (fun _ t => ps.length - (intOf t).toNat)
  case atStart => exact ⟨0, by omega, rfl, rfl⟩
  case round =>
    obtain ⟨k, hk, rfl, rfl⟩ := hrel
    by_cases hlt : k < ps.length
    · obtain ⟨b, o, rfl, hb, hc⟩ := HA.out (by omega)
      have c0 := hc k hlt
      obtain ⟨ak, pk, ek, h1, h2, h3, h4⟩ := HL.out (ps[k]) (List.getElem_mem hlt)
      rw [ek] at c0
      have hs := hcs.out k hlt
      have hle := hcl.out (k + 1) hlt
      rw [hs, List.length_append] at hle
      have hle' : ((catL ps k).length : Int) + (ps[k]).2.length ≤ 100000 := by omega
      have hki : (k : Int) < ps.length := by omega
      have hnx : (catL ps (k + 1)).length = (catL ps k).length + (ps[k]).2.length := by rw [hs, List.length_append]
      replace hs := Lib.hid hs
      replace hnx := Lib.hid hnx
      clear hc h1 h2 h3 h4 ek
      generalize hx : (catL ps k).length = x at *
      generalize hy : (ps[k]).2.length = y at *
      replace hx := Lib.hid hx
      replace hy := Lib.hid hy
      go_wp2_with fail
      exact ⟨⟨k + 1, by omega, by go_num, by rw [hnx.out]; go_num⟩, by simp [intOf]; omega⟩
    · obtain rfl : k = ps.length := by omega
      rw [← hTT]
      replace hTT := Lib.hid hTT
      have hTi : (T : Int) ≤ 100000 := by omega
      clear hlt hk
      go_wp2_with (first
        | (go_at_call 89; (with_reducible refine (grow_any T hT _).mono ?_); rintro e w1 ⟨v1, rfl, ho1, hb1⟩)
        | fail)
      go_loopw [6, 27] (fun t6 t27 wr => ∃ k : Nat, k ≤ ps.length ∧ t27 = .int .i64 k ∧ wr.ownsRow w.heap.size 5 1 t6 (catL ps k).length ((catL ps k).map B) ∧ Below w.heap.size w wr) (fun _ t _ => ps.length - (intOf t).toNat)
      case atStart => exact ⟨0, by omega, rfl, by rw [catL_zero]; exact ho1, hb1⟩
      case round =>
        clear ho1 hb1
        obtain ⟨k, hk, rfl, hown, hB⟩ := hrel
        by_cases hlt : k < ps.length
        · obtain ⟨b, o, rfl, hb, hc⟩ := HA.out (by omega)
          have c0 := (hB.cell (p := ⟨b, o + k, none⟩) hb).trans (hc k hlt)
          obtain ⟨ak, pk, ek, h1, h2, h3, h4⟩ := HL.out (ps[k]) (List.getElem_mem hlt)
          rw [ek] at c0
          have hs := hcs.out k hlt
          have hle := hcl.out (k + 1) hlt
          rw [hs, List.length_append] at hle
          have hki : (k : Int) < ps.length := by omega
          have H3 := Lib.hid h3
          have H4 := Lib.hid (h4.cells hB)
          replace hs := Lib.hid hs
          replace hle := Lib.hid hle
          clear hc h1 h2 h3 h4 ek
          obtain ⟨m, hm⟩ : ∃ m, m = (ps[k]).2 := ⟨_, rfl⟩
          rw [← hm] at c0 H4 hs hle
          clear hm
          go_wp2_with (first
            | (at_builtin; refine wpList_append_bytes rfl (.tmp 31) (.tmp 32) 37 rfl w.heap.size 5 i0 elem37 hi hz0 hz1 hz2 _ (catL ps k) rfl hown ak m pk rfl H3.out H4.out ?_ ?_ ?_; (have := hle.out; omega); (exact hB.size); intro v9 w9 h9 g9)
            | fail)
          rw [← hs.out] at h9
          have hB9 := hB.grown g9 hB.size (own_ge hown)
          first
            | exact ⟨⟨k + 1, by omega, by go_num, h9, hB9⟩, by simp [intOf]; omega⟩
            | (refine ⟨?_, by simp [intOf]; omega⟩; (repeat apply Exists.intro); exact ⟨⟨k + 1, by omega, by go_num, h9, hB9⟩, rfl⟩)
        · obtain rfl : k = ps.length := by omega
          go_wp2
          go_ret
          exact ⟨_, rfl, hown, hB⟩
end Go.Proofs.Ytdgmahgidmjniaa

/-! Message authentication codes: the integrity code of a message. -/
namespace Go.Proofs.Ytdgmahgidmjniaa
open Go.RowKit
attribute [-go_sem] Instr.build
attribute [local go_sem ↓] Go.wp_at_zero Go.wp_at_succ

/-- The first k bytes as a number. -/
def accN (L : List UInt8) : Nat → Nat
  | 0 => 0
  | k + 1 => accN L k * 256 + (gd L k).toNat
theorem accN_lt (L : List UInt8) : ∀ k, accN L k < 256 ^ k
  | 0 => by simp [accN]
  | k + 1 => by
    have h1 := accN_lt L k
    have h2 := lt256 (gd L k)
    rw [accN, Nat.pow_succ]
    omega
/-- The message with its prefix. -/
def preL (c b d : Nat) (l : List UInt8) : List UInt8 := half (pre c b d) ++ l
/-- The integrity code. -/
def codeL (key : List UInt8) (c b d : Nat) (l : List UInt8) : Nat := accN (cmacL key (preL c b d l)) 4
theorem codeL_lt (key : List UInt8) (c b d : Nat) (l : List UInt8) : codeL key c b d l < 4294967296 := accN_lt _ 4
theorem wrap_u32 (n : Nat) (h : n < 2 ^ 32) : IntKind.u32.wrap (n : Int) = n := by
  simp [IntKind.wrap, IntKind.bits, IntKind.signed]
  omega
theorem or_u32 (x y n i : Nat) (hx : ∃ k, x = 2 ^ i * k) (hy : y < 2 ^ i) (hn : n = x + y) (h : n < 2 ^ 32) (X Y : Int) (hX : X = x) (hY : Y = y) : bits .or .u32 X Y = (n : Int) := by
  have key : ∀ p q : Nat, p < 2 ^ 32 → q < 2 ^ 32 → bits .or .u32 (p : Int) (q : Int) = IntKind.u32.wrap ((p ||| q : Nat) : Int) := by
    intro p q hp hq
    simp only [bits, BitVec.toNat_or, BitVec.toNat_ofInt]
    have e : ((2 ^ IntKind.u32.bits : Nat) : Int) = ((2 ^ 32 : Nat) : Int) := rfl
    rw [e, ← Int.natCast_emod, ← Int.natCast_emod, Nat.mod_eq_of_lt hp, Nat.mod_eq_of_lt hq]
    rfl
  obtain ⟨k, rfl⟩ := hx
  subst hX hY hn
  rw [key _ _ (by omega) (by omega), ← Nat.two_pow_add_eq_or_of_lt hy]
  exact wrap_u32 _ h
theorem psl_new (w : World) (s1 s2 : Value) (l1 l2 : List UInt8) (h1 : Bsl w s1 l1) (h2 : Bsl w s2 l2) : Psl (w.alloc (.cells #[s1, s2] 37)) (.slice (some ⟨w.heap.size, 0, none⟩) 2 2) [(s1, l1), (s2, l2)] := by
  have hb : Below w.heap.size w (w.alloc (.cells #[s1, s2] 37)) := (Below.refl _ _).alloc (Nat.le_refl _) _
  have hk : Blk (w.alloc (.cells #[s1, s2] 37)) w.heap.size #[s1, s2] 37 := Blk.new' rfl
  refine ⟨⟨_, _, rfl, fun _ => ⟨w.heap.size, 0, rfl, hk.lt, fun i hi => ?_⟩⟩, fun p hp => ?_⟩
  · rw [hk.cell]
    have : i = 0 ∨ i = 1 := by simp at hi; omega
    rcases this with rfl | rfl <;> rfl
  · simp only [List.mem_cons, List.not_mem_nil, or_false] at hp
    rcases hp with rfl | rfl
    · exact h1.below hb
    · exact h2.below hb
theorem psl_at (w : World) (g : Nat) (hg : g = w.heap.size) (s1 s2 : Value) (l1 l2 : List UInt8) (h1 : Bsl w s1 l1) (h2 : Bsl w s2 l2) : Psl (w.alloc (.cells #[s1, s2] 37)) (.slice (some ⟨g, 0, none⟩) 2 2) [(s1, l1), (s2, l2)] := by subst hg; exact psl_new w s1 s2 l1 l2 h1 h2
theorem cat_two (s1 s2 : Value) (l1 l2 : List UInt8) : catL [(s1, l1), (s2, l2)] [(s1, l1), (s2, l2)].length = l1 ++ l2 := by simp [catL]
theorem wpAnyH_two {P : Program} {md : Region.Mode} {ops : Array Oper} {Q : Exit → Act → World → Prop} {S : World → Prop} {fuel : Nat} {listed : Array Bool} {a : Act} {w : World} (i j : Nat) {oi oj : Oper} (hoi : ops[i]? = some oi) (hoj : ops[j]? = some oj) (hr : Region.ready md ops listed = [i, j])
    (h1 : ∀ K' : Act → World → Prop, Shut (∀ a w, S w → wpAnyH P md ops Q S fuel (listed.setIfInBounds i true) a w → K' a w) → if Region.wanted oi (yielded ops a.tmps) = true then Oper.wp P oi a w K' Q else K' (a.put oi.dst undef) w)
    (h2 : ∀ K' : Act → World → Prop, Shut (∀ a w, S w → wpAnyH P md ops Q S fuel (listed.setIfInBounds j true) a w → K' a w) → if Region.wanted oj (yielded ops a.tmps) = true then Oper.wp P oj a w K' Q else K' (a.put oj.dst undef) w) : wpAnyH P md ops Q S (fuel + 1) listed a w :=
  wpAnyH_ready hr (by simp) (AllReadyH.cons hoi (fun K hK => h1 K (fun a w hS hW => hK.out a w hS (fun _ => hW))) (AllReadyH.cons hoj (fun K hK => h2 K (fun a w hS hW => hK.out a w hS (fun _ => hW))) AllReadyH.nil))
set_option maxRecDepth 100000 in
set_option maxHeartbeats 8000000 in
theorem code_ok (key : List UInt8) (hk : key.length = 16) (c b d : Nat) (hc : c < 2 ^ 32) (hb : b ≤ 31) (hd : d ≤ 1) (v : Value) (l : List UInt8) (w : World) (hv : Bsl w v l) (hlen : l.length ≤ 16384) :
    Calls Try.prog 54 #[.agg (bytesV key), .int .u32 c, .int .i64 b, .int .i64 d, v] w fun e w' => e = .returned (.tuple #[.int .u32 (codeL key c b d l), .int .i64 0]) ∧ Below w.heap.size w w' := by
  have z1 : ∀ w, (zeroValue 28).run Try.prog w = .ok (.agg (bytesV Z8)) w := (zero_of_info zero28).1
  have z2 : ∀ w, (zeroValue 97).run Try.prog w = .ok (.agg (bytesV Z16)) w := (zero_of_info zero97).1
  have hpre := prefix_ok c b d hc hb hd
  obtain ⟨p, hp⟩ : ∃ p, p = half (pre c b d) := ⟨_, rfl⟩
  have lp := Lib.hid (show p.length = 8 by rw [hp, len_half])
  have hL : preL c b d l = p ++ l := by rw [preL, hp]
  rw [← hp] at hpre
  clear hp
  have hsum := fun v w h => sum_any key hk v (p ++ l) w h (by rw [List.length_append, lp.out]; omega)
  have hcl := Lib.hid (cmacL_length key (p ++ l))
  have hcode : codeL key c b d l = accN (cmacL key (p ++ l)) 4 := by rw [codeL, hL]
  obtain ⟨CM, hCM⟩ : ∃ CM, CM = cmacL key (p ++ l) := ⟨_, rfl⟩
  rw [← hCM] at hsum hcl hcode
  clear hCM hL
  have hcat := fun (s1 s2 : Value) (g : Nat) (w : World) (h : Psl w (.slice (some ⟨g, 0, none⟩) 2 2) [(s1, p), (s2, l)]) => concat_any _ [(s1, p), (s2, l)] w h (by simp) (by rw [cat_two, List.length_append, lp.out]; omega)
  simp only [cat_two] at hcat
  rw [hcode]
  replace hcode := Lib.hid hcode
  obtain ⟨a, cap, rfl, q1, q2, q3, q4⟩ := hv
  have hv : Bsl w (.slice a l.length cap) l := ⟨a, cap, rfl, q1, q2, q3, q4⟩
  clear q1 q2 q3 q4
  have b0 : Blk (w.alloc (.cells (bytesV key) 22)) w.heap.size (bytesV key) 22 := Blk.new' rfl
  have hB : Below w.heap.size w (w.alloc (.cells (bytesV key) 22)) := (Below.refl _ _).alloc (Nat.le_refl _) _
  have hv' := hv.below hB
  have hli : (l.length : Int) ≤ 16384 := by omega
  clear hv
  go_enter Try.func54, Try.ntmps54
  go_wp2_with (first
    | (go_at_call 26; (with_reducible refine (hpre _).mono ?_); rintro e w1 ⟨rfl, hb1⟩; replace b0 := b0.below hb1 b0.lt; replace hv' := hv'.below hb1; replace hB := bnext hB hb1; have n0 := b0.lt; clear hb1)
    | ((with_reducible refine wpList_store_blk rfl 28 (.tmp 12) (.tmp 23) rfl w1.heap.size 0 8 (bytesV p) rfl rfl (C := bytesV Z8) (t := 28) ?_ row28 ?_ ?_ (bytesV_one _) ?_); (exact Blk.new' rfl); (rw [bytesV_size, lp.out]); (rw [bytesV_size]; decide); intro w2 g1 ho2; rw [splice_all _ _ (by rw [lp.out]; rfl)] at g1; have hb2 := below_only ((Below.refl w1.heap.size w1).alloc (Nat.le_refl _) (.cells (bytesV Z8) 28)) ho2 (Nat.le_refl _); replace b0 := b0.below hb2 b0.lt; replace hv' := hv'.below hb2; replace hB := bnext hB hb2; clear hb2 ho2)
    | fail)
  have hs1 : Bsl w2 (.slice (some ⟨w1.heap.size, 0, none⟩) 8 8) p := bsl_lit p g1 rfl (by rw [lp.out]) (by rw [lp.out]; unfold maxLen; omega)
  go_cut [14] (fun s14 wx => ∃ g, s14 = .pointer (some ⟨g, 0, none⟩) ∧ Blk wx g (bytesV CM) 97 ∧ Below w.heap.size w wx)
  case first =>
    have r1 : (Try.prog.info? 22).map (·.size) = some (bytesV key).toList.length := by rw [Array.length_toList, bytesV_size, hk]; exact row22.2
    have l1 : (bytesV key).toList.length = 16 := by rw [Array.length_toList, bytesV_size, hk]
    have o1 : ∀ v ∈ (bytesV key).toList, v.oneCell' = true := fun v hv => (Array.all_eq_true_iff_forall_mem.1 (bytesV_one key)) v (by simpa using hv)
    have u22 := Try.underlying22
    have s0 : w2.drew.rangeAt w.heap.size 0 (bytesV key).toList := by
      have := b0.drew.range 0 16
      rwa [bytesV_whole key 16 hk] at this
    have hv2 := hv'.below (Below.refl _ w2).drew
    have hs2 := hs1.below (Below.refl _ w2).drew
    have hB2 := hB.drew
    have kb := b0.drew
    obtain ⟨Sw, hSw⟩ : ∃ Sw : World → Prop, Sw = fun w' => w'.rangeAt w.heap.size 0 (bytesV key).toList := ⟨_, rfl⟩
    have a0 : ∀ w', Blk w' w.heap.size (bytesV key) 22 → Sw w' := fun w' h => by
      have := h.range 0 16
      rw [bytesV_whole key 16 hk] at this
      rw [hSw]; exact this
    have a1 : ∀ w', Sw w' → w'.rangeAt w.heap.size 0 (bytesV key).toList := fun w' h => by rw [hSw] at h; exact h
    have hs9 := a0 _ kb
    clear hSw s0 hv' hs1 hB b0 g1
    refine wp_region_held_drew (S := Sw) (by kernel_rfl) hs9 (fun hHeld => ?_)
    clear hHeld
    obtain ⟨V, hV⟩ : ∃ V, V = w2.drew := ⟨_, rfl⟩
    rw [← hV] at hv2 hs2 hB2 kb hs9 ⊢
    clear hV
    refine wpAnyH_takeD 0 (some 33) rfl rfl (by kernel_rfl) (by kernel_rfl) (by kernel_rfl) (fun _ _ _ h => h) (yieldsIf_load_mid rfl 22 _ rfl w.heap.size 0 rfl (bytesV key).toList _ a1 Try.underlying22 rfl r1) hs9 ?_
    try simp only [Act.put, List.setIfInBounds_toArray, List.set_cons_zero, List.set_cons_succ, Array.toArray_toList]
    refine wpAnyH_takeD 1 (some 34) rfl rfl (by kernel_rfl) (by kernel_rfl) (by kernel_rfl) (fun _ _ _ h => h) (yieldsIf_calc (v := .slice (some ⟨w1.heap.size, 0, none⟩) 8 8) rfl (fun w => by unfold execOp; go_simp)) hs9 ?_
    try simp only [Act.put, List.setIfInBounds_toArray, List.set_cons_zero, List.set_cons_succ, Array.toArray_toList]
    refine wpAnyH_takeD 2 (some 35) rfl rfl (by kernel_rfl) (by kernel_rfl) (by kernel_rfl) (fun _ _ _ h => h) (yieldsIf_move rfl _ rfl (.slice a l.length cap) rfl) hs9 ?_
    try simp only [Act.put, List.setIfInBounds_toArray, List.set_cons_zero, List.set_cons_succ, Array.toArray_toList]
    clear hs9
    refine wpAnyH_two 3 6 rfl rfl (by kernel_rfl) (fun K' hK' => ?_) (fun K' hK' => ?_)
    · skip
      go_simp
      obtain ⟨V1, hV1⟩ : ∃ V1, V1 = V.alloc (.cells #[.slice (some ⟨w1.heap.size, 0, none⟩) 8 8, .slice a l.length cap] 37) := ⟨_, rfl⟩
      rw [← hV1]
      have hbx : Below V.heap.size V V1 := by rw [hV1]; exact (Below.refl _ _).alloc (Nat.le_refl _) _
      have hps : Psl V1 (.slice (some ⟨V.heap.size, 0, none⟩) 2 2) [(.slice (some ⟨w1.heap.size, 0, none⟩) 8 8, p), (.slice a l.length cap, l)] := by rw [hV1]; exact psl_new V _ _ _ _ hs2 hv2
      obtain ⟨gB, hgB⟩ : ∃ gB, gB = V.heap.size := ⟨_, rfl⟩
      rw [← hgB] at hps ⊢
      replace kb := kb.below hbx kb.lt; replace hB2 := bnext hB2 hbx; (try replace hz := hz.below hbx hz.lt)
      clear hV1 hbx hgB hs2 hv2
      generalize V1 = V at *
      refine hK'.out _ _ (a0 _ kb) ?_; clear hK' K'; try simp only [Act.put, List.setIfInBounds_toArray, List.set_cons_zero, List.set_cons_succ, Array.toArray_toList]
      refine wpAnyH_two 4 6 rfl rfl (by kernel_rfl) (fun K' hK' => ?_) (fun K' hK' => ?_)
      · skip
        go_simp
        (go_at_call 75; (with_reducible refine (hcat _ _ _ _ hps).mono ?_); rintro e V2 ⟨v5, rfl, ho5, hbx⟩)
        go_wp2
        have hx5 : Bsl V2 v5 (p ++ l) := bsl_own ho5
        replace kb := kb.below hbx kb.lt; replace hB2 := bnext hB2 hbx; (try replace hz := hz.below hbx hz.lt)
        clear hbx ho5 hps
        generalize V2 = V at *
        refine hK'.out _ _ (a0 _ kb) ?_; clear hK' K'; try simp only [Act.put, List.setIfInBounds_toArray, List.set_cons_zero, List.set_cons_succ, Array.toArray_toList]
        refine wpAnyH_two 5 6 rfl rfl (by kernel_rfl) (fun K' hK' => ?_) (fun K' hK' => ?_)
        · skip
          go_simp
          (go_at_call 74; (with_reducible refine (hsum _ _ hx5).mono ?_); rintro e V3 ⟨rfl, hbx⟩)
          go_wp2
          replace kb := kb.below hbx kb.lt; replace hB2 := bnext hB2 hbx; (try replace hz := hz.below hbx hz.lt)
          clear hbx hx5
          generalize V3 = V at *
          refine hK'.out _ _ (a0 _ kb) ?_; clear hK' K'; try simp only [Act.put, List.setIfInBounds_toArray, List.set_cons_zero, List.set_cons_succ, Array.toArray_toList]
          refine wpAnyH_one 6 rfl (by kernel_rfl) (fun K' hK' => ?_)
          go_simp
          obtain ⟨VA, hVA⟩ : ∃ VA, VA = V.alloc (.cells (bytesV Z16) 97) := ⟨_, rfl⟩
          rw [← hVA]
          have hbx : Below V.heap.size V VA := by rw [hVA]; exact (Below.refl _ _).alloc (Nat.le_refl _) _
          have hz : Blk VA V.heap.size (bytesV Z16) 97 := by rw [hVA]; exact Blk.new' rfl
          obtain ⟨gA, hgA⟩ : ∃ gA, gA = V.heap.size := ⟨_, rfl⟩
          rw [← hgA] at hz ⊢
          have hgw : w.heap.size < gA := by rw [hgA]; exact kb.lt
          replace kb := kb.below hbx kb.lt; replace hB2 := bnext hB2 hbx; (try replace hs2 := hs2.below hbx); (try replace hv2 := hv2.below hbx); (try replace hps := hps.below hbx); (try replace hx5 := hx5.below hbx)
          clear hVA hbx hgA
          generalize VA = V at *
          refine hK'.out _ _ (a0 _ kb) ?_; clear hK' K'; try simp only [Act.put, List.setIfInBounds_toArray, List.set_cons_zero, List.set_cons_succ, Array.toArray_toList]
          refine wpAnyH_one 7 rfl (by kernel_rfl) (fun K' hK' => ?_)
          refine ite_go rfl ?_
          refine wp_store_blk 97 (.tmp 14) (.tmp 38) rfl gA 0 16 (bytesV CM) rfl rfl hz row97 (by rw [bytesV_size, hcl.out]) (by rw [bytesV_size]; decide) (bytesV_one _) ?_
          intro wz iz oz
          rw [splice_all _ _ (by rw [hcl.out]; rfl)] at iz
          have kz := kb.only oz (by omega)
          refine hK'.out _ _ (a0 _ kz) ?_; clear hK' K'; try simp only [Act.put, List.setIfInBounds_toArray, List.set_cons_zero, List.set_cons_succ, Array.toArray_toList]
          refine wpAnyH_done (by kernel_rfl) ?_ _
          go_wp2
          go_meet
          exact ⟨gA, rfl, iz, below_only hB2 oz (by omega)⟩
        · skip
          go_simp
          obtain ⟨VA, hVA⟩ : ∃ VA, VA = V.alloc (.cells (bytesV Z16) 97) := ⟨_, rfl⟩
          rw [← hVA]
          have hbx : Below V.heap.size V VA := by rw [hVA]; exact (Below.refl _ _).alloc (Nat.le_refl _) _
          have hz : Blk VA V.heap.size (bytesV Z16) 97 := by rw [hVA]; exact Blk.new' rfl
          obtain ⟨gA, hgA⟩ : ∃ gA, gA = V.heap.size := ⟨_, rfl⟩
          rw [← hgA] at hz ⊢
          have hgw : w.heap.size < gA := by rw [hgA]; exact kb.lt
          replace kb := kb.below hbx kb.lt; replace hB2 := bnext hB2 hbx; (try replace hs2 := hs2.below hbx); (try replace hv2 := hv2.below hbx); (try replace hps := hps.below hbx); (try replace hx5 := hx5.below hbx)
          clear hVA hbx hgA
          generalize VA = V at *
          refine hK'.out _ _ (a0 _ kb) ?_; clear hK' K'; try simp only [Act.put, List.setIfInBounds_toArray, List.set_cons_zero, List.set_cons_succ, Array.toArray_toList]
          refine wpAnyH_one 5 rfl (by kernel_rfl) (fun K' hK' => ?_)
          go_simp
          (go_at_call 74; (with_reducible refine (hsum _ _ hx5).mono ?_); rintro e V3 ⟨rfl, hbx⟩)
          go_wp2
          replace kb := kb.below hbx kb.lt; replace hB2 := bnext hB2 hbx; (try replace hz := hz.below hbx hz.lt)
          clear hbx hx5
          generalize V3 = V at *
          refine hK'.out _ _ (a0 _ kb) ?_; clear hK' K'; try simp only [Act.put, List.setIfInBounds_toArray, List.set_cons_zero, List.set_cons_succ, Array.toArray_toList]
          refine wpAnyH_one 7 rfl (by kernel_rfl) (fun K' hK' => ?_)
          refine ite_go rfl ?_
          refine wp_store_blk 97 (.tmp 14) (.tmp 38) rfl gA 0 16 (bytesV CM) rfl rfl hz row97 (by rw [bytesV_size, hcl.out]) (by rw [bytesV_size]; decide) (bytesV_one _) ?_
          intro wz iz oz
          rw [splice_all _ _ (by rw [hcl.out]; rfl)] at iz
          have kz := kb.only oz (by omega)
          refine hK'.out _ _ (a0 _ kz) ?_; clear hK' K'; try simp only [Act.put, List.setIfInBounds_toArray, List.set_cons_zero, List.set_cons_succ, Array.toArray_toList]
          refine wpAnyH_done (by kernel_rfl) ?_ _
          go_wp2
          go_meet
          exact ⟨gA, rfl, iz, below_only hB2 oz (by omega)⟩
      · skip
        go_simp
        obtain ⟨VA, hVA⟩ : ∃ VA, VA = V.alloc (.cells (bytesV Z16) 97) := ⟨_, rfl⟩
        rw [← hVA]
        have hbx : Below V.heap.size V VA := by rw [hVA]; exact (Below.refl _ _).alloc (Nat.le_refl _) _
        have hz : Blk VA V.heap.size (bytesV Z16) 97 := by rw [hVA]; exact Blk.new' rfl
        obtain ⟨gA, hgA⟩ : ∃ gA, gA = V.heap.size := ⟨_, rfl⟩
        rw [← hgA] at hz ⊢
        have hgw : w.heap.size < gA := by rw [hgA]; exact kb.lt
        replace kb := kb.below hbx kb.lt; replace hB2 := bnext hB2 hbx; (try replace hs2 := hs2.below hbx); (try replace hv2 := hv2.below hbx); (try replace hps := hps.below hbx); (try replace hx5 := hx5.below hbx)
        clear hVA hbx hgA
        generalize VA = V at *
        refine hK'.out _ _ (a0 _ kb) ?_; clear hK' K'; try simp only [Act.put, List.setIfInBounds_toArray, List.set_cons_zero, List.set_cons_succ, Array.toArray_toList]
        refine wpAnyH_one 4 rfl (by kernel_rfl) (fun K' hK' => ?_)
        go_simp
        (go_at_call 75; (with_reducible refine (hcat _ _ _ _ hps).mono ?_); rintro e V2 ⟨v5, rfl, ho5, hbx⟩)
        go_wp2
        have hx5 : Bsl V2 v5 (p ++ l) := bsl_own ho5
        replace kb := kb.below hbx kb.lt; replace hB2 := bnext hB2 hbx; (try replace hz := hz.below hbx hz.lt)
        clear hbx ho5 hps
        generalize V2 = V at *
        refine hK'.out _ _ (a0 _ kb) ?_; clear hK' K'; try simp only [Act.put, List.setIfInBounds_toArray, List.set_cons_zero, List.set_cons_succ, Array.toArray_toList]
        refine wpAnyH_one 5 rfl (by kernel_rfl) (fun K' hK' => ?_)
        go_simp
        (go_at_call 74; (with_reducible refine (hsum _ _ hx5).mono ?_); rintro e V3 ⟨rfl, hbx⟩)
        go_wp2
        replace kb := kb.below hbx kb.lt; replace hB2 := bnext hB2 hbx; (try replace hz := hz.below hbx hz.lt)
        clear hbx hx5
        generalize V3 = V at *
        refine hK'.out _ _ (a0 _ kb) ?_; clear hK' K'; try simp only [Act.put, List.setIfInBounds_toArray, List.set_cons_zero, List.set_cons_succ, Array.toArray_toList]
        refine wpAnyH_one 7 rfl (by kernel_rfl) (fun K' hK' => ?_)
        refine ite_go rfl ?_
        refine wp_store_blk 97 (.tmp 14) (.tmp 38) rfl gA 0 16 (bytesV CM) rfl rfl hz row97 (by rw [bytesV_size, hcl.out]) (by rw [bytesV_size]; decide) (bytesV_one _) ?_
        intro wz iz oz
        rw [splice_all _ _ (by rw [hcl.out]; rfl)] at iz
        have kz := kb.only oz (by omega)
        refine hK'.out _ _ (a0 _ kz) ?_; clear hK' K'; try simp only [Act.put, List.setIfInBounds_toArray, List.set_cons_zero, List.set_cons_succ, Array.toArray_toList]
        refine wpAnyH_done (by kernel_rfl) ?_ _
        go_wp2
        go_meet
        exact ⟨gA, rfl, iz, below_only hB2 oz (by omega)⟩
    · skip
      go_simp
      obtain ⟨VA, hVA⟩ : ∃ VA, VA = V.alloc (.cells (bytesV Z16) 97) := ⟨_, rfl⟩
      rw [← hVA]
      have hbx : Below V.heap.size V VA := by rw [hVA]; exact (Below.refl _ _).alloc (Nat.le_refl _) _
      have hz : Blk VA V.heap.size (bytesV Z16) 97 := by rw [hVA]; exact Blk.new' rfl
      obtain ⟨gA, hgA⟩ : ∃ gA, gA = V.heap.size := ⟨_, rfl⟩
      rw [← hgA] at hz ⊢
      have hgw : w.heap.size < gA := by rw [hgA]; exact kb.lt
      replace kb := kb.below hbx kb.lt; replace hB2 := bnext hB2 hbx; (try replace hs2 := hs2.below hbx); (try replace hv2 := hv2.below hbx); (try replace hps := hps.below hbx); (try replace hx5 := hx5.below hbx)
      clear hVA hbx hgA
      generalize VA = V at *
      refine hK'.out _ _ (a0 _ kb) ?_; clear hK' K'; try simp only [Act.put, List.setIfInBounds_toArray, List.set_cons_zero, List.set_cons_succ, Array.toArray_toList]
      refine wpAnyH_one 3 rfl (by kernel_rfl) (fun K' hK' => ?_)
      go_simp
      obtain ⟨V1, hV1⟩ : ∃ V1, V1 = V.alloc (.cells #[.slice (some ⟨w1.heap.size, 0, none⟩) 8 8, .slice a l.length cap] 37) := ⟨_, rfl⟩
      rw [← hV1]
      have hbx : Below V.heap.size V V1 := by rw [hV1]; exact (Below.refl _ _).alloc (Nat.le_refl _) _
      have hps : Psl V1 (.slice (some ⟨V.heap.size, 0, none⟩) 2 2) [(.slice (some ⟨w1.heap.size, 0, none⟩) 8 8, p), (.slice a l.length cap, l)] := by rw [hV1]; exact psl_new V _ _ _ _ hs2 hv2
      obtain ⟨gB, hgB⟩ : ∃ gB, gB = V.heap.size := ⟨_, rfl⟩
      rw [← hgB] at hps ⊢
      replace kb := kb.below hbx kb.lt; replace hB2 := bnext hB2 hbx; (try replace hz := hz.below hbx hz.lt)
      clear hV1 hbx hgB hs2 hv2
      generalize V1 = V at *
      refine hK'.out _ _ (a0 _ kb) ?_; clear hK' K'; try simp only [Act.put, List.setIfInBounds_toArray, List.set_cons_zero, List.set_cons_succ, Array.toArray_toList]
      refine wpAnyH_one 4 rfl (by kernel_rfl) (fun K' hK' => ?_)
      go_simp
      (go_at_call 75; (with_reducible refine (hcat _ _ _ _ hps).mono ?_); rintro e V2 ⟨v5, rfl, ho5, hbx⟩)
      go_wp2
      have hx5 : Bsl V2 v5 (p ++ l) := bsl_own ho5
      replace kb := kb.below hbx kb.lt; replace hB2 := bnext hB2 hbx; (try replace hz := hz.below hbx hz.lt)
      clear hbx ho5 hps
      generalize V2 = V at *
      refine hK'.out _ _ (a0 _ kb) ?_; clear hK' K'; try simp only [Act.put, List.setIfInBounds_toArray, List.set_cons_zero, List.set_cons_succ, Array.toArray_toList]
      refine wpAnyH_one 5 rfl (by kernel_rfl) (fun K' hK' => ?_)
      go_simp
      (go_at_call 74; (with_reducible refine (hsum _ _ hx5).mono ?_); rintro e V3 ⟨rfl, hbx⟩)
      go_wp2
      replace kb := kb.below hbx kb.lt; replace hB2 := bnext hB2 hbx; (try replace hz := hz.below hbx hz.lt)
      clear hbx hx5
      generalize V3 = V at *
      refine hK'.out _ _ (a0 _ kb) ?_; clear hK' K'; try simp only [Act.put, List.setIfInBounds_toArray, List.set_cons_zero, List.set_cons_succ, Array.toArray_toList]
      refine wpAnyH_one 7 rfl (by kernel_rfl) (fun K' hK' => ?_)
      refine ite_go rfl ?_
      refine wp_store_blk 97 (.tmp 14) (.tmp 38) rfl gA 0 16 (bytesV CM) rfl rfl hz row97 (by rw [bytesV_size, hcl.out]) (by rw [bytesV_size]; decide) (bytesV_one _) ?_
      intro wz iz oz
      rw [splice_all _ _ (by rw [hcl.out]; rfl)] at iz
      have kz := kb.only oz (by omega)
      refine hK'.out _ _ (a0 _ kz) ?_; clear hK' K'; try simp only [Act.put, List.setIfInBounds_toArray, List.set_cons_zero, List.set_cons_succ, Array.toArray_toList]
      refine wpAnyH_done (by kernel_rfl) ?_ _
      go_wp2
      go_meet
      exact ⟨gA, rfl, iz, below_only hB2 oz (by omega)⟩
  case rest =>
    obtain ⟨g, rfl, hg, hB⟩ := hcut
    have hCM4 : ∀ k, k < 4 → accN CM (k + 1) < 4294967296 := fun k hk => Nat.lt_of_lt_of_le (accN_lt CM (k + 1)) (Nat.le_trans (Nat.pow_le_pow_right (by decide) (by omega : k + 1 ≤ 4)) (by decide))
    have hCM3 : ∀ k, k < 4 → accN CM k < 16777216 := fun k hk => Nat.lt_of_lt_of_le (accN_lt CM k) (Nat.le_trans (Nat.pow_le_pow_right (by decide) (by omega : k ≤ 3)) (by decide))
    have hor := fun k hk => or_u32 (accN CM k * 256) (gd CM k).toNat (accN CM (k + 1)) 8 ⟨accN CM k, by omega⟩ (lt256 _) rfl (hCM4 k hk)
    replace hor := Lib.hid hor
    replace hCM4 := Lib.hid hCM4
    replace hCM3 := Lib.hid hCM3
    go_wp2_with fail
    go_loop [15, 41] (fun t15 t41 => ∃ k : Nat, k ≤ 4 ∧ t41 = .int .i64 k ∧ t15 = .int .u32 (accN CM k)) (fun _ t => 4 - (intOf t).toNat)
    case atStart => exact ⟨0, by omega, rfl, rfl⟩
    case round =>
      obtain ⟨k, hk, rfl, rfl⟩ := hrel
      by_cases hlt : k < 4
      · have hki : (k : Int) < 4 := by omega
        have c0 := hg.gd k (by rw [hcl.out]; omega)
        have hx := hCM3.out k hlt
        have hor' := hor.out k hlt
        replace hor' := Lib.hid hor'
        generalize hxx : accN CM k = x at *
        have hxI : (x : Int) < 16777216 := by omega
        go_wp2_with fail
        have h256 := lt256 (gd CM k)
        exact ⟨⟨k + 1, by omega, by go_num, by rw [hor'.out _ _ (by omega) (by omega)]⟩, by simp [intOf]; omega⟩
      · obtain rfl : k = 4 := by omega
        go_wp2_with fail
        go_ret2
        exact ⟨rfl, hB⟩
end Go.Proofs.Ytdgmahgidmjniaa
