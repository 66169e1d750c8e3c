/-
  Counter mode: Add of the third reference.
-/
import Derived.Test.YtdgmahgidmjniaaCtrH
namespace Go.Proofs.Ytdgmahgidmjniaa
open Go.RowKit
attribute [-go_sem] Instr.build
attribute [local go_sem] bits_x8

theorem xrL_take2 (l m : List UInt8) (k : Nat) (h1 : k < l.length) (h2 : k < m.length) : xrL (l.take (k + 1)) (m.take (k + 1)) = xrL (l.take k) (m.take k) ++ [x8 (gd l k) (gd m k)] := by
  unfold xrL
  rw [List.take_succ_eq_append_getElem h1, List.take_succ_eq_append_getElem h2, List.zipWith_append (by simp; omega)]
  simp [gd, h1, h2]
set_option maxRecDepth 100000 in
set_option maxHeartbeats 4000000 in
theorem add_any (l m : List UInt8) (v u : Value) (w : World) (hv : Bsl w v l) (hu : Bsl w u m) (hlen : l.length ≤ 1000) (hlm : l.length ≤ m.length) :
    Calls Try.prog 46 #[v, u] w fun e w' => ∃ v', e = .returned v' ∧ Bsl w' v' (xrL l (m.take l.length)) ∧ Below w.heap.size w w' := by
  obtain ⟨i0, hi, hz0, hz1, hz2⟩ := info_parts info5
  obtain ⟨a, cap, rfl, q1, q2, q3, q4⟩ := hv
  obtain ⟨b, cap', rfl, k1, k2, k3, k4⟩ := hu
  have K2 := Lib.hid k2
  have Q2 := Lib.hid q2
  clear q1 q2 q3 k1 k2 k3
  go_enter Try.func46, Try.ntmps46
  go_wp2
  go_loopw [5, 6] (fun t5 t6 wr => ∃ k : Nat, k ≤ l.length ∧ t6 = .int .i64 k ∧ wr.ownsRow w.heap.size 5 1 t5 (xrL (l.take k) (m.take k)).length ((xrL (l.take k) (m.take k)).map B) ∧ Below w.heap.size w wr) (fun _ t _ => l.length - (intOf t).toNat)
  case atStart => exact ⟨0, by omega, rfl, own_nil _ _, Below.refl _ _⟩
  case round =>
    obtain ⟨k, hkl, rfl, hown, hB⟩ := hrel
    by_cases hlt : k < l.length
    · obtain ⟨p, o, rfl, hpl, hp⟩ := q4 (by omega)
      obtain ⟨q, o', rfl, hql, hq⟩ := k4 (by omega)
      have hkm : k < m.length := by omega
      have cA : ∀ w', Below w.heap.size w w' → w'.cell? ⟨p, o + k, none⟩ = some (.int .u8 (gd l k).toNat) := fun w' h => (h.cell (p := ⟨p, o + k, none⟩) hpl).trans (hp k hlt)
      have cB : ∀ w', Below w.heap.size w w' → w'.cell? ⟨q, o' + k, none⟩ = some (.int .u8 (gd m k).toNat) := fun w' h => (h.cell (p := ⟨q, o' + k, none⟩) hql).trans (hq k hkm)
      have s0 := And.intro (cA wr.drew hB.drew) (cB wr.drew hB.drew)
      have hT := Lib.hid (xrL_take2 l m k hlt hkm)
      have hln : (xrL (l.take k) (m.take k)).length ≤ 1000 := by rw [xrL_length]; simp; omega
      have HA := Lib.hid cA
      have HB := Lib.hid cB
      clear cA cB hp hq
      go_wp2
      go_region_held3 (fun w' => w'.cell? ⟨p, o + k, none⟩ = some (.int .u8 (gd l k).toNat) ∧ w'.cell? ⟨q, o' + k, none⟩ = some (.int .u8 (gd m k).toNat)) (first | assumption | exact kept2 (by assumption))
        (first
          | (rw [if_pos (by rfl)]; refine wp_append_bytes (.tmp 13) (.tmp 23) 37 rfl w.heap.size 5 i0 elem37 hi hz0 hz1 hz2 _ _ rfl (hown.drew.alloc _) ⟨wr.heap.size, 0, none⟩ [x8 (gd l k) (gd m k)] 1 rfl (byt_x (w := wr.drew) _) ?_ ?_ ?_; (simp; omega); (exact le_alloc hB.size _); intro v8 w8 o8 g8; have hB8 := (hB.drew.alloc hB.size _).grown g8 (le_alloc hB.size _) (own_ge hown); have s8 := And.intro (HA.out w8 hB8) (HB.out w8 hB8)))
      rw [← hT.out] at o8
      go_wp2
      exact ⟨⟨k + 1, by omega, by go_num, o8, hB8⟩, by simp [intOf]; omega⟩
    · obtain rfl : k = l.length := by omega
      rw [List.take_length] at hown
      go_wp2
      go_ret
      exact ⟨_, rfl, bsl_own hown, hB⟩
end Go.Proofs.Ytdgmahgidmjniaa
