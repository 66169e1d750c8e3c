/-
  The statement CmacVectors: whatever the input, the law returns true, and each argument reads as it did. No condition.
-/
import Derived.Test.YtdgmahgidmjniaaCmcX
import Derived.Test.YtdgmahgidmjniaaHead
import Derived.ProofKit
import Derived.OpenShut
import Derived.ShutString
import Derived.ChangeOld
import Derived.Below
import Derived.SizedLaws
set_option linter.unusedSimpArgs false
set_option linter.unusedVariables false
namespace Go.Proofs.Ytdgmahgidmjniaa.lawCmacVectors
open Go.ChangeShapes Go.WideShapes Go.ChangeAt Go.RowKit
open Go.ChangeMaps (open_string shut_string)
set_option linter.unusedVariables false

theorem own : ownKnob Try.prog.godebug = none := by kernel_rfl
theorem laidOut : laidOutB Try.prog = true := by kernel_rfl

set_option maxRecDepth 100000 in
theorem lifted (os : Os) (started : os.Started) (H : Type) (enc : TypeId × Value → H) :
    ReturnsInHanded {} Try.checked os 23 .any (Rows.cmacVectorsSpec.pre6 enc Try.prog Try.f23 Rows.cmacVectorsRow.domain false) (Rows.cmacVectorsSpec.post enc Try.prog Try.f23 false true false false) := by
  refine returnsInHanded_of_change (C := Try.checked) own started (by kernel_rfl) Try.func23
    (ChangeSpec.witness6 (enc := enc) (C := Try.checked) false ⟨#[], #[.agg (Array.replicate 16 (.int .u8 0))], []⟩ 8 (by kernel_rfl) (by kernel_rfl) (by kernel_rfl) (by kernel_rfl)) ?_
  intro W base args ds gs before hval0 hW hcnd _
  have hval : ∀ (j : Nat) t v, Try.f23.params[j]? = some t → args[j]? = some v → Value.okWide Try.prog W .any base t v := hval0
  have hW' := hW
  obtain ⟨p, q, hA0, hV, rfl, hfz, hnd⟩ := hW
  have hA : DataW.TrodAll enc Try.prog W 0 (fun _ => true) true Try.f23.params.toList args.toList ds p := hA0
  rw [Try.params23] at hA hval
  obtain ⟨v0, vs0, d0, ds0, p0, q0, hargs, rfl, rfl, h0, r0⟩ := trodAll_cons hA
  obtain ⟨rfl, rfl, rfl⟩ := trodAll_nil r0
  obtain rfl : args = #[v0] := by cases args; simp_all
  obtain ⟨rfl, rfl⟩ := trodVars_none hV
  have k0 := h0
  have lt0 : ∀ x ∈ p0, x.block < W.heap.size := by obtain ⟨m, hm⟩ := k0; exact DataW.trod_lt m _ _ _ hm
  obtain ⟨a0, rfl, w0⟩ := open_bytes_arr Try.underlying22 Try.underlying5 (by kernel_rfl) (by kernel_rfl) (hval 0 22 v0 rfl rfl) h0
  clear hA0 hval0
  refine (walk_CmacVectors a0 w0 W ).mono fun e W' ⟨he, bel⟩ => ?_
  subst he
  exact ⟨_, rfl, _, _, _, [], _, [], hW', trodAll_mk1 (shut_bool Try.underlying4 _), (trodAll_cons_mk (Below.trod laidOut (by kernel_rfl) (of_decide_eq_true (by kernel_rfl)) k0 bel lt0) trodAll_mk0), rfl, bel.frame _, fun h => by cases h⟩

theorem closed : joinedFacts Try.pinned.checked.prog 23 Try.f23 Rows.cmacVectorsSpec Rows.cmacVectorsRow = true := by
  unfold joinedFacts
  refine tt ?_ (by as_aux_lemma => kernel_rfl)
  refine tt ?_ (by as_aux_lemma => kernel_rfl)
  refine tt ?_ (by as_aux_lemma => kernel_rfl)
  refine tt ?_ (by as_aux_lemma => kernel_rfl)
  refine tt ?_ (make_beq _ head_make)
  refine tt ?_ (lifted_beq _ head_final)
  refine tt ?_ head_enter
  refine tt ?_ (by as_aux_lemma => kernel_rfl)
  refine tt ?_ (by as_aux_lemma => kernel_rfl)
  refine tt ?_ (by as_aux_lemma => kernel_rfl)
  refine tt ?_ (by as_aux_lemma => kernel_rfl)
  refine tt ?_ (by as_aux_lemma => kernel_rfl)
  refine tt ?_ (by as_aux_lemma => kernel_rfl)
  refine tt ?_ (by as_aux_lemma => kernel_rfl)
  refine tt ?_ (by as_aux_lemma => kernel_rfl)
  refine tt ?_ (by as_aux_lemma => kernel_rfl)
  refine tt ?_ (by as_aux_lemma => kernel_rfl)
  refine tt ?_ (by as_aux_lemma => kernel_rfl)
  refine tt ?_ (by as_aux_lemma => kernel_rfl)
  refine tt ?_ (by as_aux_lemma => kernel_rfl)
  refine tt ?_ (by as_aux_lemma => kernel_rfl)
  refine tt ?_ (by as_aux_lemma => kernel_rfl)
  refine tt ?_ (by as_aux_lemma => kernel_rfl)
  refine tt ?_ (by as_aux_lemma => kernel_rfl)
  refine tt ?_ (by as_aux_lemma => kernel_rfl)
  refine tt ?_ (by as_aux_lemma => kernel_rfl)
  refine tt ?_ (by as_aux_lemma => kernel_rfl)
  refine tt ?_ (by as_aux_lemma => kernel_rfl)
  refine tt ?_ (by as_aux_lemma => kernel_rfl)
  refine tt ?_ (by as_aux_lemma => kernel_rfl)
  refine tt ?_ (by as_aux_lemma => kernel_rfl)
  as_aux_lemma => kernel_rfl

theorem over : Rows.cmacVectorsRow.holds Try.pinned (OpenSpec.ofChange Rows.cmacVectorsSpec) :=
  OpenClaim.holds_of_wide 23 Try.f23 rfl rfl rfl rfl rfl rfl rfl ⟨rfl, rfl, rfl, rfl, rfl⟩ rfl rfl rfl rfl rfl (by kernel_rfl) Try.func23 closed
    (of_decide_eq_true (by kernel_rfl)) (by unfold Func.isWrapper; first | (rw [if_pos (by decide +kernel)]; kernel_rfl) | (rw [if_neg (by decide +kernel)]; exact ⟨rfl, rfl⟩))
    (fun os started H enc _ => lifted os started H enc)

/-- THE STATEMENT. -/
theorem proved : Rows.CmacVectorsSaid := over
end Go.Proofs.Ytdgmahgidmjniaa.lawCmacVectors
