/- The statement PagesHeldSaid: at every input the law returns true, and each argument reads afterwards as before. No condition. -/
import Derived.Test.YtdhkhnegnlmgiaaRows
import Derived.Test.YtdhkhnegnlmgiaaPnD
import Derived.Test.YtdhkhnegnlmgiaaPgRd
import Derived.Test.YtdhkhnegnlmgiaaAiT
import Derived.WalkKit
import Derived.ProofKit
import Derived.OpenShut
import Derived.ShutString
import Derived.ChangeOld
import Derived.Below
namespace Go.Proofs.Ytdhkhnegnlmgiaa
open Go.ChangeShapes Go.WideShapes Go.ChangeAt Go.RowKit Go.AI
set_option linter.unusedVariables false
theorem pagesHeldOwn : ownKnob Try.prog.godebug = none := by kernel_rfl
theorem pagesHeldLaidOut : laidOutB Try.prog = true := by kernel_rfl
set_option maxRecDepth 100000 in
theorem pagesHeldLifted (os : Os) (started : os.Started) (H : Type) (enc : TypeId × Value → H) :
    ReturnsInHanded {} Try.checked os 4 .any (Rows.pagesHeldSpec.pre6 enc Try.prog Try.f4 Rows.pagesHeldRow.domain false) (Rows.pagesHeldSpec.post enc Try.prog Try.f4 false true false false) := by
  refine returnsInHanded_of_change (C := Try.checked) pagesHeldOwn started (by kernel_rfl) Try.func4
    (ChangeSpec.witness6 (enc := enc) (C := Try.checked) false ⟨#[], #[.agg #[.slice none 0 0, .int .i64 0], .int .i64 0, .int .i64 0], []⟩ 8 (by kernel_rfl) (by kernel_rfl) (by kernel_rfl) (by kernel_rfl)) ?_
  intro W base args ds gs before hval0 hW hcnd _
  have hval : ∀ (j : Nat) t v, Try.f4.params[j]? = some t → args[j]? = some v → Value.okWide Try.prog W .any base t v := hval0
  have hW' := hW
  obtain ⟨p, q, hA0, hV, rfl, hfz, hnd⟩ := hW
  have hA : DataW.TrodAll enc Try.prog W 0 (fun _ => true) true Try.f4.params.toList args.toList ds p := hA0
  rw [Try.params4] at hA hval
  obtain ⟨v0, vs0, d0, ds0, p0, q0, hargs, rfl, rfl, h0, r0⟩ := trodAll_cons hA
  obtain ⟨v1, vs1, d1, ds1, p1, q1, rfl, rfl, rfl, h1, r1⟩ := trodAll_cons r0
  obtain ⟨v2, vs2, d2, ds2, p2, q2, rfl, rfl, rfl, h2, r2⟩ := trodAll_cons r1
  obtain ⟨rfl, rfl, rfl⟩ := trodAll_nil r2
  obtain rfl : args = #[v0, v1, v2] := by cases args; simp_all
  obtain ⟨rfl, rfl⟩ := trodVars_none hV
  have lt0 : ∀ x ∈ p0, x.block < W.heap.size := by obtain ⟨m, hm⟩ := h0; exact DataW.trod_lt m _ _ _ hm
  have kk0 := hval 0 24 v0 rfl rfl
  have lt1 : ∀ x ∈ p1, x.block < W.heap.size := by obtain ⟨m, hm⟩ := h1; exact DataW.trod_lt m _ _ _ hm
  have kk1 := hval 1 3 v1 rfl rfl
  have lt2 : ∀ x ∈ p2, x.block < W.heap.size := by obtain ⟨m, hm⟩ := h2; exact DataW.trod_lt m _ _ _ hm
  have kk2 := hval 2 3 v2 rfl rfl
  obtain ⟨x0, good0, R0⟩ := rd_agg (c := rCa) Try.underlying24 rdCa kk0 h0
  obtain ⟨x1, w1, e1⟩ := rd_int Try.underlying3 kk1 h1
  have b1 := bounds_i64 w1
  obtain ⟨x2, w2, e2⟩ := rd_int Try.underlying3 kk2 h2
  have b2 := bounds_i64 w2
  have hm : (argM (cAgg rCa) fun c => argM (cInt .i64) fun f => argM (cInt .i64) fun n => finM (if c.pages.length ≤ 9223372036854775807 then some (.v (.bool true)) else none)) [(cAgg rCa).enc x0, (cInt .i64).enc x1, (cInt .i64).enc x2] = some (.v (.bool true)) := by
    simp only [argM, Cod.de, finM]
    rw [if_pos (by have := good0; simp only [maxLen] at this; omega)]
  have hcalls := law_calls (vals := #[v0, v1, v2]) held_pure hm (ArgsR.of (vals := [v0, v1, v2]) rfl (fun j a ha => by
    match j, ha with
    | 0, ha => simp at ha; subst ha; exact R0
    | 1, ha => simp at ha; subst ha; subst e1; exact .v
    | 2, ha => simp at ha; subst ha; subst e2; exact .v
    | j + 3, ha => simp at ha))
  refine hcalls.mono fun e W' ⟨he, bel⟩ => ?_
  subst he
  exact ⟨_, rfl, _, _, _, [], _, [], hW', trodAll_mk1 (shut_bool Try.underlying4 _), (trodAll_cons_mk (Below.trod pagesHeldLaidOut (by kernel_rfl) (of_decide_eq_true (by kernel_rfl)) h0 bel lt0) (trodAll_cons_mk (Below.trod pagesHeldLaidOut (by kernel_rfl) (of_decide_eq_true (by kernel_rfl)) h1 bel lt1) (trodAll_cons_mk (Below.trod pagesHeldLaidOut (by kernel_rfl) (of_decide_eq_true (by kernel_rfl)) h2 bel lt2) trodAll_mk0))), rfl, bel.frame _, fun h => by cases h⟩

theorem pagesHeldOver : Rows.pagesHeldRow.holds Try.pinned (OpenSpec.ofChange Rows.pagesHeldSpec) :=
  OpenClaim.holds_of_wide 4 Try.f4 rfl rfl rfl rfl rfl rfl rfl ⟨rfl, rfl, rfl, rfl, rfl⟩ rfl rfl rfl rfl rfl (by kernel_rfl) Try.func4 (by kernel_rfl)
    (of_decide_eq_true (by kernel_rfl)) (by unfold Func.isWrapper; first | (rw [if_pos (by decide +kernel)]; kernel_rfl) | (rw [if_neg (by decide +kernel)]; exact ⟨rfl, rfl⟩))
    (fun os started H enc _ => pagesHeldLifted os started H enc)

theorem pagesHeld_proved : Rows.PagesHeldSaid := pagesHeldOver
#print axioms pagesHeld_proved
end Go.Proofs.Ytdhkhnegnlmgiaa
