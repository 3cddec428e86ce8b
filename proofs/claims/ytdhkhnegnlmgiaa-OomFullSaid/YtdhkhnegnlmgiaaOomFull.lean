/- The statement OomFullSaid: at every input the law returns true, and each argument reads afterwards as before. No condition. -/
import Derived.Test.YtdhkhnegnlmgiaaRows
import Derived.Test.YtdhkhnegnlmgiaaOmE
import Derived.Test.YtdhkhnegnlmgiaaOmRd
import Derived.Test.YtdhkhnegnlmgiaaAiT
import Derived.WalkKit
import Derived.ProofKit
import Derived.OpenShut
import Derived.ShutString
import Derived.ChangeOld
import Derived.Below
namespace Go.Proofs.Ytdhkhnegnlmgiaa
open Go.ChangeShapes Go.WideShapes Go.ChangeAt Go.RowKit Go.AI
set_option linter.unusedVariables false
theorem oomFullOwn : ownKnob Try.prog.godebug = none := by kernel_rfl
theorem oomFullLaidOut : laidOutB Try.prog = true := by kernel_rfl
set_option maxRecDepth 100000 in
theorem oomFullLifted (os : Os) (started : os.Started) (H : Type) (enc : TypeId × Value → H) :
    ReturnsInHanded {} Try.checked os 7 .any (Rows.oomFullSpec.pre6 enc Try.prog Try.f7 Rows.oomFullRow.domain false) (Rows.oomFullSpec.post enc Try.prog Try.f7 false true false false) := by
  refine returnsInHanded_of_change (C := Try.checked) oomFullOwn started (by kernel_rfl) Try.func7
    (ChangeSpec.witness6 (enc := enc) (C := Try.checked) false ⟨#[], #[.slice none 0 0, .int .i64 0], []⟩ 8 (by kernel_rfl) (by kernel_rfl) (by kernel_rfl) (by kernel_rfl)) ?_
  intro W base args ds gs before hval0 hW hcnd _
  have hval : ∀ (j : Nat) t v, Try.f7.params[j]? = some t → args[j]? = some v → Value.okWide Try.prog W .any base t v := hval0
  have hW' := hW
  obtain ⟨p, q, hA0, hV, rfl, hfz, hnd⟩ := hW
  have hA : DataW.TrodAll enc Try.prog W 0 (fun _ => true) true Try.f7.params.toList args.toList ds p := hA0
  rw [Try.params7] at hA hval
  obtain ⟨v0, vs0, d0, ds0, p0, q0, hargs, rfl, rfl, h0, r0⟩ := trodAll_cons hA
  obtain ⟨v1, vs1, d1, ds1, p1, q1, rfl, rfl, rfl, h1, r1⟩ := trodAll_cons r0
  obtain ⟨rfl, rfl, rfl⟩ := trodAll_nil r1
  obtain rfl : args = #[v0, v1] := by cases args; simp_all
  obtain ⟨rfl, rfl⟩ := trodVars_none hV
  have lt0 : ∀ x ∈ p0, x.block < W.heap.size := by obtain ⟨m, hm⟩ := h0; exact DataW.trod_lt m _ _ _ hm
  have kk0 := hval 0 48 v0 rfl rfl
  have lt1 : ∀ x ∈ p1, x.block < W.heap.size := by obtain ⟨m, hm⟩ := h1; exact DataW.trod_lt m _ _ _ hm
  have kk1 := hval 1 3 v1 rfl rfl
  obtain ⟨x0, len0, good0, R0⟩ := rd_sl (c := rTk) Try.underlying48 (by kernel_rfl) (by decide) rdTk kk0 h0
  obtain ⟨x1, w1, e1⟩ := rd_int Try.underlying3 kk1 h1
  have b1 := bounds_i64 w1
  have hm : (argM (cSl rTk) fun l => argM (cInt .i64) fun n => finM (some (.v (.bool true)))) [(cSl rTk).enc x0, (cInt .i64).enc x1] = some (.v (.bool true)) := by
    simp only [argM, Cod.de, finM]
  have hcalls := law_calls (vals := #[v0, v1]) full_pure hm (ArgsR.of (vals := [v0, v1]) rfl (fun j a ha => by
    match j, ha with
    | 0, ha => simp at ha; subst ha; exact R0
    | 1, ha => simp at ha; subst ha; subst e1; exact .v
    | j + 2, ha => simp at ha))
  refine hcalls.mono fun e W' ⟨he, bel⟩ => ?_
  subst he
  exact ⟨_, rfl, _, _, _, [], _, [], hW', trodAll_mk1 (shut_bool Try.underlying4 _), (trodAll_cons_mk (Below.trod oomFullLaidOut (by kernel_rfl) (of_decide_eq_true (by kernel_rfl)) h0 bel lt0) (trodAll_cons_mk (Below.trod oomFullLaidOut (by kernel_rfl) (of_decide_eq_true (by kernel_rfl)) h1 bel lt1) trodAll_mk0)), rfl, bel.frame _, fun h => by cases h⟩

theorem oomFullOver : Rows.oomFullRow.holds Try.pinned (OpenSpec.ofChange Rows.oomFullSpec) :=
  OpenClaim.holds_of_wide 7 Try.f7 rfl rfl rfl rfl rfl rfl rfl ⟨rfl, rfl, rfl, rfl, rfl⟩ rfl rfl rfl rfl rfl (by kernel_rfl) Try.func7 (by kernel_rfl)
    (of_decide_eq_true (by kernel_rfl)) (by unfold Func.isWrapper; first | (rw [if_pos (by decide +kernel)]; kernel_rfl) | (rw [if_neg (by decide +kernel)]; exact ⟨rfl, rfl⟩))
    (fun os started H enc _ => oomFullLifted os started H enc)

theorem oomFull_proved : Rows.OomFullSaid := oomFullOver
#print axioms oomFull_proved
end Go.Proofs.Ytdhkhnegnlmgiaa
