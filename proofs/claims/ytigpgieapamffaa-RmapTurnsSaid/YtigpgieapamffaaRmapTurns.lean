/- The statement RmapTurnsSaid: at every input the law returns true, and each argument reads afterwards as before. No condition. -/
import Derived.Test.YtigpgieapamffaaRows
import Derived.Test.YtigpgieapamffaaRmF
import Derived.Test.YtigpgieapamffaaRmRd
import Derived.Test.YtigpgieapamffaaAiT
import Derived.WalkKit
import Derived.ProofKit
import Derived.OpenShut
import Derived.ShutString
import Derived.ChangeOld
import Derived.Below
namespace Go.Proofs.Ytigpgieapamffaa
open Go.ChangeShapes Go.WideShapes Go.ChangeAt Go.RowKit Go.AI
set_option linter.unusedVariables false
theorem rmapTurnsOwn : ownKnob Try.prog.godebug = none := by kernel_rfl
theorem rmapTurnsLaidOut : laidOutB Try.prog = true := by kernel_rfl
set_option maxRecDepth 100000 in
theorem rmapTurnsLifted (os : Os) (started : os.Started) (H : Type) (enc : TypeId × Value → H) :
    ReturnsInHanded {} Try.checked os 13 .any (Rows.rmapTurnsSpec.pre6 enc Try.prog Try.f13 Rows.rmapTurnsRow.domain false) (Rows.rmapTurnsSpec.post enc Try.prog Try.f13 false true false false) := by
  refine returnsInHanded_of_change (C := Try.checked) rmapTurnsOwn started (by kernel_rfl) Try.func13
    (ChangeSpec.witness6 (enc := enc) (C := Try.checked) false ⟨#[], #[.slice none 0 0, .agg #[.int .i64 0, .int .i64 0, .int .i64 0]], []⟩ 8 (by kernel_rfl) (by kernel_rfl) (by kernel_rfl) (by kernel_rfl)) ?_
  intro W base args ds gs before hval0 hW hcnd _
  have hval : ∀ (j : Nat) t v, Try.f13.params[j]? = some t → args[j]? = some v → Value.okWide Try.prog W .any base t v := hval0
  have hW' := hW
  obtain ⟨p, q, hA0, hV, rfl, hfz, hnd⟩ := hW
  have hA : DataW.TrodAll enc Try.prog W 0 (fun _ => true) true Try.f13.params.toList args.toList ds p := hA0
  rw [Try.params13] at hA hval
  obtain ⟨v0, vs0, d0, ds0, p0, q0, hargs, rfl, rfl, h0, r0⟩ := trodAll_cons hA
  obtain ⟨v1, vs1, d1, ds1, p1, q1, rfl, rfl, rfl, h1, r1⟩ := trodAll_cons r0
  obtain ⟨rfl, rfl, rfl⟩ := trodAll_nil r1
  obtain rfl : args = #[v0, v1] := by cases args; simp_all
  obtain ⟨rfl, rfl⟩ := trodVars_none hV
  have lt0 : ∀ x ∈ p0, x.block < W.heap.size := by obtain ⟨m, hm⟩ := h0; exact DataW.trod_lt m _ _ _ hm
  have kk0 := hval 0 46 v0 rfl rfl
  have lt1 : ∀ x ∈ p1, x.block < W.heap.size := by obtain ⟨m, hm⟩ := h1; exact DataW.trod_lt m _ _ _ hm
  have kk1 := hval 1 48 v1 rfl rfl
  obtain ⟨x0, len0, good0, R0⟩ := rd_sl (c := rPr) Try.underlying46 (by kernel_rfl) (by decide) rdPr kk0 h0
  obtain ⟨x1, good1, R1⟩ := rd_agg (c := rPr) Try.underlying48 rdPr kk1 h1
  have hm : (argM (cSl rPr) fun l => argM (cAgg rPr) fun p => finM (some (.v (.bool true)))) [(cSl rPr).enc x0, (cAgg rPr).enc x1] = some (.v (.bool true)) := by
    simp only [argM, Cod.de, finM]
  have hcalls := law_calls (vals := #[v0, v1]) turnsR_pure hm (ArgsR.of (vals := [v0, v1]) rfl (fun j a ha => by
    match j, ha with
    | 0, ha => simp at ha; subst ha; exact R0
    | 1, ha => simp at ha; subst ha; exact R1
    | j + 2, ha => simp at ha))
  refine hcalls.mono fun e W' ⟨he, bel⟩ => ?_
  subst he
  exact ⟨_, rfl, _, _, _, [], _, [], hW', trodAll_mk1 (shut_bool Try.underlying4 _), (trodAll_cons_mk (Below.trod rmapTurnsLaidOut (by kernel_rfl) (of_decide_eq_true (by kernel_rfl)) h0 bel lt0) (trodAll_cons_mk (Below.trod rmapTurnsLaidOut (by kernel_rfl) (of_decide_eq_true (by kernel_rfl)) h1 bel lt1) trodAll_mk0)), rfl, bel.frame _, fun h => by cases h⟩

theorem rmapTurnsOver : Rows.rmapTurnsRow.holds Try.pinned (OpenSpec.ofChange Rows.rmapTurnsSpec) :=
  OpenClaim.holds_of_wide 13 Try.f13 rfl rfl rfl rfl rfl rfl rfl ⟨rfl, rfl, rfl, rfl, rfl⟩ rfl rfl rfl rfl rfl (by kernel_rfl) Try.func13 (by kernel_rfl)
    (of_decide_eq_true (by kernel_rfl)) (by unfold Func.isWrapper; first | (rw [if_pos (by decide +kernel)]; kernel_rfl) | (rw [if_neg (by decide +kernel)]; exact ⟨rfl, rfl⟩))
    (fun os started H enc _ => rmapTurnsLifted os started H enc)

theorem rmapTurns_proved : Rows.RmapTurnsSaid := rmapTurnsOver
#print axioms rmapTurns_proved
end Go.Proofs.Ytigpgieapamffaa
