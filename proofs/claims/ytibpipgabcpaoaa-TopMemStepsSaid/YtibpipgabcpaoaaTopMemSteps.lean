/- The statement TopMemStepsSaid: at every input the law returns true, and each argument reads afterwards as before. No condition. -/
import Derived.Test.YtibpipgabcpaoaaRows
import Derived.Test.YtibpipgabcpaoaaVmD
import Derived.Test.YtibpipgabcpaoaaGC
import Derived.WalkKit
import Derived.ProofKit
import Derived.OpenShut
import Derived.ShutString
import Derived.ChangeOld
import Derived.Below
namespace Go.Proofs.Ytibpipgabcpaoaa
open Go.ChangeShapes Go.WideShapes Go.ChangeAt Go.RowKit Go.AI
set_option linter.unusedVariables false
theorem topMemStepsOwn : ownKnob Try.prog.godebug = none := by kernel_rfl
theorem topMemStepsLaidOut : laidOutB Try.prog = true := by kernel_rfl
set_option maxRecDepth 100000 in
theorem topMemStepsLifted (os : Os) (started : os.Started) (H : Type) (enc : TypeId × Value → H) :
  ReturnsInHanded {} Try.checked os 3 .any (Rows.topMemStepsSpec.pre6 enc Try.prog Try.f3 Rows.topMemStepsRow.domain false) (Rows.topMemStepsSpec.post enc Try.prog Try.f3 false true false false) := by
 refine returnsInHanded_of_change (C := Try.checked) topMemStepsOwn started (by kernel_rfl) Try.func3
  (ChangeSpec.witness6 (enc := enc) (C := Try.checked) false ⟨#[], #[.slice none 0 0, .int .i64 0, .slice none 0 0], []⟩ 8 (by kernel_rfl) (by kernel_rfl) (by kernel_rfl) (by kernel_rfl)) ?_
 intro W base args ds gs before hval0 hW hcnd _
 have hval : ∀ (j : Nat) t v, Try.f3.params[j]? = some t → args[j]? = some v → Value.okWide Try.prog W .any base t v := hval0
 have hW' := hW
 obtain ⟨p, q, hA0, hV, rfl, hfz, hnd⟩ := hW
 have hA : DataW.TrodAll enc Try.prog W 0 (fun _ => true) true Try.f3.params.toList args.toList ds p := hA0
 rw [Try.params3] at hA hval
 obtain ⟨v0, vs0, d0, ds0, p0, q0, hargs, rfl, rfl, h0, r0⟩ := trodAll_cons hA
 obtain ⟨v1, vs1, d1, ds1, p1, q1, rfl, rfl, rfl, h1, r1⟩ := trodAll_cons r0
 obtain ⟨v2, vs2, d2, ds2, p2, q2, rfl, rfl, rfl, h2, r2⟩ := trodAll_cons r1
 obtain ⟨rfl, rfl, rfl⟩ := trodAll_nil r2
 obtain rfl : args = #[v0, v1, v2] := by cases args; simp_all
 obtain ⟨rfl, rfl⟩ := trodVars_none hV
 have lt0 : ∀ x ∈ p0, x.block < W.heap.size := by obtain ⟨m, hm⟩ := h0; exact DataW.trod_lt m _ _ _ hm
 have kk0 := hval 0 22 v0 rfl rfl
 have lt1 : ∀ x ∈ p1, x.block < W.heap.size := by obtain ⟨m, hm⟩ := h1; exact DataW.trod_lt m _ _ _ hm
 have kk1 := hval 1 3 v1 rfl rfl
 have lt2 : ∀ x ∈ p2, x.block < W.heap.size := by obtain ⟨m, hm⟩ := h2; exact DataW.trod_lt m _ _ _ hm
 have kk2 := hval 2 23 v2 rfl rfl
 obtain ⟨x0, len0, good0, R0⟩ := rd_sl (c := (rI .i64)) Try.underlying22 (by kernel_rfl) (by decide) (rdI Try.underlying3) kk0 h0
 obtain ⟨x1, w1, e1⟩ := rd_int Try.underlying3 kk1 h1
 have b1 := bounds_i64 w1
 obtain ⟨x2, len2, good2, R2⟩ := rd_sl (c := rD3) Try.underlying23 (by kernel_rfl) (by decide) rdD3 kk2 h2
 have hm : (argM (cSl (rI .i64)) fun l => argM (cInt .i64) fun steps => argM (cSl rD3) fun bt => finM (if l.length ≤ 9223372036854775807 ∧ bt.length ≤ 9223372036854775807 then some (.v (.bool true)) else none)) [(cSl (rI .i64)).enc x0, (cInt .i64).enc x1, (cSl rD3).enc x2] = some (.v (.bool true)) := by
  simp only [argM, Cod.de, finM]
  rw [if_pos ⟨Nat.le_trans len0 (by decide), Nat.le_trans len2 (by decide)⟩]
 have hcalls := law_calls (vals := #[v0, v1, v2]) law_pure hm (ArgsR.of (vals := [v0, v1, v2]) rfl (fun j a ha => by
  match j, ha with
  | 0, ha => simp at ha; subst ha; exact R0
  | 1, ha => simp at ha; subst ha; subst e1; exact .v
  | 2, ha => simp at ha; subst ha; exact R2
  | j + 3, ha => simp at ha))
 refine hcalls.mono fun e W' ⟨he, bel⟩ => ?_
 subst he
 exact ⟨_, rfl, _, _, _, [], _, [], hW', trodAll_mk1 (shut_bool Try.underlying4 _), (trodAll_cons_mk (Below.trod topMemStepsLaidOut (by kernel_rfl) (of_decide_eq_true (by kernel_rfl)) h0 bel lt0) (trodAll_cons_mk (Below.trod topMemStepsLaidOut (by kernel_rfl) (of_decide_eq_true (by kernel_rfl)) h1 bel lt1) (trodAll_cons_mk (Below.trod topMemStepsLaidOut (by kernel_rfl) (of_decide_eq_true (by kernel_rfl)) h2 bel lt2) trodAll_mk0))), rfl, bel.frame _, fun h => by cases h⟩
theorem topMemStepsOver : Rows.topMemStepsRow.holds Try.pinned (OpenSpec.ofChange Rows.topMemStepsSpec) :=
 OpenClaim.holds_of_wide 3 Try.f3 rfl rfl rfl rfl rfl rfl rfl ⟨rfl, rfl, rfl, rfl, rfl⟩ rfl rfl rfl rfl rfl (by kernel_rfl) Try.func3 (by kernel_rfl)
  (of_decide_eq_true (by kernel_rfl)) (by unfold Func.isWrapper; first | (rw [if_pos (by decide +kernel)]; kernel_rfl) | (rw [if_neg (by decide +kernel)]; exact ⟨rfl, rfl⟩))
  (fun os started H enc _ => topMemStepsLifted os started H enc)
theorem topMemSteps_proved : Rows.TopMemStepsSaid := topMemStepsOver
#print axioms topMemSteps_proved
end Go.Proofs.Ytibpipgabcpaoaa
