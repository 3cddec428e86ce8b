/- The tied card of TopSignals: at every input the law returns true, and each argument reads afterwards as before; what the two listed tables hold is tied to the program's text. No further condition. -/
import Derived.Test.YtdakclpneghkmaaGreatDoorCards
import Derived.Test.YtdakclpneghkmaaGreatDoorTie
import Derived.Test.YtdakclpneghkmaaGreatDoorLaw
import Derived.Test.YtdakclpneghkmaaGreatDoorFaA
import Derived.Test.YtdakclpneghkmaaGreatDoorFaB
import Derived.Test.YtdakclpneghkmaaGreatDoorFaC
import Derived.Test.YtdakclpneghkmaaGreatDoorFaD
import Derived.Test.YtdakclpneghkmaaGreatDoorFaE
import Derived.Test.YtdakclpneghkmaaGreatDoorL13
import Derived.WalkKit
import Derived.ProofKit
import Derived.OpenShut
import Derived.ChangeOld
import Derived.Below
import Derived.Lay
import Derived.LaidOnce
import Derived.SevenTiedAt
namespace Go.Proofs.YtdakclpneghkmaaGreatDoor
open Go.ChangeShapes Go.WideShapes Go.ChangeAt Go.RowKit Go.AI
set_option linter.unusedVariables false
theorem topSignalsOwn : ownKnob Tryz.prog.godebug = none := by kernel_rfl
set_option maxRecDepth 100000 in
theorem topSignalsLifted (os : Os) (started : os.Started) (H : Type) (enc : TypeId × Value → H) :
    ReturnsInHanded {} Tryz.checked os 3 .any (fun w args => (Rows.topSignalsSpec.pre enc Tryz.prog Tryz.f3 [] false w args ∧ laidMetH Tryz.prog Rows.topSignalsRow.laid w) ∧ sizedMet enc Tryz.prog Tryz.f3 (OpenSpec.ofChange Rows.topSignalsSpec) false w args)
      (Rows.topSignalsSpec.post enc Tryz.prog Tryz.f3 false true false false) := by
  refine returnsInHanded_of_change_and (C := Tryz.checked) (X := fun w _ => laidMetH Tryz.prog Rows.topSignalsRow.laid w) (fun _ _ _ hh h => h.of_heap hh) topSignalsOwn started (by kernel_rfl) Tryz.func3
    (ChangeSpec.witness_shaped (enc := enc) (C := Tryz.checked) (os := os) (X := fun w _ => laidMetH Tryz.prog Rows.topSignalsRow.laid w) false (World.laidAll Tryz.prog os Rows.topSignalsRow.laid) #[.int .i64 0, .bool false] 8 (World.laidAll_os _ _ _)
      (World.shaped_of_ZipB (by kernel_rfl) (by kernel_rfl)) (by kernel_rfl) (by kernel_rfl) (by kernel_rfl)
      (by rw [MakeChecks.laidMetH_plain _ _ _ (by kernel_rfl)]; exact laidMet_laidAll _ (by kernel_rfl) (by kernel_rfl))) ?_
  intro W base args ds gs before hval0 hW _ _ _ _
  have hval : ∀ (j : Nat) t v, Tryz.f3.params[j]? = some t → args[j]? = some v → Value.okWide Tryz.prog W .any base t v := hval0
  have hW' := hW
  obtain ⟨p, q, hA0, hV, rfl, _, _⟩ := hW
  have hA : DataW.TrodAll enc Tryz.prog W 0 (fun _ => true) true Tryz.f3.params.toList args.toList ds p := hA0
  rw [Tryz.params3] at hA hval
  obtain ⟨v0, v1, d0, d1, p0, p1, rfl, rfl, rfl, h0, h1⟩ := trodAll_two hA
  obtain ⟨rfl, rfl⟩ := trodVars_none hV
  obtain ⟨x, rfl, rfl, rfl, wx⟩ := open_int Tryz.underlying3 (hval 0 3 v0 rfl rfl) h0
  obtain ⟨b, rfl, rfl, rfl⟩ := open_bool Tryz.underlying4 (hval 1 4 v1 rfl rfl) h1
  simp only [List.append_nil] at hW'
  have hcalls := law_calls (W := W) (vals := #[.int .i64 x, .bool b]) GD.law_pure (args := [.v (.int .i64 x), .v (.bool b)]) rfl (ArgsR.of (vals := [.int .i64 x, .bool b]) rfl (fun j a ha => by
    match j, ha with
    | 0, ha => simp at ha; subst ha; exact .v
    | 1, ha => simp at ha; subst ha; exact .v
    | j + 2, ha => simp at ha))
  refine hcalls.mono fun e W' ⟨he, bel⟩ => ?_
  subst he
  exact ⟨_, rfl, _, _, _, [], [], [], hW', trodAll_mk1 (shut_bool Tryz.underlying4 _), trodAll_mk2 (shut_int Tryz.underlying3 wx) (shut_bool Tryz.underlying4 _), rfl, bel.frame _, fun h => by cases h⟩
theorem jand {a b : Bool} (h1 : a = true) (h2 : b = true) : (a && b) = true := by rw [h1, h2]; rfl
set_option maxRecDepth 100000 in
theorem topSignalsClosed : joinedFacts Tryz.pinned.checked.prog 3 Tryz.f3 Rows.topSignalsSpec Rows.topSignalsRow = true := by
  unfold joinedFacts
  exact jand (jand (jand (jand (jand (jand (jand (jand (jand (jand (jand (jand (jand (jand (jand (jand (jand (jand (jand (jand (jand (jand (jand (jand (jand (jand (jand (jand (jand (jand (jand jf0 jf1) jf2) jf3) jf4) jf5) jf6) jf7) jf8) jf9) jf10) jf11) jf12) jf13) jf14) jf15) jf16) jf17) jf18) jf19) jf20) jf21) jf22) jf23) jf24) jf25) jf26) jf27) jf28) jf29) jf30) jf31
theorem topSignalsInst : Tryz.f3.isInstance Tryz.pinned.checked.prog Rows.topSignalsRow.origin Rows.topSignalsRow.targs := of_decide_eq_true (by as_aux_lemma => kernel_rfl)
theorem topSignalsWrap : Tryz.f3.isWrapper Tryz.pinned.checked.prog Rows.topSignalsRow.wrapper Rows.topSignalsRow.mainSum := by
  unfold Func.isWrapper; first | (rw [if_pos (by decide +kernel)]; kernel_rfl) | (rw [if_neg (by decide +kernel)]; exact ⟨rfl, rfl⟩)
theorem topSignalsRowHolds : Rows.topSignalsRow.holds Tryz.pinned (OpenSpec.ofChange Rows.topSignalsSpec) :=
  OpenClaim.holds_of_wide 3 Tryz.f3 rfl rfl rfl rfl rfl rfl rfl ⟨rfl, rfl, rfl, rfl, rfl⟩ rfl rfl rfl rfl rfl jn1 Tryz.func3 topSignalsClosed
    topSignalsInst topSignalsWrap
    (fun os started H enc _ => topSignalsLifted os started H enc)
theorem topSignalsPlain (f : FuncId) (fn : Func) (hf : Tryz.pinned.checked.prog.funcNamed Rows.topSignalsRow.func = some f) (hfn : Tryz.pinned.checked.prog.funcs[f]? = some fn) :
    false = Tryz.pinned.checked.prog.looks [] ∧ ∀ (j : Nat) t, fn.params[j]? = some t → Tryz.pinned.checked.prog.wantsStandIn t = false := by
  obtain rfl : f = 3 := Option.some.inj (jn1.symm.trans hf) |>.symm
  obtain rfl : fn = Tryz.f3 := (Option.some.inj (Tryz.func3.symm.trans hfn)).symm
  exact ⟨jn4, fun j t ht => by
    rw [Tryz.params3] at ht
    have hm : t ∈ [3, 4] := by simpa using Array.mem_of_getElem? ht
    exact (show Tryz.prog.wantsStandIn t = false by simpa using List.all_eq_true.1 jn5 t hm)⟩
theorem topSignals_proved : Rows.TopSignalsCardSaid :=
  Claim7.holds_tied_plain_at .later [] _ _ _ _ topSignalsRowHolds (fun _ h => by cases h) jn2 (fun _ h => by cases h) topSignals_row_tie rfl ⟨rfl, rfl⟩ jn3 rfl topSignalsPlain jn6
#print axioms topSignals_proved
end Go.Proofs.YtdakclpneghkmaaGreatDoor
