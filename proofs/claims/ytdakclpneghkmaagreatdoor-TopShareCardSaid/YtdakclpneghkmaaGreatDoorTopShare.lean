/- The tied card of TopShare: at every input the law returns true, and each argument reads afterwards as before; what the two listed tables hold is tied to the program's text. No further condition. -/
import Derived.Test.YtdakclpneghkmaaGreatDoorCards
import Derived.Test.YtdakclpneghkmaaGreatDoorTie
import Derived.Test.YtdakclpneghkmaaGreatDoorLaw
import Derived.Test.YtdakclpneghkmaaGreatDoorFaA
import Derived.Test.YtdakclpneghkmaaGreatDoorFaB
import Derived.Test.YtdakclpneghkmaaGreatDoorFaC
import Derived.Test.YtdakclpneghkmaaGreatDoorFaD
import Derived.Test.YtdakclpneghkmaaGreatDoorFaE
import Derived.Test.YtdakclpneghkmaaGreatDoorL11
import Derived.WalkKit
import Derived.ProofKit
import Derived.OpenShut
import Derived.ShutString
import Derived.ChangeOld
import Derived.Below
import Derived.Lay
import Derived.LaidOnce
import Derived.SevenTiedAt
namespace Go.Proofs.YtdakclpneghkmaaGreatDoor
open Go.ChangeShapes Go.WideShapes Go.ChangeAt Go.RowKit Go.AI
set_option linter.unusedVariables false
theorem topShareOwn : ownKnob Tryz.prog.godebug = none := by kernel_rfl
set_option maxRecDepth 100000 in
theorem topShareLifted (os : Os) (started : os.Started) (H : Type) (enc : TypeId × Value → H) :
    ReturnsInHanded {} Tryz.checked os 4 .any (fun w args => (Rows.topShareSpec.pre enc Tryz.prog Tryz.f4 [] false w args ∧ laidMetH Tryz.prog Rows.topShareRow.laid w) ∧ sizedMet enc Tryz.prog Tryz.f4 (OpenSpec.ofChange Rows.topShareSpec) false w args)
      (Rows.topShareSpec.post enc Tryz.prog Tryz.f4 false true false false) := by
  refine returnsInHanded_of_change_and (C := Tryz.checked) (X := fun w _ => laidMetH Tryz.prog Rows.topShareRow.laid w) (fun _ _ _ hh h => h.of_heap hh) topShareOwn started (by kernel_rfl) Tryz.func4
    (ChangeSpec.witness_shaped (enc := enc) (C := Tryz.checked) (os := os) (X := fun w _ => laidMetH Tryz.prog Rows.topShareRow.laid w) false (World.laidAll Tryz.prog os Rows.topShareRow.laid) #[.slice none 0 0, .slice none 0 0] 8 (World.laidAll_os _ _ _)
      (World.shaped_of_ZipB (by kernel_rfl) (by kernel_rfl)) (by kernel_rfl) (by kernel_rfl) (by kernel_rfl)
      (by rw [MakeChecks.laidMetH_plain _ _ _ (by kernel_rfl)]; exact laidMet_laidAll _ (by kernel_rfl) (by kernel_rfl))) ?_
  intro W base args ds gs before hval0 hW _ _ _ _
  have hval : ∀ (j : Nat) t v, Tryz.f4.params[j]? = some t → args[j]? = some v → Value.okWide Tryz.prog W .any base t v := hval0
  have hW' := hW
  obtain ⟨p, q, hA0, hV, rfl, _, _⟩ := hW
  have hA : DataW.TrodAll enc Tryz.prog W 0 (fun _ => true) true Tryz.f4.params.toList args.toList ds p := hA0
  rw [Tryz.params4] at hA hval
  obtain ⟨v0, vs0, d0, ds0, p0, q0, hargs, rfl, rfl, h0, r0⟩ := trodAll_cons hA
  obtain ⟨v1, vs1, d1, ds1, p1, q1, rfl, rfl, rfl, h1, r1⟩ := trodAll_cons r0
  obtain ⟨rfl, rfl, rfl⟩ := trodAll_nil r1
  obtain rfl : args = #[v0, v1] := by cases args; simp_all
  obtain ⟨rfl, rfl⟩ := trodVars_none hV
  have lt0 : ∀ x ∈ p0, x.block < W.heap.size := by obtain ⟨m, hm⟩ := h0; exact DataW.trod_lt m _ _ _ hm
  have lt1 : ∀ x ∈ p1, x.block < W.heap.size := by obtain ⟨m, hm⟩ := h1; exact DataW.trod_lt m _ _ _ hm
  have kk0 := hval 0 39 v0 rfl rfl
  have kk1 := hval 1 28 v1 rfl rfl
  obtain ⟨x0, len0, good0, R0⟩ := rd_sl (c := rB) Tryz.underlying39 (by kernel_rfl) (by decide) (rdB Tryz.underlying4) kk0 h0
  obtain ⟨x1, len1, good1, R1⟩ := rd_sl (c := rI .u8) Tryz.underlying28 (by kernel_rfl) (by decide) (rdI Tryz.underlying5) kk1 h1
  have hm : (argM (cSl rB) fun _ => argM (cSl (rI .u8)) fun _ => finM (some (.v (.bool true)))) [(cSl rB).enc x0, (cSl (rI .u8)).enc x1] = some (.v (.bool true)) := by
    simp only [argM, Cod.de, finM]
  have hcalls := law_calls (vals := #[v0, v1]) GD.law_pure4 hm (ArgsR.of (vals := [v0, v1]) rfl (fun j a ha => by
    match j, ha with
    | 0, ha => simp at ha; subst ha; exact R0
    | 1, ha => simp at ha; subst ha; exact R1
    | j + 2, ha => simp at ha))
  refine hcalls.mono fun e W' ⟨he, bel⟩ => ?_
  subst he
  exact ⟨_, rfl, _, _, _, [], _, [], hW', trodAll_mk1 (shut_bool Tryz.underlying4 _), (trodAll_cons_mk (Below.trod jf1 (by kernel_rfl) (of_decide_eq_true (by kernel_rfl)) h0 bel lt0) (trodAll_cons_mk (Below.trod jf1 (by kernel_rfl) (of_decide_eq_true (by kernel_rfl)) h1 bel lt1) trodAll_mk0)), rfl, bel.frame _, fun h => by cases h⟩
theorem jand {a b : Bool} (h1 : a = true) (h2 : b = true) : (a && b) = true := by rw [h1, h2]; rfl
set_option maxRecDepth 100000 in
theorem topShareClosed : joinedFacts Tryz.pinned.checked.prog 4 Tryz.f4 Rows.topShareSpec Rows.topShareRow = true := by
  unfold joinedFacts
  exact jand (jand (jand (jand (jand (jand (jand (jand (jand (jand (jand (jand (jand (jand (jand (jand (jand (jand (jand (jand (jand (jand (jand (jand (jand (jand (jand (jand (jand (jand (jand jf0 jf1) jf2) jf3) jf4) jf5) jf6) jf7) jf8) jf9) jf10) jf11) jf12) jf13) jf14) jf15) jf16) jf17) jf18) jf19) jf20) jf21) jf22) jf23) jf24) jf25) jf26) jf27) jf28) jf29) jf30) jf31
theorem topShareInst : Tryz.f4.isInstance Tryz.pinned.checked.prog Rows.topShareRow.origin Rows.topShareRow.targs := of_decide_eq_true (by as_aux_lemma => kernel_rfl)
theorem topShareWrap : Tryz.f4.isWrapper Tryz.pinned.checked.prog Rows.topShareRow.wrapper Rows.topShareRow.mainSum := by
  unfold Func.isWrapper; first | (rw [if_pos (by decide +kernel)]; kernel_rfl) | (rw [if_neg (by decide +kernel)]; exact ⟨rfl, rfl⟩)
theorem topShareRowHolds : Rows.topShareRow.holds Tryz.pinned (OpenSpec.ofChange Rows.topShareSpec) :=
  OpenClaim.holds_of_wide 4 Tryz.f4 rfl rfl rfl rfl rfl rfl rfl ⟨rfl, rfl, rfl, rfl, rfl⟩ rfl rfl rfl rfl rfl jn1 Tryz.func4 topShareClosed
    topShareInst topShareWrap
    (fun os started H enc _ => topShareLifted os started H enc)
theorem topSharePlain (f : FuncId) (fn : Func) (hf : Tryz.pinned.checked.prog.funcNamed Rows.topShareRow.func = some f) (hfn : Tryz.pinned.checked.prog.funcs[f]? = some fn) :
    false = Tryz.pinned.checked.prog.looks [] ∧ ∀ (j : Nat) t, fn.params[j]? = some t → Tryz.pinned.checked.prog.wantsStandIn t = false := by
  obtain rfl : f = 4 := Option.some.inj (jn1.symm.trans hf) |>.symm
  obtain rfl : fn = Tryz.f4 := (Option.some.inj (Tryz.func4.symm.trans hfn)).symm
  exact ⟨jn4, fun j t ht => by
    rw [Tryz.params4] at ht
    have hm : t ∈ [39, 28] := by simpa using Array.mem_of_getElem? ht
    exact (show Tryz.prog.wantsStandIn t = false by simpa using List.all_eq_true.1 jn5 t hm)⟩
theorem topShare_proved : Rows.TopShareCardSaid :=
  Claim7.holds_tied_plain_at .later [] _ _ _ _ topShareRowHolds (fun _ h => by cases h) jn2 (fun _ h => by cases h) topShare_row_tie rfl ⟨rfl, rfl⟩ jn3 rfl topSharePlain jn6
#print axioms topShare_proved
end Go.Proofs.YtdakclpneghkmaaGreatDoor
