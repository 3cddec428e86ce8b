/- The tied card of TopRoots: at every input the law returns true, and each argument reads afterwards as before; what the two listed tables hold is tied to the program's text. No further condition. -/
import Derived.Test.YtdakclpneghkmaaGreatDoorCards
import Derived.Test.YtdakclpneghkmaaGreatDoorTie
import Derived.Test.YtdakclpneghkmaaGreatDoorRs
import Derived.Test.YtdakclpneghkmaaGreatDoorFaA
import Derived.Test.YtdakclpneghkmaaGreatDoorFaB
import Derived.Test.YtdakclpneghkmaaGreatDoorFaC
import Derived.Test.YtdakclpneghkmaaGreatDoorFaD
import Derived.Test.YtdakclpneghkmaaGreatDoorL11
import Derived.WalkKit
import Derived.ProofKit
import Derived.OpenShut
import Derived.ShutString
import Derived.ChangeOld
import Derived.Below
import Derived.Lay
import Derived.LaidOnce
import Derived.SevenTiedAt
namespace Go.Proofs.YtdakclpneghkmaaGreatDoor
open Go.ChangeShapes Go.WideShapes Go.ChangeAt Go.RowKit Go.AI
set_option linter.unusedVariables false
theorem topRootsOwn : ownKnob Tryz.prog.godebug = none := by kernel_rfl
set_option maxRecDepth 100000 in
theorem topRootsLifted (os : Os) (started : os.Started) (H : Type) (enc : TypeId × Value → H) :
  ReturnsInHanded {} Tryz.checked os 5 .any (fun w args => (Rows.topRootsSpec.pre enc Tryz.prog Tryz.f5 [] false w args ∧ laidMetH Tryz.prog Rows.topRootsRow.laid w) ∧ sizedMet enc Tryz.prog Tryz.f5 (OpenSpec.ofChange Rows.topRootsSpec) false w args)
   (Rows.topRootsSpec.post enc Tryz.prog Tryz.f5 false true false false) := by
 refine returnsInHanded_of_change_and (C := Tryz.checked) (X := fun w _ => laidMetH Tryz.prog Rows.topRootsRow.laid w) (fun _ _ _ hh h => h.of_heap hh) topRootsOwn started (by kernel_rfl) Tryz.func5
  (ChangeSpec.witness_shaped (enc := enc) (C := Tryz.checked) (os := os) (X := fun w _ => laidMetH Tryz.prog Rows.topRootsRow.laid w) false (World.laidAll Tryz.prog os Rows.topRootsRow.laid) #[.slice none 0 0] 8 (World.laidAll_os _ _ _)
   (World.shaped_of_ZipB (by kernel_rfl) (by kernel_rfl)) (by kernel_rfl) (by kernel_rfl) (by kernel_rfl)
   (by rw [MakeChecks.laidMetH_plain _ _ _ (by kernel_rfl)]; exact laidMet_laidAll _ (by kernel_rfl) (by kernel_rfl))) ?_
 intro W base args ds gs before hval0 hW _ hwt _ _
 have hval : ∀ (j : Nat) t v, Tryz.f5.params[j]? = some t → args[j]? = some v → Value.okWide Tryz.prog W .any base t v := hval0
 have hW' := hW
 obtain ⟨p, q, hA0, hV, rfl, _, _⟩ := hW
 have hA : DataW.TrodAll enc Tryz.prog W 0 (fun _ => true) true Tryz.f5.params.toList args.toList ds p := hA0
 rw [Tryz.params5] at hA hval
 obtain ⟨v0, vs0, d0, ds0, p0, q0, hargs, rfl, rfl, h0, r0⟩ := trodAll_cons hA
 obtain ⟨rfl, rfl, rfl⟩ := trodAll_nil r0
 obtain rfl : args = #[v0] := by cases args; simp_all
 obtain ⟨rfl, rfl⟩ := trodVars_none hV
 have lt0 : ∀ x ∈ p0, x.block < W.heap.size := by obtain ⟨m, hm⟩ := h0; exact DataW.trod_lt m _ _ _ hm
 have kk0 := hval 0 46 v0 rfl rfl
 have hw : ∀ n ∈ d0.weights Tryz.prog 46, n ≤ reachBytes := fun n hn => by
  have h2 := DataW.weights_mem_each (P := Tryz.prog) (ts := Tryz.f5.params.toList ++ Rows.topRootsSpec.plain.varTypes Tryz.prog) (ds := [d0] ++ []) (j := 0) (t := 46) (d := d0) (by rw [Tryz.params5]; rfl) rfl n hn
  exact of_decide_eq_true (List.all_eq_true.1 hwt n h2)
 obtain ⟨x0, len0, good0, R0⟩ := @rd_strs GD.sym0 _ _ _ _ _ _ _ _ _ _ _ _ Tryz.underlying46 Tryz.underlying9 (by kernel_rfl) (by kernel_rfl) kk0 h0 hw
 have hcalls := GD.law_all len0 good0 GD.sym0 R0
 refine hcalls.mono fun e W' ⟨he, bel⟩ => ?_
 subst he
 exact ⟨_, rfl, _, _, _, [], _, [], hW', trodAll_mk1 (shut_bool Tryz.underlying4 _), (trodAll_cons_mk (Below.trod jf1 (by kernel_rfl) (of_decide_eq_true (by kernel_rfl)) h0 bel lt0) trodAll_mk0), rfl, bel.frame _, fun h => by cases h⟩
theorem jand {a b : Bool} (h1 : a = true) (h2 : b = true) : (a && b) = true := by rw [h1, h2]; rfl
set_option maxRecDepth 100000 in
theorem topRootsClosed : joinedFacts Tryz.pinned.checked.prog 5 Tryz.f5 Rows.topRootsSpec Rows.topRootsRow = true := by
 unfold joinedFacts
 exact jand (jand (jand (jand (jand (jand (jand (jand (jand (jand (jand (jand (jand (jand (jand (jand (jand (jand (jand (jand (jand (jand (jand (jand (jand (jand (jand (jand (jand (jand (jand jf0 jf1) jf2) jf3) jf4) jf5) jf6) jf7) jf8) jf9) jf10) jf11) jf12) jf13) jf14) jf15) jf16) jf17) jf18) jf19) jf20) jf21) jf22) jf23) jf24) jf25) jf26) jf27) jf28) jf29) jf30) jf31
theorem topRootsInst : Tryz.f5.isInstance Tryz.pinned.checked.prog Rows.topRootsRow.origin Rows.topRootsRow.targs := of_decide_eq_true (by as_aux_lemma => kernel_rfl)
theorem topRootsWrap : Tryz.f5.isWrapper Tryz.pinned.checked.prog Rows.topRootsRow.wrapper Rows.topRootsRow.mainSum := by
 unfold Func.isWrapper; first | (rw [if_pos (by decide +kernel)]; kernel_rfl) | (rw [if_neg (by decide +kernel)]; exact ⟨rfl, rfl⟩)
theorem topRootsRowHolds : Rows.topRootsRow.holds Tryz.pinned (OpenSpec.ofChange Rows.topRootsSpec) :=
 OpenClaim.holds_of_wide 5 Tryz.f5 rfl rfl rfl rfl rfl rfl rfl ⟨rfl, rfl, rfl, rfl, rfl⟩ rfl rfl rfl rfl rfl jn1 Tryz.func5 topRootsClosed
  topRootsInst topRootsWrap
  (fun os started H enc _ => topRootsLifted os started H enc)
theorem topRootsPlain (f : FuncId) (fn : Func) (hf : Tryz.pinned.checked.prog.funcNamed Rows.topRootsRow.func = some f) (hfn : Tryz.pinned.checked.prog.funcs[f]? = some fn) :
  false = Tryz.pinned.checked.prog.looks [] ∧ ∀ (j : Nat) t, fn.params[j]? = some t → Tryz.pinned.checked.prog.wantsStandIn t = false := by
 obtain rfl : f = 5 := Option.some.inj (jn1.symm.trans hf) |>.symm
 obtain rfl : fn = Tryz.f5 := (Option.some.inj (Tryz.func5.symm.trans hfn)).symm
 exact ⟨jn4, fun j t ht => by
  rw [Tryz.params5] at ht
  have hm : t ∈ [46] := by simpa using Array.mem_of_getElem? ht
  exact (show Tryz.prog.wantsStandIn t = false by simpa using List.all_eq_true.1 jn5 t hm)⟩
theorem topRoots_proved : Rows.TopRootsCardSaid :=
 Claim7.holds_tied_plain_at .later [] _ _ _ _ topRootsRowHolds (fun _ h => by cases h) jn2 (fun _ h => by cases h) topRoots_row_tie rfl ⟨rfl, rfl⟩ jn3 rfl topRootsPlain jn6
#print axioms topRoots_proved
end Go.Proofs.YtdakclpneghkmaaGreatDoor
