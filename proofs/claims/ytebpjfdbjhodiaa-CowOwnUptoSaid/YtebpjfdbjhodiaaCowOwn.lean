/- The statement CowOwnUptoSaid: where what the law reads is of bulk at most 1048576, it returns true, and each argument reads afterwards as before. -/
import Derived.Test.YtebpjfdbjhodiaaRows
import Derived.Test.YtebpjfdbjhodiaaCwC
import Derived.Test.YtebpjfdbjhodiaaCwRd
import Derived.Test.YtebpjfdbjhodiaaAiT
import Derived.WalkKit
import Derived.ProofKit
import Derived.OpenShut
import Derived.ShutString
import Derived.ChangeOld
import Derived.Below
namespace Go.Proofs.Ytebpjfdbjhodiaa
open Go.ChangeShapes Go.WideShapes Go.ChangeAt Go.RowKit Go.AI
set_option linter.unusedVariables false
theorem cowOwnOwn : ownKnob Try.prog.godebug = none := by kernel_rfl
theorem cowOwnLaidOut : laidOutB Try.prog = true := by kernel_rfl
set_option maxRecDepth 100000 in
theorem cowOwnContract (H : Type) (enc : TypeId × Value → H) (W : World) (base : Nat) (args : Array Value) (ds gs : List (DataW H)) (before : List MemPlace)
    (hval0 : ∀ (j : Nat) t v, Try.f6.params[j]? = some t → args[j]? = some v → Value.okWide Try.prog W .any base t v)
    (hW : DataW.Whole enc Try.prog Try.f6.params.toList Rows.cowOwnSpec.vars false W args.toList ds gs before) (hk : Rows.uptoSmall H (ds ++ gs) = true) :
    Calls Try.prog 6 args W fun e W' => ∃ v, e = .returned v ∧ Rows.cowOwnSpec.post enc Try.prog Try.f6 false true false false W args v W' := by
  have hval : ∀ (j : Nat) t v, Try.f6.params[j]? = some t → args[j]? = some v → Value.okWide Try.prog W .any base t v := hval0
  have hW' := hW
  obtain ⟨p, q, hA0, hV, rfl, hfz, hnd⟩ := hW
  have hA : DataW.TrodAll enc Try.prog W 0 (fun _ => true) true Try.f6.params.toList args.toList ds p := hA0
  rw [Try.params6] at hA hval
  obtain ⟨v0, vs0, d0, ds0, p0, q0, hargs, rfl, rfl, h0, r0⟩ := trodAll_cons hA
  obtain ⟨v1, vs1, d1, ds1, p1, q1, rfl, rfl, rfl, h1, r1⟩ := trodAll_cons r0
  obtain ⟨v2, vs2, d2, ds2, p2, q2, rfl, rfl, rfl, h2, r2⟩ := trodAll_cons r1
  obtain ⟨v3, vs3, d3, ds3, p3, q3, rfl, rfl, rfl, h3, r3⟩ := trodAll_cons r2
  obtain ⟨v4, vs4, d4, ds4, p4, q4, rfl, rfl, rfl, h4, r4⟩ := trodAll_cons r3
  obtain ⟨v5, vs5, d5, ds5, p5, q5, rfl, rfl, rfl, h5, r5⟩ := trodAll_cons r4
  obtain ⟨rfl, rfl, rfl⟩ := trodAll_nil r5
  obtain rfl : args = #[v0, v1, v2, v3, v4, v5] := by cases args; simp_all
  obtain ⟨rfl, rfl⟩ := trodVars_none hV
  have lt0 : ∀ x ∈ p0, x.block < W.heap.size := by obtain ⟨m, hm⟩ := h0; exact DataW.trod_lt m _ _ _ hm
  have kk0 := hval 0 135 v0 rfl rfl
  have lt1 : ∀ x ∈ p1, x.block < W.heap.size := by obtain ⟨m, hm⟩ := h1; exact DataW.trod_lt m _ _ _ hm
  have kk1 := hval 1 137 v1 rfl rfl
  have lt2 : ∀ x ∈ p2, x.block < W.heap.size := by obtain ⟨m, hm⟩ := h2; exact DataW.trod_lt m _ _ _ hm
  have kk2 := hval 2 140 v2 rfl rfl
  have lt3 : ∀ x ∈ p3, x.block < W.heap.size := by obtain ⟨m, hm⟩ := h3; exact DataW.trod_lt m _ _ _ hm
  have kk3 := hval 3 3 v3 rfl rfl
  have lt4 : ∀ x ∈ p4, x.block < W.heap.size := by obtain ⟨m, hm⟩ := h4; exact DataW.trod_lt m _ _ _ hm
  have kk4 := hval 4 3 v4 rfl rfl
  have lt5 : ∀ x ∈ p5, x.block < W.heap.size := by obtain ⟨m, hm⟩ := h5; exact DataW.trod_lt m _ _ _ hm
  have kk5 := hval 5 141 v5 rfl rfl
  have hk2 : Rows.uptoBulkAll ([d0, d1, d2, d3, d4, d5] ++ []) ≤ 1048576 := of_decide_eq_true hk
  simp only [List.append_nil, Rows.uptoBulkAll, Nat.add_zero] at hk2
  obtain ⟨x0, len0, good0, R0⟩ := rk_sl (c := rPr) Try.underlying135 (by kernel_rfl) (by decide) (RdK.of rdPr) kk0 h0 (by omega)
  obtain ⟨x1, good1, R1⟩ := rk_agg (c := rPr) Try.underlying137 (RdK.of rdPr) kk1 h1 (by omega)
  obtain ⟨x2, good2, R2⟩ := rk_agg (c := rRoom) Try.underlying140 rkRoom kk2 h2 (by omega)
  obtain ⟨x3, w3, e3⟩ := rd_int Try.underlying3 kk3 h3
  have b3 := bounds_i64 w3
  obtain ⟨x4, w4, e4⟩ := rd_int Try.underlying3 kk4 h4
  have b4 := bounds_i64 w4
  obtain ⟨x5, len5, good5, R5⟩ := rk_sl (c := rSlot) Try.underlying141 (by kernel_rfl) (by decide) (RdK.of rdSlot) kk5 h5 (by omega)
  have hm : (argM (cSl rPr) fun l => argM (cAgg rPr) fun p => argM (cAgg rRoom) fun q => argM (cInt .i64) fun s => argM (cInt .i64) fun pg => argM (cSl rSlot) fun m => finM (if (l.length ≤ 1048576 ∧ q.cells.length ≤ 1048576 ∧ m.length ≤ 1048576 ∧ q.spaces.length ≤ 1048576) ∧ ∀ x ∈ q.spaces, x.length ≤ 1048576 then some (.v (.bool true)) else none)) [(cSl rPr).enc x0, (cAgg rPr).enc x1, (cAgg rRoom).enc x2, (cInt .i64).enc x3, (cInt .i64).enc x4, (cSl rSlot).enc x5] = some (.v (.bool true)) := by
    simp only [argM, Cod.de, finM]
    rw [if_pos ⟨⟨len0, good2.1.1, len5, good2.1.2⟩, good2.2⟩]
  have hcalls := law_calls (vals := #[v0, v1, v2, v3, v4, v5]) cowOwn_pure hm (ArgsR.of (vals := [v0, v1, v2, v3, v4, v5]) rfl (fun j a ha => by
    match j, ha with
    | 0, ha => simp at ha; subst ha; exact R0
    | 1, ha => simp at ha; subst ha; exact R1
    | 2, ha => simp at ha; subst ha; exact R2
    | 3, ha => simp at ha; subst ha; subst e3; exact .v
    | 4, ha => simp at ha; subst ha; subst e4; exact .v
    | 5, ha => simp at ha; subst ha; exact R5
    | j + 6, ha => simp at ha))
  refine hcalls.mono fun e W' ⟨he, bel⟩ => ?_
  subst he
  exact ⟨_, rfl, _, _, _, [], _, [], hW', trodAll_mk1 (shut_bool Try.underlying4 _), (trodAll_cons_mk (Below.trod cowOwnLaidOut (by kernel_rfl) (of_decide_eq_true (by kernel_rfl)) h0 bel lt0) (trodAll_cons_mk (Below.trod cowOwnLaidOut (by kernel_rfl) (of_decide_eq_true (by kernel_rfl)) h1 bel lt1) (trodAll_cons_mk (Below.trod cowOwnLaidOut (by kernel_rfl) (of_decide_eq_true (by kernel_rfl)) h2 bel lt2) (trodAll_cons_mk (Below.trod cowOwnLaidOut (by kernel_rfl) (of_decide_eq_true (by kernel_rfl)) h3 bel lt3) (trodAll_cons_mk (Below.trod cowOwnLaidOut (by kernel_rfl) (of_decide_eq_true (by kernel_rfl)) h4 bel lt4) (trodAll_cons_mk (Below.trod cowOwnLaidOut (by kernel_rfl) (of_decide_eq_true (by kernel_rfl)) h5 bel lt5) trodAll_mk0)))))), rfl, bel.frame _, fun h => by cases h⟩

set_option maxRecDepth 100000 in
theorem cowOwnLifted (os : Os) (started : os.Started) (H : Type) (enc : TypeId × Value → H) (F : Stop.Interp) :
    ReturnsInHanded {} Try.checked os 6 .any ((Rows.OpenSpec.upto Rows.cowOwnSpec).pre6 enc Try.prog Try.f6 Rows.cowOwnUptoRow.domain false) (((Rows.OpenSpec.upto Rows.cowOwnSpec).at F).post enc Try.prog Try.f6 false true false false) := by
  refine returnsInHanded_of_cond (C := Try.checked) (s := Rows.OpenSpec.upto Rows.cowOwnSpec) (k := Rows.uptoSmall) rfl cowOwnOwn started (by kernel_rfl) Try.func6
    (OpenSpec.witness (enc := enc) (C := Try.checked) (s := Rows.OpenSpec.upto Rows.cowOwnSpec) (k := Rows.uptoSmall) rfl false ⟨#[], #[.slice none 0 0, .agg #[.int .i64 0, .int .i64 0, .int .i64 0], .agg #[.slice none 0 0, .slice none 0 0], .int .i64 0, .int .i64 0, .slice none 0 0], []⟩ 8 (by kernel_rfl) (by kernel_rfl) (by kernel_rfl)
      (x := ([.nil, .agg [.lit (.int .i64 0), .lit (.int .i64 0), .lit (.int .i64 0)], .agg [.nil, .nil], .lit (.int .i64 0), .lit (.int .i64 0), .nil], [], [])) (by kernel_rfl) rfl (by kernel_rfl)) ?_
  intro W base args ds gs before hval hW _ hk _
  exact cowOwnContract H enc W base args ds gs before hval hW hk

theorem cowOwnOver : Rows.cowOwnUptoRow.holds Try.pinned (Rows.OpenSpec.upto Rows.cowOwnSpec) :=
  OpenClaim.holds_of_cond 6 Try.f6 rfl rfl rfl rfl rfl rfl rfl ⟨rfl, rfl, rfl, rfl, rfl⟩ rfl rfl rfl rfl rfl (by kernel_rfl) Try.func6 (by kernel_rfl)
    (of_decide_eq_true (by kernel_rfl)) (by unfold Func.isWrapper; first | (rw [if_pos (by decide +kernel)]; kernel_rfl) | (rw [if_neg (by decide +kernel)]; exact ⟨rfl, rfl⟩))
    (fun os started H enc _ F => cowOwnLifted os started H enc F)

theorem cowOwn_proved : Rows.CowOwnUptoSaid := cowOwnOver
#print axioms cowOwn_proved
end Go.Proofs.Ytebpjfdbjhodiaa
