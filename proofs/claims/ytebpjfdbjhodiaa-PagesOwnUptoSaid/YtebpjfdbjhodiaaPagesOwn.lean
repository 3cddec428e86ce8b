/- The statement PagesOwnUptoSaid: where what the law reads is of bulk at most 1048576, it returns true, and each argument reads afterwards as before. -/
import Derived.Test.YtebpjfdbjhodiaaRows
import Derived.Test.YtebpjfdbjhodiaaPdH
import Derived.Test.YtebpjfdbjhodiaaPdI
import Derived.Test.YtebpjfdbjhodiaaAiT
import Derived.WalkKit
import Derived.ProofKit
import Derived.OpenShut
import Derived.ShutString
import Derived.ChangeOld
import Derived.Below
namespace Go.Proofs.Ytebpjfdbjhodiaa
open Go.ChangeShapes Go.WideShapes Go.ChangeAt Go.RowKit Go.AI
set_option linter.unusedVariables false
theorem pagesOwnOwn : ownKnob Try.prog.godebug = none := by kernel_rfl
theorem pagesOwnLaidOut : laidOutB Try.prog = true := by kernel_rfl
set_option maxRecDepth 100000 in
theorem pagesOwnContract (H : Type) (enc : TypeId × Value → H) (W : World) (base : Nat) (args : Array Value) (ds gs : List (DataW H)) (before : List MemPlace)
    (hval0 : ∀ (j : Nat) t v, Try.f3.params[j]? = some t → args[j]? = some v → Value.okWide Try.prog W .any base t v)
    (hW : DataW.Whole enc Try.prog Try.f3.params.toList Rows.pagesOwnSpec.vars false W args.toList ds gs before) (hk : Rows.uptoSmall H (ds ++ gs) = true) :
    Calls Try.prog 3 args W fun e W' => ∃ v, e = .returned v ∧ Rows.pagesOwnSpec.post enc Try.prog Try.f3 false true false false W args v W' := by
  have hval : ∀ (j : Nat) t v, Try.f3.params[j]? = some t → args[j]? = some v → Value.okWide Try.prog W .any base t v := hval0
  have hW' := hW
  obtain ⟨p, q, hA0, hV, rfl, hfz, hnd⟩ := hW
  have hA : DataW.TrodAll enc Try.prog W 0 (fun _ => true) true Try.f3.params.toList args.toList ds p := hA0
  rw [Try.params3] at hA hval
  obtain ⟨v0, vs0, d0, ds0, p0, q0, hargs, rfl, rfl, h0, r0⟩ := trodAll_cons hA
  obtain ⟨v1, vs1, d1, ds1, p1, q1, rfl, rfl, rfl, h1, r1⟩ := trodAll_cons r0
  obtain ⟨v2, vs2, d2, ds2, p2, q2, rfl, rfl, rfl, h2, r2⟩ := trodAll_cons r1
  obtain ⟨v3, vs3, d3, ds3, p3, q3, rfl, rfl, rfl, h3, r3⟩ := trodAll_cons r2
  obtain ⟨v4, vs4, d4, ds4, p4, q4, rfl, rfl, rfl, h4, r4⟩ := trodAll_cons r3
  obtain ⟨rfl, rfl, rfl⟩ := trodAll_nil r4
  obtain rfl : args = #[v0, v1, v2, v3, v4] := by cases args; simp_all
  obtain ⟨rfl, rfl⟩ := trodVars_none hV
  have lt0 : ∀ x ∈ p0, x.block < W.heap.size := by obtain ⟨m, hm⟩ := h0; exact DataW.trod_lt m _ _ _ hm
  have kk0 := hval 0 24 v0 rfl rfl
  have lt1 : ∀ x ∈ p1, x.block < W.heap.size := by obtain ⟨m, hm⟩ := h1; exact DataW.trod_lt m _ _ _ hm
  have kk1 := hval 1 26 v1 rfl rfl
  have lt2 : ∀ x ∈ p2, x.block < W.heap.size := by obtain ⟨m, hm⟩ := h2; exact DataW.trod_lt m _ _ _ hm
  have kk2 := hval 2 29 v2 rfl rfl
  have lt3 : ∀ x ∈ p3, x.block < W.heap.size := by obtain ⟨m, hm⟩ := h3; exact DataW.trod_lt m _ _ _ hm
  have kk3 := hval 3 3 v3 rfl rfl
  have lt4 : ∀ x ∈ p4, x.block < W.heap.size := by obtain ⟨m, hm⟩ := h4; exact DataW.trod_lt m _ _ _ hm
  have kk4 := hval 4 3 v4 rfl rfl
  obtain ⟨x0, good0, R0⟩ := rd_agg (c := rClk) Try.underlying24 rdClk kk0 h0
  obtain ⟨x1, good1, R1⟩ := rd_agg (c := rItem) Try.underlying26 rdItem kk1 h1
  obtain ⟨x2, good2, R2⟩ := rd_agg (c := rCa) Try.underlying29 rdCa kk2 h2
  obtain ⟨x3, w3, e3⟩ := rd_int Try.underlying3 kk3 h3
  have b3 := bounds_i64 w3
  obtain ⟨x4, w4, e4⟩ := rd_int Try.underlying3 kk4 h4
  have b4 := bounds_i64 w4
  have hk2 : Rows.uptoBulkAll ([d0, d1, d2, d3, d4] ++ []) ≤ 1048576 := of_decide_eq_true hk
  simp only [List.append_nil, Rows.uptoBulkAll] at hk2
  have hlen0 : x0.items.length ≤ 1048576 := by
    obtain ⟨_, _, _, e⟩ := r_len (sz := 3) (rows := x0.items.map Item.row) (h := x0.hand) R0
    have := bk_two Try.underlying24 rfl Try.underlying22 (by kernel_rfl) h0 e
    simp at this; omega
  have hlen2 : x2.pages.length ≤ 1048576 := by
    obtain ⟨_, _, _, e⟩ := r_len (sz := 20) (rows := x2.pages.map Pp.row) (h := x2.clock) R2
    have := bk_two Try.underlying29 rfl Try.underlying27 (by kernel_rfl) h2 e
    simp at this; omega
  have hm : (argM (cAgg rClk) fun c => argM (cAgg rItem) fun x => argM (cAgg rCa) fun p => argM (cInt .i64) fun f => argM (cInt .i64) fun n => finM (if (c.items.length ≤ 1048576 ∧ p.pages.length ≤ 1048576) then some (.v (.bool true)) else none)) [(cAgg rClk).enc x0, (cAgg rItem).enc x1, (cAgg rCa).enc x2, (cInt .i64).enc x3, (cInt .i64).enc x4] = some (.v (.bool true)) := by
    simp only [argM, Cod.de, finM]
    rw [if_pos ⟨hlen0, hlen2⟩]
  have hcalls := law_calls (vals := #[v0, v1, v2, v3, v4]) pagesOwn_pure hm (ArgsR.of (vals := [v0, v1, v2, v3, v4]) rfl (fun j a ha => by
    match j, ha with
    | 0, ha => simp at ha; subst ha; exact R0
    | 1, ha => simp at ha; subst ha; exact R1
    | 2, ha => simp at ha; subst ha; exact R2
    | 3, ha => simp at ha; subst ha; subst e3; exact .v
    | 4, ha => simp at ha; subst ha; subst e4; exact .v
    | j + 5, ha => simp at ha))
  refine hcalls.mono fun e W' ⟨he, bel⟩ => ?_
  subst he
  exact ⟨_, rfl, _, _, _, [], _, [], hW', trodAll_mk1 (shut_bool Try.underlying4 _), (trodAll_cons_mk (Below.trod pagesOwnLaidOut (by kernel_rfl) (of_decide_eq_true (by kernel_rfl)) h0 bel lt0) (trodAll_cons_mk (Below.trod pagesOwnLaidOut (by kernel_rfl) (of_decide_eq_true (by kernel_rfl)) h1 bel lt1) (trodAll_cons_mk (Below.trod pagesOwnLaidOut (by kernel_rfl) (of_decide_eq_true (by kernel_rfl)) h2 bel lt2) (trodAll_cons_mk (Below.trod pagesOwnLaidOut (by kernel_rfl) (of_decide_eq_true (by kernel_rfl)) h3 bel lt3) (trodAll_cons_mk (Below.trod pagesOwnLaidOut (by kernel_rfl) (of_decide_eq_true (by kernel_rfl)) h4 bel lt4) trodAll_mk0))))), rfl, bel.frame _, fun h => by cases h⟩

set_option maxRecDepth 100000 in
theorem pagesOwnLifted (os : Os) (started : os.Started) (H : Type) (enc : TypeId × Value → H) (F : Stop.Interp) :
    ReturnsInHanded {} Try.checked os 3 .any ((Rows.OpenSpec.upto Rows.pagesOwnSpec).pre6 enc Try.prog Try.f3 Rows.pagesOwnUptoRow.domain false) (((Rows.OpenSpec.upto Rows.pagesOwnSpec).at F).post enc Try.prog Try.f3 false true false false) := by
  refine returnsInHanded_of_cond (C := Try.checked) (s := Rows.OpenSpec.upto Rows.pagesOwnSpec) (k := Rows.uptoSmall) rfl pagesOwnOwn started (by kernel_rfl) Try.func3
    (OpenSpec.witness (enc := enc) (C := Try.checked) (s := Rows.OpenSpec.upto Rows.pagesOwnSpec) (k := Rows.uptoSmall) rfl false ⟨#[], #[.agg #[.slice none 0 0, .int .i64 0], .agg #[.int .i64 0, .bool false, .bool false], .agg #[.slice none 0 0, .int .i64 0], .int .i64 0, .int .i64 0], []⟩ 8 (by kernel_rfl) (by kernel_rfl) (by kernel_rfl)
      (x := ([.agg [.nil, .lit (.int .i64 0)], .agg [.lit (.int .i64 0), .lit (.bool false), .lit (.bool false)], .agg [.nil, .lit (.int .i64 0)], .lit (.int .i64 0), .lit (.int .i64 0)], [], [])) (by kernel_rfl) rfl (by kernel_rfl)) ?_
  intro W base args ds gs before hval hW _ hk _
  exact pagesOwnContract H enc W base args ds gs before hval hW hk

theorem pagesOwnOver : Rows.pagesOwnUptoRow.holds Try.pinned (Rows.OpenSpec.upto Rows.pagesOwnSpec) :=
  OpenClaim.holds_of_cond 3 Try.f3 rfl rfl rfl rfl rfl rfl rfl ⟨rfl, rfl, rfl, rfl, rfl⟩ rfl rfl rfl rfl rfl (by kernel_rfl) Try.func3 (by kernel_rfl)
    (of_decide_eq_true (by kernel_rfl)) (by unfold Func.isWrapper; first | (rw [if_pos (by decide +kernel)]; kernel_rfl) | (rw [if_neg (by decide +kernel)]; exact ⟨rfl, rfl⟩))
    (fun os started H enc _ F => pagesOwnLifted os started H enc F)

theorem pagesOwn_proved : Rows.PagesOwnUptoSaid := pagesOwnOver
#print axioms pagesOwn_proved
end Go.Proofs.Ytebpjfdbjhodiaa
