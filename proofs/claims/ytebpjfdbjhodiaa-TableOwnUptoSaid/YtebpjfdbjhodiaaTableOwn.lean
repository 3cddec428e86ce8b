/- The statement TableOwnUptoSaid: where what the law reads is of bulk at most 1048576, it returns true, and each argument reads afterwards as before. -/
import Derived.Test.YtebpjfdbjhodiaaRows
import Derived.Test.YtebpjfdbjhodiaaToD
import Derived.Test.YtebpjfdbjhodiaaToRd
import Derived.Test.YtebpjfdbjhodiaaAiT
import Derived.WalkKit
import Derived.ProofKit
import Derived.OpenShut
import Derived.ShutString
import Derived.ChangeOld
import Derived.Below
namespace Go.Proofs.Ytebpjfdbjhodiaa
open Go.ChangeShapes Go.WideShapes Go.ChangeAt Go.RowKit Go.AI
set_option linter.unusedVariables false
theorem tableOwnOwn : ownKnob Try.prog.godebug = none := by kernel_rfl
theorem tableOwnLaidOut : laidOutB Try.prog = true := by kernel_rfl
set_option maxRecDepth 100000 in
theorem tableOwnContract (H : Type) (enc : TypeId × Value → H) (W : World) (base : Nat) (args : Array Value) (ds gs : List (DataW H)) (before : List MemPlace)
    (hval0 : ∀ (j : Nat) t v, Try.f4.params[j]? = some t → args[j]? = some v → Value.okWide Try.prog W .any base t v)
    (hW : DataW.Whole enc Try.prog Try.f4.params.toList Rows.tableOwnSpec.vars false W args.toList ds gs before) (hk : Rows.uptoSmall H (ds ++ gs) = true) :
    Calls Try.prog 4 args W fun e W' => ∃ v, e = .returned v ∧ Rows.tableOwnSpec.post enc Try.prog Try.f4 false true false false W args v W' := by
  have hval : ∀ (j : Nat) t v, Try.f4.params[j]? = some t → args[j]? = some v → Value.okWide Try.prog W .any base t v := hval0
  have hW' := hW
  obtain ⟨p, q, hA0, hV, rfl, hfz, hnd⟩ := hW
  have hA : DataW.TrodAll enc Try.prog W 0 (fun _ => true) true Try.f4.params.toList args.toList ds p := hA0
  rw [Try.params4] at hA hval
  obtain ⟨v0, vs0, d0, ds0, p0, q0, hargs, rfl, rfl, h0, r0⟩ := trodAll_cons hA
  obtain ⟨v1, vs1, d1, ds1, p1, q1, rfl, rfl, rfl, h1, r1⟩ := trodAll_cons r0
  obtain ⟨v2, vs2, d2, ds2, p2, q2, rfl, rfl, rfl, h2, r2⟩ := trodAll_cons r1
  obtain ⟨v3, vs3, d3, ds3, p3, q3, rfl, rfl, rfl, h3, r3⟩ := trodAll_cons r2
  obtain ⟨v4, vs4, d4, ds4, p4, q4, rfl, rfl, rfl, h4, r4⟩ := trodAll_cons r3
  obtain ⟨v5, vs5, d5, ds5, p5, q5, rfl, rfl, rfl, h5, r5⟩ := trodAll_cons r4
  obtain ⟨v6, vs6, d6, ds6, p6, q6, rfl, rfl, rfl, h6, r6⟩ := trodAll_cons r5
  obtain ⟨rfl, rfl, rfl⟩ := trodAll_nil r6
  obtain rfl : args = #[v0, v1, v2, v3, v4, v5, v6] := by cases args; simp_all
  obtain ⟨rfl, rfl⟩ := trodVars_none hV
  have lt0 : ∀ x ∈ p0, x.block < W.heap.size := by obtain ⟨m, hm⟩ := h0; exact DataW.trod_lt m _ _ _ hm
  have kk0 := hval 0 57 v0 rfl rfl
  have lt1 : ∀ x ∈ p1, x.block < W.heap.size := by obtain ⟨m, hm⟩ := h1; exact DataW.trod_lt m _ _ _ hm
  have kk1 := hval 1 3 v1 rfl rfl
  have lt2 : ∀ x ∈ p2, x.block < W.heap.size := by obtain ⟨m, hm⟩ := h2; exact DataW.trod_lt m _ _ _ hm
  have kk2 := hval 2 59 v2 rfl rfl
  have lt3 : ∀ x ∈ p3, x.block < W.heap.size := by obtain ⟨m, hm⟩ := h3; exact DataW.trod_lt m _ _ _ hm
  have kk3 := hval 3 60 v3 rfl rfl
  have lt4 : ∀ x ∈ p4, x.block < W.heap.size := by obtain ⟨m, hm⟩ := h4; exact DataW.trod_lt m _ _ _ hm
  have kk4 := hval 4 62 v4 rfl rfl
  have lt5 : ∀ x ∈ p5, x.block < W.heap.size := by obtain ⟨m, hm⟩ := h5; exact DataW.trod_lt m _ _ _ hm
  have kk5 := hval 5 63 v5 rfl rfl
  have lt6 : ∀ x ∈ p6, x.block < W.heap.size := by obtain ⟨m, hm⟩ := h6; exact DataW.trod_lt m _ _ _ hm
  have kk6 := hval 6 65 v6 rfl rfl
  have hk2 : Rows.uptoBulkAll ([d0, d1, d2, d3, d4, d5, d6] ++ []) ≤ 1048576 := of_decide_eq_true hk
  simp only [List.append_nil, Rows.uptoBulkAll, Nat.add_zero] at hk2
  obtain ⟨x0, good0, R0⟩ := rk_arr (c := rTb) Try.underlying57 rkTb (by obtain ⟨cs, h, _⟩ := okWide_arrA Try.underlying57 kk0; exact ⟨cs, h⟩) h0 (by omega)
  obtain ⟨x1, w1, e1⟩ := rd_int Try.underlying3 kk1 h1
  have b1 := bounds_i64 w1
  obtain ⟨x2, good2, R2⟩ := rk_agg (c := rEnt) Try.underlying59 rkEnt kk2 h2 (by omega)
  obtain ⟨x3, len3, good3, R3⟩ := rk_sl (c := rCpu) Try.underlying60 (by kernel_rfl) (by decide) rkCpu kk3 h3 (by omega)
  obtain ⟨x4, good4, R4⟩ := rk_agg (c := rOd) Try.underlying62 rkOd kk4 h4 (by omega)
  obtain ⟨x5, len5, good5, R5⟩ := rk_sl (c := rAr) Try.underlying63 (by kernel_rfl) (by decide) rkAr kk5 h5 (by omega)
  obtain ⟨x6, good6, R6⟩ := rk_agg (c := rAr) Try.underlying65 rkAr kk6 h6 (by omega)
  have hm : (argM (cAgg rTb) fun t => argM (cInt .i64) fun k => argM (cAgg rEnt) fun x => argM (cSl rCpu) fun l => argM (cAgg rOd) fun o => argM (cSl rAr) fun m => argM (cAgg rAr) fun y => finM (if (l.length ≤ 1048576 ∧ m.length ≤ 1048576) ∧ (∀ n ∈ t.l, n.ents.length ≤ 1048576) ∧ ∀ c ∈ l, c.lines.length ≤ 1048576 ∧ c.orders.length ≤ 1048576 then some (.v (.bool true)) else none)) [(cAgg rTb).enc x0, (cInt .i64).enc x1, (cAgg rEnt).enc x2, (cSl rCpu).enc x3, (cAgg rOd).enc x4, (cSl rAr).enc x5, (cAgg rAr).enc x6] = some (.v (.bool true)) := by
    simp only [argM, Cod.de, finM]
    rw [if_pos ⟨⟨len3, len5⟩, good0, fun c hc => good3 c hc⟩]
  have hcalls := law_calls (vals := #[v0, v1, v2, v3, v4, v5, v6]) tableOwn_pure hm (ArgsR.of (vals := [v0, v1, v2, v3, v4, v5, v6]) rfl (fun j a ha => by
    match j, ha with
    | 0, ha => simp at ha; subst ha; exact R0
    | 1, ha => simp at ha; subst ha; subst e1; exact .v
    | 2, ha => simp at ha; subst ha; exact R2
    | 3, ha => simp at ha; subst ha; exact R3
    | 4, ha => simp at ha; subst ha; exact R4
    | 5, ha => simp at ha; subst ha; exact R5
    | 6, ha => simp at ha; subst ha; exact R6
    | j + 7, ha => simp at ha))
  refine hcalls.mono fun e W' ⟨he, bel⟩ => ?_
  subst he
  exact ⟨_, rfl, _, _, _, [], _, [], hW', trodAll_mk1 (shut_bool Try.underlying4 _), (trodAll_cons_mk (Below.trod tableOwnLaidOut (by kernel_rfl) (of_decide_eq_true (by kernel_rfl)) h0 bel lt0) (trodAll_cons_mk (Below.trod tableOwnLaidOut (by kernel_rfl) (of_decide_eq_true (by kernel_rfl)) h1 bel lt1) (trodAll_cons_mk (Below.trod tableOwnLaidOut (by kernel_rfl) (of_decide_eq_true (by kernel_rfl)) h2 bel lt2) (trodAll_cons_mk (Below.trod tableOwnLaidOut (by kernel_rfl) (of_decide_eq_true (by kernel_rfl)) h3 bel lt3) (trodAll_cons_mk (Below.trod tableOwnLaidOut (by kernel_rfl) (of_decide_eq_true (by kernel_rfl)) h4 bel lt4) (trodAll_cons_mk (Below.trod tableOwnLaidOut (by kernel_rfl) (of_decide_eq_true (by kernel_rfl)) h5 bel lt5) (trodAll_cons_mk (Below.trod tableOwnLaidOut (by kernel_rfl) (of_decide_eq_true (by kernel_rfl)) h6 bel lt6) trodAll_mk0))))))), rfl, bel.frame _, fun h => by cases h⟩

set_option maxRecDepth 100000 in
theorem tableOwnLifted (os : Os) (started : os.Started) (H : Type) (enc : TypeId × Value → H) (F : Stop.Interp) :
    ReturnsInHanded {} Try.checked os 4 .any ((Rows.OpenSpec.upto Rows.tableOwnSpec).pre6 enc Try.prog Try.f4 Rows.tableOwnUptoRow.domain false) (((Rows.OpenSpec.upto Rows.tableOwnSpec).at F).post enc Try.prog Try.f4 false true false false) := by
  refine returnsInHanded_of_cond (C := Try.checked) (s := Rows.OpenSpec.upto Rows.tableOwnSpec) (k := Rows.uptoSmall) rfl tableOwnOwn started (by kernel_rfl) Try.func4
    (OpenSpec.witness (enc := enc) (C := Try.checked) (s := Rows.OpenSpec.upto Rows.tableOwnSpec) (k := Rows.uptoSmall) rfl false ⟨#[], #[.agg #[.bool false, .slice none 0 0, .bool false, .slice none 0 0, .bool false, .slice none 0 0, .bool false, .slice none 0 0, .bool false, .slice none 0 0, .bool false, .slice none 0 0, .bool false, .slice none 0 0, .bool false, .slice none 0 0], .int .i64 0, .agg #[.bool false, .bool false, .int .i64 0, .int .i64 0, .bool false, .bool false, .bool false], .slice none 0 0, .agg #[.int .i64 0, .int .i64 0], .slice none 0 0, .agg #[.int .i64 0, .int .i64 0, .int .i64 0]], []⟩ 8 (by kernel_rfl) (by kernel_rfl) (by kernel_rfl)
      (x := ([.agg [.agg [.lit (.bool false), .nil], .agg [.lit (.bool false), .nil], .agg [.lit (.bool false), .nil], .agg [.lit (.bool false), .nil], .agg [.lit (.bool false), .nil], .agg [.lit (.bool false), .nil], .agg [.lit (.bool false), .nil], .agg [.lit (.bool false), .nil]], .lit (.int .i64 0), .agg [.lit (.bool false), .lit (.bool false), .lit (.int .i64 0), .lit (.int .i64 0), .lit (.bool false), .lit (.bool false), .lit (.bool false)], .nil, .agg [.lit (.int .i64 0), .lit (.int .i64 0)], .nil, .agg [.lit (.int .i64 0), .lit (.int .i64 0), .lit (.int .i64 0)]], [], [])) (by kernel_rfl) rfl (by kernel_rfl)) ?_
  intro W base args ds gs before hval hW _ hk _
  exact tableOwnContract H enc W base args ds gs before hval hW hk

theorem tableOwnOver : Rows.tableOwnUptoRow.holds Try.pinned (Rows.OpenSpec.upto Rows.tableOwnSpec) :=
  OpenClaim.holds_of_cond 4 Try.f4 rfl rfl rfl rfl rfl rfl rfl ⟨rfl, rfl, rfl, rfl, rfl⟩ rfl rfl rfl rfl rfl (by kernel_rfl) Try.func4 (by kernel_rfl)
    (of_decide_eq_true (by kernel_rfl)) (by unfold Func.isWrapper; first | (rw [if_pos (by decide +kernel)]; kernel_rfl) | (rw [if_neg (by decide +kernel)]; exact ⟨rfl, rfl⟩))
    (fun os started H enc _ F => tableOwnLifted os started H enc F)

theorem tableOwn_proved : Rows.TableOwnUptoSaid := tableOwnOver
#print axioms tableOwn_proved
end Go.Proofs.Ytebpjfdbjhodiaa
