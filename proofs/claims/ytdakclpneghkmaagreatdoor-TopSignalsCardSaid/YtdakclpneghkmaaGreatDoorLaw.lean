import Derived.Test.YtdakclpneghkmaaGreatDoorCon
import Derived.Test.YtdakclpneghkmaaGreatDoorRun
import Derived.Test.YtdakclpneghkmaaGreatDoorPart
import Derived.Test.YtdakclpneghkmaaGreatDoorKA
import Derived.Test.YtdakclpneghkmaaGreatDoorKB
import Derived.Test.YtdakclpneghkmaaGreatDoorKC
import Derived.Test.YtdakclpneghkmaaGreatDoorKD
namespace Go.Proofs.GD
open Go Go.AI Go.RowKit
set_option maxRecDepth 100000
theorem q27 : tab.rdf 27 = false := by kernel_rfl
theorem q26 : tab.rdf 26 = false := by kernel_rfl
theorem q14 : tab.rdf 14 = false := by kernel_rfl
theorem q6 : tab.rdf 6 = false := by kernel_rfl
theorem s27 : InlOk Tryz.prog 27 (snapM [.ptr 2 4 0 0] newn newl formatr1 formatn formatl) := snap_of hT0 ok1 ok2 c27
theorem hT1 : TabV Tryz.prog tab cat1 := (hT0.add q27 s27).add q26 new_inl
theorem s14 : InlOk Tryz.prog 14 (snapM [.v (.int .i64 256), .v (.slice none 0 0)] 0 [] maker0 maken makel) := snap_of hT1 ok0 ok3 c14
theorem hT2 : TabV Tryz.prog tab cat2 := hT0.add q14 s14
theorem s6 : InlOk Tryz.prog 6 (snapM [] 0 [] startedr0 startedn startedl) := snap_of hT2 ok0 ok4 c6
theorem hT3 : TabV Tryz.prog tab cat3 := hT0.add q6 s6
end Go.Proofs.GD
/- The law's function answers true, at whatever n. -/
namespace Go.Proofs.GD
open Go Go.AI Go.RowKit
set_option maxRecDepth 100000
theorem t_body : Tryz.f3.body = some (.seq tR0 (.seq tR1 (.seq tC2 (.seq tR4 tRest)))) := by kernel_rfl
def ρ1 (n : Int) (b : Bool) : Env := [(4, .v (.bool false)), (0, .v (.int .i64 n)), (1, .v (.bool b))]
def ρ2 (n : Int) (b : Bool) : Env := (7, .v (.bool true)) :: (6, .ptr 2 4 0 0) :: (5, .ptr 1532 655 0 0) :: (16, .v (.bool true)) :: (15, .ptr 2 4 0 0) :: (14, .ptr 1532 655 0 0) :: (12, startedr0) :: (13, startedr0) :: ρ1 n b
def ρ3 (n : Int) (b : Bool) : Env := (18, .v (.bool false)) :: (17, .v (.bool true)) :: ρ2 n b
def ρ4 (n : Int) (b : Bool) : Env := (0, .v (.int .i64 (IntKind.i64.wrap (1 + wi n)))) :: (21, .v (.int .i64 (IntKind.i64.wrap (1 + wi n)))) :: (20, .v (.int .i64 (wi n))) :: (19, .v (.int .i64 n)) :: ρ3 n b
theorem p1 (n : Int) (b : Bool) : run3 tR0 (envOf 0 [.v (.int .i64 n), .v (.bool b)]) ⟨.leaf, 0⟩ = .nm (ρ1 n b) ⟨.leaf, 0⟩ := by kernel_rfl
theorem p2 (n : Int) (b : Bool) : run3 tR1 (ρ1 n b) ⟨.leaf, 0⟩ = .nm (ρ2 n b) (mkT startedn startedl) := by kernel_rfl
theorem p3 (n : Int) (b : Bool) : run3 tC2 (ρ2 n b) (mkT startedn startedl) = .nm (ρ3 n b) (mkT startedn startedl) := by kernel_rfl
theorem p4 (n : Int) (b : Bool) (H : Heap) : execV Tryz.prog (orcN wiX) 103 (live 3) 5000 tR4 0 (ρ3 n b) H = some (.normal, ρ4 n b, H) := by kernel_rfl
theorem and_l {a b : Bool} (h : (a && b) = true) : a = true := by cases a <;> simp_all
theorem and_r {a b : Bool} (h : (a && b) = true) : b = true := by cases a <;> simp_all
theorem all_ok (j : Nat) (h : j < 15) (b : Bool) : okR (j + 1) b = true := by
  have l0 := k0; have l1 := k1; have l2 := k2; have l3 := k3; have l4 := k4; have l5 := k5; have l6 := k6; have l7 := k7
  simp only [Bool.and_eq_true] at l0 l1 l2 l3 l4 l5 l6 l7
  match j, h, b with
  | 0, _, false => exact l0.1.1.1
  | 0, _, true => exact l0.1.1.2
  | 1, _, false => exact l0.1.2
  | 1, _, true => exact l0.2
  | 2, _, false => exact l1.1.1.1
  | 2, _, true => exact l1.1.1.2
  | 3, _, false => exact l1.1.2
  | 3, _, true => exact l1.2
  | 4, _, false => exact l2.1.1.1
  | 4, _, true => exact l2.1.1.2
  | 5, _, false => exact l2.1.2
  | 5, _, true => exact l2.2
  | 6, _, false => exact l3.1.1.1
  | 6, _, true => exact l3.1.1.2
  | 7, _, false => exact l3.1.2
  | 7, _, true => exact l3.2
  | 8, _, false => exact l4.1.1.1
  | 8, _, true => exact l4.1.1.2
  | 9, _, false => exact l4.1.2
  | 9, _, true => exact l4.2
  | 10, _, false => exact l5.1.1.1
  | 10, _, true => exact l5.1.1.2
  | 11, _, false => exact l5.1.2
  | 11, _, true => exact l5.2
  | 12, _, false => exact l6.1.1.1
  | 12, _, true => exact l6.1.1.2
  | 13, _, false => exact l6.1.2
  | 13, _, true => exact l6.2
  | 14, _, false => exact l7.1
  | 14, _, true => exact l7.2
  | j + 15, h, _ => omega
theorem law3 (n : Int) (b : Bool) : AWp Tryz.prog 103 0 (.seq tR0 (.seq tR1 (.seq tC2 (.seq tR4 tRest)))) (retA Tryz.prog Tryz.f3 fun x _ => x = .v (.bool true)) (envOf 0 [.v (.int .i64 n), .v (.bool b)]) [] := by
  have hm : Tryz.prog.follows .mixedOrders = true := by kernel_rfl
  have tr : ∀ {c ρ ρ' T T'}, run3 c ρ T = .nm ρ' T' → toRes (run3 c ρ T) = some (.normal, ρ', T') := fun h => by rw [h]; rfl
  obtain ⟨H1, q1, a1⟩ := runT_sound (n0 := 0) hT3 hm empty_R (tr (p1 n b))
  refine AWp.seqX a1 ?_
  obtain ⟨H2, q2, a2⟩ := runT_sound (n0 := 0) hT3 hm q1 (tr (p2 n b))
  refine AWp.seqX a2 ?_
  obtain ⟨H3, q3, a3⟩ := runT_sound (n0 := 0) hT3 hm q2 (tr (p3 n b))
  refine AWp.seqX a3 ?_
  refine AWp.seqX (execV_sound (orcN_ok wiX_ok) hm tR4 0 _ _ _ (codeRV_true _ _) (p4 n b H3)) ?_
  have hb := wi_bounds n
  obtain ⟨j, hj⟩ : ∃ j : Nat, wi n = (j : Int) := ⟨(wi n).toNat, by omega⟩
  have hj15 : j < 15 := by omega
  have hw : IntKind.i64.wrap (1 + wi n) = Int.ofNat (j + 1) := by
    rw [hj]
    have : ∀ j : Nat, j < 15 → IntKind.i64.wrap (1 + (j : Int)) = Int.ofNat (j + 1) := by decide
    exact this j hj15
  refine AWp.sub (ρ' := ρ5 (j + 1) b) (fun p hp => ?_) ?_
  · simp only [ρ5, List.mem_cons, List.not_mem_nil, or_false] at hp
    rcases hp with rfl | rfl | rfl | rfl
    · show AVal.v (.int .i64 (IntKind.i64.wrap (1 + wi n))) = _
      rw [hw]
    · rfl
    · rfl
    · rfl
  · have hok := all_ok j hj15 b
    unfold okR at hok
    split at hok
    case h_2 => cases hok
    rename_i T' hx
    obtain ⟨H4, _, a4⟩ := endT_sound (n0 := 0) (fn := Tryz.f3) hT3 hm q3 hx
    exact a4.mono (retA_mono fun x H h => h.1)
theorem law_pure : PureOk Tryz.prog 3 fun args => match args with
    | [.v (.int .i64 _), .v (.bool _)] => some (.v (.bool true))
    | _ => none := by
  refine pure_of Tryz.func3 t_body fun args r hr => ?_
  split at hr
  case h_2 => cases hr
  cases hr
  refine ⟨(by decide : 2 ≤ 103), (law3 _ _).mono (retA_mono fun x H h => ?_)⟩
  subst h
  exact ⟨rfl, rfl⟩
#print axioms law_pure
end Go.Proofs.GD
