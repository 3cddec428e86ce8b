/- Ask: its frames, and runs of the law's code. -/
import Derived.Test.YtdakclpneghkmaaGreatDoorWA
namespace Go.Proofs.GD
set_option linter.unusedSectionVars false
variable [Go.AI.Sym]
open Go Go.AI Go.RowKit
set_option maxRecDepth 100000
def zi : AVal := .v (.int .i64 0)
def zs : AVal := .v (.slice none 0 0)
def callR (num : Int) (p o : AVal) : Row := [.v (.int .i64 num), zi, zi, zi, p, o, zs]
def emS : AVal := .v (.string ⟨#[]⟩)
def ansR : Row := [zi, zi, zi, zs, zs, zi, zi, zi, zi, zi, zi]
def taskR : Row := [zi, zi, zi, zi, zi, zi, zi, zi, zi, zi, zi, zi, zi, zi, zi, zi, zi, zi]
def bW (num : Int) (p : AVal) (i : Nat) : LO :=
 bif Nat.beq i 0 then .ls 1 [[.ptr 1532 655 0 0]] else bif Nat.beq i 1 then .ls 1 [[.v (.int .i64 1)]]
 else bif Nat.beq i 2 || Nat.beq i 11 || Nat.beq i 13 then .ls 7 [callR num p emS]
 else bif Nat.beq i 3 || Nat.beq i 9 || Nat.beq i 10 || Nat.beq i 12 || Nat.beq i 14 then .ls 11 [ansR]
 else bif Nat.beq i 15 then .ls 6 [[zi, zi, zi, zi, zi, zi]] else .ls 18 [taskR]
theorem bW_ok {num : Int} {k : Nat} : Bl 2822 (bW num (.str k)) := by
 constructor <;> intro i <;> unfold bW <;> (cases Nat.beq i 0 <;> cases Nat.beq i 1 <;> cases Nat.beq i 2 || Nat.beq i 11 || Nat.beq i 13 <;> cases Nat.beq i 3 || Nat.beq i 9 || Nat.beq i 10 || Nat.beq i 12 || Nat.beq i 14 <;> cases Nat.beq i 15 <;> rfl)
noncomputable def catE (num : Int) (k : Nat) (e : Int) : FuncId → Sp := fun f => cond (Nat.beq f 173) (.snap (waA (.str k)) 2822 (SC (bW num (.str k))) (errA e) 2822 (SC (bW num (.str k)))) (cat4 f)
noncomputable def catO (num : Int) (k : Nat) : FuncId → Sp := fun f => cond (Nat.beq f 173) (.snap (waA (.str k)) 2822 (SC (bW num (.str k))) (.tup [.osl 2828 1 0 1 1, .v (.int .i64 0)]) 2829 (addB S7 (bW num (.str k)))) (cat4 f)
def chA (p : AVal) : Row := [.ptr 1532 655 0 0, .v (.int .i64 1), .agg [.v (.int .i64 33), zi, zi, zi, p, emS, zs]]
noncomputable def obsQ (x : RT) (e : Nat) (l : LS) (kk : List Nat) : Option Env := match endN x with
 | some (e', ρ, T) => cond (Nat.beq e' e) (cond (checkLS T l) (some (kk.map fun k => (k, AI.look ρ k))) none) none
 | none => none
theorem partQ {cat : FuncId → Sp} (hT : TabV Tryz.prog tab4 cat) {c : Code} {ρ ρ' : Env} {e : Nat} {l l' : LS} {mv : List (Nat × Nat)} {kk : List Nat} (h0 : okLS 2806 l = true) (hmv : keyB 2806 mv = true) (ok : okLS 2806 l' = true) (low : lowM 2806 l' = true)
  (hx : obsQ (run5c cat c ρ (mkT 2806 l)) e (l'.map (mvP (gOf mv))) kk = some ρ') (hρ : ∀ p ∈ ρ', mvA (gOf mv) p.2 = p.2 ∧ lowA 2806 p.2 = true) :
  AWp Tryz.prog 75 0 c (fun ex ρ2 H2 => exN ex = e ∧ Ent 0 (ρ', mkH 2806 l') (ρ2, H2)) ρ (mkH 2806 l) := by
 have hm : Tryz.prog.follows .mixedOrders = true := by kernel_rfl
 unfold obsQ at hx
 split at hx
 case h_2 => cases hx
 rename_i e' ρ2 T he
 obtain ⟨h1, h2⟩ := condW hx
 obtain ⟨h3, h4⟩ := condW h2
 obtain ⟨ex, q1, q2⟩ := endN_res he
 simp only [Option.some.injEq] at h4
 subst h4
 obtain ⟨H', r1, r2⟩ := runT_sound (n0 := 0) hT hm (mkT_R h0) q1
 refine r2.ofX ⟨q2.trans (Nat.eq_of_beq_eq_true h1), ent_move hmv ok low (fun p hp => ?_) (fun p hp => ?_)⟩
 ·obtain ⟨a1, a2⟩ := hρ p hp
  refine ⟨?_, a2⟩
  rw [a1]
  obtain ⟨k, _, rfl⟩ := List.mem_map.1 hp
  rfl
 ·have := checkLS_at r1 h3 (mvP (gOf mv) p) (List.mem_map.2 ⟨p, hp, rfl⟩)
  exact this
theorem entQ {n : Nat} {l' : LS} {mv : List (Nat × Nat)} {ρ : Env} (hmv : keyB 2806 mv = true) (ok : okLS 2806 l' = true) (low : lowM 2806 l' = true) (okn : okLS n (l'.map (mvP (gOf mv))) = true) (nd : ((l'.map (mvP (gOf mv))).map Prod.fst).Nodup)
  (hρ : ∀ p ∈ ρ, mvA (gOf mv) p.2 = p.2 ∧ lowA 2806 p.2 = true ∧ AI.look ρ p.1 = p.2) : Ent 0 (ρ, mkH 2806 l') (ρ, mkH n (l'.map (mvP (gOf mv)))) := by
 refine ent_move hmv ok low (fun p hp => ?_) (fun p hp => ?_)
 ·obtain ⟨a1, a2, a3⟩ := hρ p hp
  exact ⟨by rw [a1, a3], a2⟩
 ·exact mkH_at nd okn (p := mvP (gOf mv) p) (List.mem_map.2 ⟨p, hp, rfl⟩)
noncomputable def rQ : Code := sndC rB3
def mvC0 : List (Nat × Nat) := [(2804, 2828)]
theorem ch_0 : obsJ (execT Tryz.prog tab4 (catO 33 16) live 5000 60 8 (chA (.str 16)) (mkT 2806 SA)) 2841 (SA.map (mvP (gOf mvC0))) = true := by kernel_rfl
theorem ch_2 : obsJ (execT Tryz.prog tab4 (catE 33 18 2) live 5000 60 8 (chA (.str 18)) (mkT 2806 SA)) 2824 SA = true := by kernel_rfl
theorem ch_3 : obsJ (execT Tryz.prog tab4 (catE 33 19 3) live 5000 60 8 (chA (.str 19)) (mkT 2806 SA)) 2824 SA = true := by kernel_rfl
theorem ch_4 : obsJ (execT Tryz.prog tab4 (catE 33 20 4) live 5000 60 8 (chA (.str 20)) (mkT 2806 SA)) 2824 SA = true := by kernel_rfl
def qE (k w a b c d e f : AVal) : Env := [(3, k), (9, w), (37, a), (38, b), (39, c), (54, d), (55, e), (56, f)]
def kP : AVal := .ptr 1532 655 0 0
def kQ : List Nat := [3, 37, 38, 39, 54, 55, 56]
def qR (k a b c d e f : AVal) : Env := [(3, k), (37, a), (38, b), (39, c), (54, d), (55, e), (56, f)]
section
variable (a b c d e f : AVal)
theorem st_0 : obsQ (run5c (catO 17 16) rQ (qE kP (.str 16) a b c d e f) (mkT 2806 SA)) 0 (SA.map (mvP (gOf []))) kQ = some (qR kP a b c d e f) := by kernel_rfl
theorem st_2 : obsQ (run5c (catE 17 18 2) rQ (qE kP (.str 18) a b c d e f) (mkT 2806 SA)) 0 (SA.map (mvP (gOf []))) kQ = some (qR kP a b c d e f) := by kernel_rfl
theorem st_3 : obsQ (run5c (catE 17 19 3) rQ (qE kP (.str 19) a b c d e f) (mkT 2806 SA)) 0 (SA.map (mvP (gOf []))) kQ = some (qR kP a b c d e f) := by kernel_rfl
theorem st_4 : obsQ (run5c (catE 17 20 4) rQ (qE kP (.str 20) a b c d e f) (mkT 2806 SA)) 0 (SA.map (mvP (gOf []))) kQ = some (qR kP a b c d e f) := by kernel_rfl
end
end Go.Proofs.GD
/- path.Split at strings with a mark, and at "l". -/
namespace Go.Proofs.GD
set_option linter.unusedSectionVars false
variable [Go.AI.Sym]
open Go Go.AI Go.RowKit
set_option maxRecDepth 100000
def mkE : Nat → Option Int
 | 48 => some 0
 | 50 => some 2
 | 51 => some 3
 | 64 => some 0
 | _ => none
def splO (e : Int) : AVal := .tup [.anyb, .junk, .v (.int .i64 e)]
def splL : AVal := .tup [.v (.bool false), .fsl true 1 [[.v (.string ⟨#[108]⟩)]], .v (.int .i64 0)]
noncomputable def splM (args : Row) (H : Heap) : Option (AVal × Heap) := match args with
 | [.str k] => (mkE k).map fun e => (splO e, H)
 | [.v (.string b)] => cond (beqA (.v (.string b)) (.v (.string elB))) (some (splL, H)) none
 | _ => none
noncomputable def splT (args : Row) (T : TH) : Option (AVal × TH) := match args with
 | [.str k] => match mkE k with
  | some e => some (splO e, T)
  | none => none
 | [.v (.string b)] => cond (beqA (.v (.string b)) (.v (.string elB))) (some (splL, T)) none
 | _ => none
theorem spl_sim (args : Row) (T : TH) (H : Heap) (h : TR T H) : SimO (splT args T) (splM args H) := by
 unfold splT splM
 split
 ·rename_i k
  cases mkE k with
  | none => exact SimO.nil
  | some e => exact SimO.one h _
 ·rename_i b
  cases beqA (.v (.string b)) (.v (.string elB)) with
  | false => exact SimO.nil
  | true => exact SimO.one h _
 ·exact SimO.nil
def spE (s : ByteArray) : Int := match splitR s with
 | .v (.tuple #[_, _, .int _ e]) => e
 | _ => 0
structure MarksS : Prop where
 at_ : ∀ k e, mkE k = some e → ∀ x, Sym.P k x → ∃ s, x = .string s ∧ spE s = e
theorem spl_v {β : Nat → Nat} {ok : Bool → Nat → Prop} {w : World} {n : Nat} {s : ByteArray} {v : Value} {β' : Nat → Nat} {ok' : Bool → Nat → Prop} {w' : World} {n' : Nat} (h : R β ok w n (splitR s) v) : R β' ok' w' n' (splO (spE s)) v := by
 rcases split_is s with ⟨e, he, hs⟩ | ⟨b, hs, _⟩ | ⟨b, hs, _⟩
 ·have e1 : spE s = e := by unfold spE; rw [hs]; rfl
  rw [e1]; rw [hs] at h
  have := h.v_inv; subst this
  refine .tup rfl fun j a hj => ?_
  match j, hj with
  | 0, hj => cases hj; exact .anyb
  | 1, hj => cases hj; exact .junk
  | 2, hj => cases hj; exact .v
 ·have e1 : spE s = 0 := by unfold spE; rw [hs]; rfl
  rw [e1]; rw [hs] at h
  have := h.v_inv; subst this
  refine .tup rfl fun j a hj => ?_
  match j, hj with
  | 0, hj => cases hj; exact .anyb
  | 1, hj => cases hj; exact .junk
  | 2, hj => cases hj; exact .v
 ·have e1 : spE s = 0 := by unfold spE; rw [hs]
  rw [e1]; rw [hs] at h
  cases h with
  | tup hl hr =>
   refine .tup (by simpa using hl) fun j a hj => ?_
   match j, hj with
   | 0, hj =>
    cases hj
    have := (hr 0 _ rfl).v_inv
    rw [this]; exact .anyb
   | 1, hj => cases hj; exact .junk
   | 2, hj =>
    cases hj
    have := (hr 2 _ rfl).v_inv
    rw [this]; exact .v
theorem spl_inl (hM : MarksS) : InlOk Tryz.prog 63 splM := by
 intro args H r H' hr base w0 β fz w vals hs hargs
 have one : ∀ {a : AVal}, args = [a] → vals = #[vals[0]?.getD undef] ∧ R β (okOf base fz) w H.length a (vals[0]?.getD undef) := by
  rintro a rfl
  have hs1 : vals.size = 1 := hargs.1
  refine ⟨?_, hargs.2 0 _ rfl⟩
  apply Array.ext
  ·simpa using hs1
  ·intro i h2 h3
   have : i = 0 := by simp at h3; omega
   subst this
   simp [h2]
 have go : ∀ s, vals = #[.string s] → (∀ β0' ok' w' v, R β0' ok' w' 0 (splitR s) v → ∀ ok2, (∀ o b, ok' o b → ok2 o b) → R β ok2 w' H.length r v) → H' = H → CallsX Tryz.prog 63 vals w fun e w' => ∃ v β' fz', e = .returned v ∧ HSim base w0 β' fz' H' w' ∧ Ext H.length β fz w H'.length β' fz' w' ∧ R β' (okOf base fz') w' H'.length r v := by
  rintro s rfl hR rfl
  refine CallsX.of Tryz.func63 rfl ((sp63 [.v (.string s)] (splitR s) (by simp [argM, finM, Cod.plain, cStr, strDec]) w _ (ArgsR.of (vals := [.string s]) rfl (fun j a ha => by
   match j, ha with
   | 0, ha => simp at ha; subst ha; exact .v
   | j + 1, ha => simp at ha))).mono ?_)
  rintro e w' ⟨v, rfl, hb', hv⟩
  obtain ⟨q1, q2⟩ := hs.called hb'
  refine ⟨v, _, _, rfl, q1, q2, hR _ _ _ _ hv _ fun o b hb => ⟨.inr hb, fun _ => ?_⟩⟩
  exact Nat.le_trans (Nat.le_trans hs.base hs.below.size) hb.1
 unfold splM at hr
 split at hr
 ·rename_i k
  simp only [Option.map_eq_some_iff, Prod.mk.injEq] at hr
  obtain ⟨e, he, rfl, rfl⟩ := hr
  obtain ⟨hv, h0⟩ := one rfl
  generalize vals[0]?.getD undef = y at hv h0
  cases h0 with
  | str hP =>
   obtain ⟨s, rfl, hE⟩ := hM.at_ k e he _ hP
   refine go s hv (fun _ _ _ v h _ _ => ?_) rfl
   rw [← hE]
   exact spl_v h
 ·rename_i b
  cases hb : beqA (.v (.string b)) (.v (.string elB)) with
  | false => rw [hb] at hr; cases hr
  | true =>
   rw [hb] at hr
   cases hr
   have := beqA_eq hb
   cases this
   obtain ⟨hv, h0⟩ := one rfl
   rw [h0.v_inv] at hv
   refine go elB hv (fun β0' ok' w' v h ok2 hok => ?_) rfl
   have e : splitR elB = splL := by kernel_rfl
   rw [e] at h
   exact h.mono (Nat.zero_le _) (fun _ h => absurd h (Nat.not_lt_zero _)) hok (fun _ _ _ => rfl) (Shapes.refl w')
 ·cases hr
theorem q63 : tab4.rdf 63 = false := by kernel_rfl
noncomputable def catS : FuncId → Sp := fun g => cond (Nat.beq g 63) (.gen (fun _ => splM) (fun _ _ => splT) (fun _ _ args T H _ h => spl_sim args T H h)) (cat4 g)
theorem hTS (hM : MarksS) : TabV Tryz.prog tab4 catS := hT4.addG q63 fun _ _ => spl_inl hM
def syA (p : AVal) : Row := [.ptr 1532 655 0 0, .v (.int .i64 1), .agg [.v (.int .i64 16), zi, zi, zi, .v (.string ⟨#[108]⟩), p, zs]]
theorem sy_2 : obsJ (execT Tryz.prog tab4 catS live 5000 60 8 (syA (.str 50)) (mkT 2806 SA)) 2850 SA = true := by kernel_rfl
theorem sy_3 : obsJ (execT Tryz.prog tab4 catS live 5000 60 8 (syA (.str 51)) (mkT 2806 SA)) 2850 SA = true := by kernel_rfl
end Go.Proofs.GD
