/- Package space: other objects stay. -/
import Derived.Test.YtegjbfcgbfnldabSmG
namespace Go.Proofs.Ytegjbfcgbfnldab
open Go.AI
set_option linter.unusedSimpArgs false
set_option linter.unusedVariables false
def K6 (H H' : Heap) : Prop := ∀ (i : Nat) (rows : List Row), H[i]? = some (some (6, rows)) → H'[i]? = some (some (6, rows))
theorem K6.refl (H : Heap) : K6 H H := fun _ _ h => h
theorem K6.trans {A B C : Heap} (a : K6 A B) (b : K6 B C) : K6 A C := fun i r h => b i r (a i r h)
theorem K6.app {H K : Heap} : K6 H (H ++ K) := fun i r h => by rw [List.getElem?_append_left (List.getElem?_eq_some_iff.1 h).1, h]
theorem K6.wr {H0 H : Heap} {mid : Nat} {L' : Lo} (a : K6 H0 H) (hc : ∀ i rows, H0[i]? = some (some (6, rows)) → L'.cell mid i = none) : K6 H0 (Go.Proofs.Ytegjbfcgbfnldab.wr H mid L') := fun i r h => by rw [wr_ne (hc i r h), a i r h]
theorem K6.set {H0 H : Heap} {j : Nat} {o : Option (Nat × List Row)} (a : K6 H0 H) (hj : ∀ rows, H0[j]? ≠ some (some (6, rows))) : K6 H0 (H.set j o) := fun i r h => by
  rw [List.getElem?_set_ne, a i r h]
  rintro rfl
  exact hj r h
theorem free6 {H : Heap} {mid : Nat} {A : Ab} (h : RG mid (H, A)) : ∀ i rows, H[i]? = some (some (6, rows)) → A.lo.cell mid i = none := fun i rows hi =>
  h.1.st.free hi (fun e => by cases e) (fun e => by cases e) (fun e => by cases e)
theorem map6 {H : Heap} {mid : Nat} {A : Ab} (h : RG mid (H, A)) {s : Int} {m : Nat} {es : En} (hg : getK s A.sps = some (m, es)) : ∀ rows, H[m]? ≠ some (some (6, rows)) := fun rows hi => by
  have := h.1.en _ (getK_mem hg)
  simp only at this
  rw [hi] at this; cases this
theorem sid6 {H : Heap} {mid : Nat} {A : Ab} (h : RG mid (H, A)) : ∀ rows, H[A.lo.sid]? ≠ some (some (6, rows)) := fun rows hi => by
  have := h.1.sp
  simp only at this
  rw [hi] at this; cases this
theorem pg6 {H : Heap} {mid p : Nat} {A : Ab} {q : Pg} (h : RG mid (H, A)) (hq : getK p A.lo.pgs = some q) : ∀ rows, H[p]? ≠ some (some (6, rows)) := fun rows hi => by
  have := (h.1.st.pg hq).1
  simp only at this
  rw [hi] at this; cases this
theorem like6 {H : Heap} {mid : Nat} {A : Ab} {L' : Lo} (h : RG mid (H, A)) (a : Like A.lo L') (K : Heap) : K6 H (wr (H ++ K) mid L') := K6.app.wr fun i r hi => a.none (free6 h i r hi)
theorem k6_make {H H' : Heap} {mid : Nat} {A : Ab} (h : RG mid (H, A)) {r : AVal} (hr : makeM [.ptr mid 5 0 0] H = some (r, H')) : K6 H H' := by
  have hmp : mpAt H A.lo.sid = some (A.sps.map fun x : Int × (Nat × En) => (x.1, x.2.1)) := mpAt_iff.2 ⟨by rw [h.1.sp, List.map_map]; rfl, by rw [List.map_map]; exact h.1.nds⟩
  have hev : makeM [.ptr mid 5 0 0] H = some (makeR H A.lo.sid (A.sps.map fun x : Int × (Nat × En) => (x.1, x.2.1))) := by
    simp only [makeM, stAt_iff.2 h.1.st, Option.bind_some, hmp, Option.map_some]
  rw [hev] at hr
  unfold makeR at hr
  split at hr
  · cases hr; exact K6.refl _
  · simp only [Option.some.injEq, Prod.mk.injEq] at hr
    obtain ⟨_, rfl⟩ := hr
    exact K6.app.set (sid6 h)
theorem k6_fork {H H' : Heap} {mid : Nat} {A : Ab} (h : RG mid (H, A)) {s : Int} {r : AVal} (hr : forkM [.ptr mid 5 0 0, .v (.int .i64 s)] H = some (r, H')) : K6 H H' := by
  simp only [forkM, rg_at h, Option.map_some, Option.some.injEq] at hr
  unfold forkR at hr
  split at hr
  · cases hr; exact K6.refl _
  · split at hr
    · cases hr; exact K6.refl _
    · simp only [Prod.mk.injEq] at hr
      obtain ⟨_, rfl⟩ := hr
      exact (((K6.refl H).set (sid6 h)).trans K6.app).wr fun i r hi => Less.up i (free6 h i r hi)
theorem k6_drop {H H' : Heap} {mid : Nat} {A : Ab} (h : RG mid (H, A)) {s : Int} {r : AVal} (hr : dropM [.ptr mid 5 0 0, .v (.int .i64 s)] H = some (r, H')) : K6 H H' := by
  simp only [dropM, rg_at h, Option.map_some, Option.some.injEq] at hr
  unfold dropR at hr
  cases hg : getK s A.sps with
  | none => rw [hg] at hr; cases hr; exact K6.refl _
  | some x =>
    obtain ⟨m, es⟩ := x
    rw [hg] at hr
    simp only [Prod.mk.injEq] at hr
    obtain ⟨_, rfl⟩ := hr
    have k1 : K6 H (killH H mid A.lo (A.lo.dn fun p => cntE p es)) := fun i r hi => by
      rw [killH_get (List.getElem?_eq_some_iff.1 hi).1, free6 h i r hi]
      simpa using hi
    exact (((k1.set (map6 h hg)).set (sid6 h)).trans K6.app).wr fun i r hi => Less.dn i (free6 h i r hi)
theorem k6_putS {mid mp : Nat} {k rg : Int} {d : List Int} {x : Ms} {H : Heap} (a : K6 H x.H) (hf : ∀ p ∈ x.L.pgs.map (·.1), p < x.H.length) (hm : ∀ rows, H[mp]? ≠ some (some (6, rows))) (hc : ∀ i rows, H[i]? = some (some (6, rows)) → x.L.cell mid i = none) :
    K6 H (putS mid mp k d rg x).H ∧ ∀ i rows, H[i]? = some (some (6, rows)) → (putS mid mp k d rg x).L.cell mid i = none := by
  have hc2 : ∀ i rows, H[i]? = some (some (6, rows)) → (x.L.addL x.H.length d).cell mid i = none := fun i rows hi => addL_cell hf (List.getElem?_eq_some_iff.1 (a i rows hi)).1 (hc i rows hi)
  refine ⟨?_, hc2⟩
  have k1 : K6 H (x.L.addH x.H d) := fun i r hi => by rw [addH_get (List.getElem?_eq_some_iff.1 (a i r hi)).1 (hc i r hi), a i r hi]
  exact (k1.wr hc2).set hm
theorem k6_map {H H' : Heap} {mid : Nat} {A : Ab} (h : RG mid (H, A)) {s first n rights : Int} {r : AVal} (hr : mapM [.ptr mid 5 0 0, .v (.int .i64 s), .v (.int .i64 first), .v (.int .i64 n), .v (.int .i64 rights)] H = some (r, H')) : K6 H H' := by
  simp only [mapM, rg_at h, Option.map_some, Option.some.injEq] at hr
  unfold mapR at hr
  split at hr
  · cases hr; exact K6.refl _
  rename_i hsp
  cases hg : getK s A.sps with
  | none => unfold spanE at hsp; rw [hg] at hsp; simp at hsp
  | some x =>
    obtain ⟨m, es⟩ := x
    rw [hg] at hr
    simp only at hr
    split at hr
    · simp only [Prod.mk.injEq] at hr
      obtain ⟨_, rfl⟩ := hr
      exact K6.app
    · rename_i hhit
      split at hr
      case isFalse =>
        simp only [Prod.mk.injEq] at hr
        obtain ⟨_, rfl⟩ := hr
        exact K6.app
      rename_i hroom
      have hb : ¬ spanBad first n rights := fun hb => by
        unfold spanE at hsp
        rw [hg] at hsp
        simp only at hsp
        rw [if_pos hb] at hsp
        simp at hsp
      unfold spanBad at hb
      obtain ⟨N, rfl⟩ := Int.eq_ofNat_of_zero_le (show 0 ≤ n by omega)
      simp only [Int.toNat_natCast] at hr hhit
      have hno : ∀ i : Nat, i < N → getK (first + (i : Nat)) es = none := fun i hi => by
        cases e : getK (first + (i : Nat)) es with
        | none => rfl
        | some y =>
          exfalso
          apply hhit
          unfold hitB
          rw [List.any_eq_true]
          exact ⟨i, List.mem_range.2 hi, by rw [e]; rfl⟩
      have hst : stS m s A ⟨H ++ List.replicate N none, A.lo, es⟩ = A := by
        unfold stS
        rw [setK_self h.1.nds hg]
      have hx : RG mid ((⟨H ++ List.replicate N none, A.lo, es⟩ : Ms).H, stS m s A ⟨H ++ List.replicate N none, A.lo, es⟩) := by
        rw [hst]; exact rg_app h
      have hsx : ∀ j, j ≤ N → RG mid ((mapS mid m first rights ⟨H ++ List.replicate N none, A.lo, es⟩ j).H, stS m s A (mapS mid m first rights ⟨H ++ List.replicate N none, A.lo, es⟩ j)) := fun j hj =>
        (mapS_spec (rg := rights) (first := first) hx ⟨_, hg⟩ (by omega) (by omega) j (by omega) (by simp only; omega) (fun i hi => hno i (by omega))).1
      simp only [Prod.mk.injEq] at hr
      obtain ⟨_, rfl⟩ := hr
      have key : ∀ j, j ≤ N → K6 H (mapS mid m first rights ⟨H ++ List.replicate N none, A.lo, es⟩ j).H ∧ ∀ i rows, H[i]? = some (some (6, rows)) → (mapS mid m first rights ⟨H ++ List.replicate N none, A.lo, es⟩ j).L.cell mid i = none := by
        intro j
        induction j with
        | zero => exact fun _ => ⟨K6.app, free6 h⟩
        | succ j ih =>
          intro hj
          obtain ⟨k1, k2⟩ := ih (by omega)
          have hrg := hsx j (by omega)
          exact k6_putS k1 (fun p => hrg.1.st.id_lt) (map6 h hg) k2
      exact (key N (Nat.le_refl _)).1
theorem k6_put {H : Heap} {mid : Nat} {A : Ab} (h : RG mid (H, A)) {s at_ rights : Int} {d : List Int} {r : AVal} {H' : Heap} (hr : putR1 H mid A s at_ rights d = (r, H')) : K6 H H' := by
  unfold putR1 at hr
  split at hr
  · cases hr; exact K6.refl _
  cases hg : getK s A.sps with
  | none => rw [hg] at hr; cases hr; exact K6.refl _
  | some x =>
    obtain ⟨m, es⟩ := x
    rw [hg] at hr
    simp only at hr
    split at hr
    · cases hr; exact K6.refl _
    · split at hr
      · cases hr; exact K6.app
      · split at hr
        · simp only [Prod.mk.injEq] at hr
          obtain ⟨_, rfl⟩ := hr
          exact (k6_putS (x := ⟨H ++ [some (2, [boxE none]), some (1, yRow (pad d))], A.lo, es⟩) K6.app (fun p hp => by have := h.1.st.id_lt hp; simp only at this; simp; omega) (map6 h hg) (free6 h)).1
        · cases hr; exact K6.app
theorem k6_unX {mid : Nat} {s k : Int} {X : Heap × Ab} (h : RG mid X) : K6 X.1 (unX mid s k X).1 := by
  unfold unX
  cases hg : getK s X.2.sps with
  | none => exact K6.refl _
  | some x =>
    obtain ⟨m, es⟩ := x
    simp only
    cases hk : getK k es with
    | none => exact K6.app
    | some y =>
      obtain ⟨p, rg⟩ := y
      simp only
      obtain ⟨q, hq⟩ := h.2.page hg hk
      rw [hq]
      simp only
      have k1 : K6 X.1 (letB (X.1 ++ [some (2, [boxE (some (p, rg))])]) p q) := fun i r hi => by
        have hil := (List.getElem?_eq_some_iff.1 hi).1
        rw [letB_get (by simp; omega) (by rintro rfl; exact pg6 h hq r hi), List.getElem?_append_left hil, hi]
      exact (k1.wr fun i r hi => Less.letP i (free6 h i r hi)).set (map6 h hg)
theorem k6_unmap {H H' : Heap} {mid : Nat} {A : Ab} (h : RG mid (H, A)) {s first n : Int} {r : AVal} (hr : unmapM [.ptr mid 5 0 0, .v (.int .i64 s), .v (.int .i64 first), .v (.int .i64 n)] H = some (r, H')) : K6 H H' := by
  simp only [unmapM, rg_at h, Option.map_some, Option.some.injEq, unmapR, Prod.mk.injEq] at hr
  obtain ⟨_, rfl⟩ := hr
  split
  · exact K6.refl _
  · have key : ∀ j, K6 H (unmapX mid s first (H, A) j).1 := by
      intro j
      induction j with
      | zero => exact K6.refl _
      | succ j ih => exact ih.trans (k6_unX (unmapX_rg h j))
    exact key _
theorem k6_copyX {mid : Nat} {s k : Int} {X : Heap × Ab} (h : RG mid X) : K6 X.1 (copyX mid s k X).1 := by
  unfold copyX
  cases hg : getK s X.2.sps with
  | none => exact K6.refl _
  | some x =>
    obtain ⟨m, es⟩ := x
    simp only
    cases hk : getK k es with
    | none => exact K6.refl _
    | some y =>
      obtain ⟨p, rg⟩ := y
      simp only
      obtain ⟨q, hq⟩ := h.2.page hg hk
      rw [hq]
      simp only
      split
      case isFalse => exact K6.app
      intro i rows hi
      have hil := (List.getElem?_eq_some_iff.1 hi).1
      have hc := free6 h i rows hi
      have hc1 : (X.2.lo.setP p (lessU q)).cell mid i = none := Less.setP i hc
      have hst : ∀ x ∈ (X.2.lo.setP p (lessU q)).pgs.map (·.1), x < X.1.length + 1 := fun x hx => by simp only [Lo.setP, setK_keys] at hx; have := h.1.st.id_lt hx; omega
      have hc2 := addL_cell (d := q.data) hst (show i < X.1.length + 1 by omega) hc1
      have him : m ≠ i := by
        rintro rfl
        exact map6 h hg rows hi
      have hip : p ≠ i := by
        rintro rfl
        exact pg6 h hq rows hi
      rw [List.getElem?_set_ne him, List.getElem?_set_ne (by omega), wr_ne hc2, addH_get (mid := mid) (by simp; omega) hc1, List.getElem?_append_left (by simpa using hil), List.getElem?_set_ne hip, hi]
theorem k6_putX {mid : Nat} {s k b : Int} {t : Nat} {X : Heap × Ab} (h : RG mid X) : K6 X.1 (putX mid s k t b X).1 := by
  unfold putX
  cases hg : getK s X.2.sps with
  | none => exact K6.refl _
  | some x =>
    obtain ⟨m, es⟩ := x
    simp only
    cases hk : getK k es with
    | none => exact K6.refl _
    | some y =>
      obtain ⟨p, rg⟩ := y
      simp only
      obtain ⟨q, hq⟩ := h.2.page hg hk
      rw [hq]
      simp only
      have lk : Like X.2.lo (X.2.lo.ask p q) := Like.ask hq
      obtain ⟨q', hq', _⟩ := lk.dt p q hq
      rw [hq']
      simp only
      exact ((K6.refl _).wr fun i r hi => lk.none (free6 h i r hi)).set (pg6 h hq)
theorem k6_write {H H' : Heap} {mid : Nat} {A : Ab} (h : RG mid (H, A)) {s addr : Int} {d : List Int} {r : AVal} (hw : IntKind.i64.wrap addr = addr) (hr : writeR H mid A s addr d = (r, H')) : K6 H H' := by
  unfold writeR at hr
  cases hg : getK s A.sps with
  | none => rw [hg] at hr; cases hr; exact K6.refl _
  | some x =>
    obtain ⟨m, es⟩ := x
    rw [hg] at hr
    simp only at hr
    split at hr
    · cases hr; exact K6.refl _
    · rename_i hlen
      split at hr
      · rename_i hmay
        have hsp := may_span (es := es) (n := (d.length : Int)) (by omega) hw hmay
        have hr1 : RG mid (H ++ List.replicate (mayR es 2 addr d.length).2 none, A) := rg_app h
        have hk1 : K6 H (H ++ List.replicate (mayR es 2 addr d.length).2 none) := K6.app
        refine hk1.trans ?_
        generalize H ++ List.replicate (mayR es 2 addr d.length).2 none = G at *
        unfold layR at hr
        rw [hg] at hr
        simp only at hr
        split at hr
        · rename_i hroom
          simp only [Prod.mk.injEq] at hr
          obtain ⟨_, rfl⟩ := hr
          by_cases h0 : d.length = 0
          · rw [h0]; exact K6.refl _
          · have hk3 : 0 ≤ addr := by
              rcases hsp with ⟨h1, _⟩ | ⟨_, _, k3, _⟩ <;> omega
            have hI := lay_inv0 hr1 hg hsp hroom h0
            have key : ∀ j, j ≤ d.length → K6 G (layN mid s addr d (G, A) j).1 := by
              intro j
              induction j with
              | zero => exact fun _ => K6.refl _
              | succ j ih =>
                intro hj
                have ik := layN_inv (d := d) hI hk3 j (by omega)
                have hc := ik.copy hk3 (by omega)
                exact ((ih (by omega)).trans (k6_copyX ik.rg)).trans (k6_putX hc)
            exact key _ (Nat.le_refl _)
        · cases hr; exact K6.refl _
      · cases hr; exact K6.app
theorem k6_read {H H' : Heap} {mid : Nat} {A : Ab} (h : RG mid (H, A)) {s addr n : Int} {r : AVal} (hr : readM [.ptr mid 5 0 0, .v (.int .i64 s), .v (.int .i64 addr), .v (.int .i64 n)] H = some (r, H')) : K6 H H' := by
  simp only [readM, rg_at h, Option.bind_some] at hr
  split at hr
  case isFalse => cases hr
  simp only [Option.some.injEq] at hr
  unfold readR at hr
  split at hr
  · cases hr; exact K6.refl _
  · split at hr
    · cases hr; exact K6.refl _
    · split at hr
      · simp only [Prod.mk.injEq] at hr
        obtain ⟨_, rfl⟩ := hr
        exact (like6 h (Like.fetch _ _ _ _) _).trans K6.app
      · cases hr; exact K6.app
theorem k6_rec {H H' : Heap} {mid : Nat} {A : Ab} (h : RG mid (H, A)) {n : Int} {r : AVal} (hr : recM [.ptr mid 5 0 0, .v (.int .i64 n)] H = some (r, H')) : K6 H H' := by
  obtain ⟨k, H2, L2, h1, lk, _, _, _, h6⟩ := rec_ev h (n := n)
  rw [h1] at hr
  cases hr
  rw [h6]
  exact (K6.refl H).wr fun i r hi => lk.none (free6 h i r hi)
theorem k6_prot {H H' : Heap} {mid : Nat} {A : Ab} (h : RG mid (H, A)) {s first n rights : Int} {r : AVal} (hr : protM [.ptr mid 5 0 0, .v (.int .i64 s), .v (.int .i64 first), .v (.int .i64 n), .v (.int .i64 rights)] H = some (r, H')) : K6 H H' := by
  simp only [protM, rg_at h, Option.map_some, Option.some.injEq] at hr
  unfold protR at hr
  split at hr
  · cases hr; exact K6.refl _
  cases hg : getK s A.sps with
  | none => rw [hg] at hr; cases hr; exact K6.refl _
  | some x =>
    obtain ⟨m, es⟩ := x
    rw [hg] at hr
    simp only at hr
    split at hr
    · cases hr; exact K6.app
    · simp only [Prod.mk.injEq] at hr
      obtain ⟨_, rfl⟩ := hr
      exact K6.app.set (map6 h hg)
theorem k6_doX {H H' : Heap} {mid : Nat} {A : Ab} (h : RG mid (H, A)) {k s p n a : Int} {x : AVal} {d : List Int} {r : AVal} (hw : IntKind.i64.wrap a = a) (hd : bytesAt H x = some d) (hx : apart A mid x) (hr : doX mid k s p n a x H = some (r, H')) : K6 H H' := by
  unfold doX at hr
  split at hr
  · exact k6_make h hr
  split at hr
  · exact k6_fork h hr
  split at hr
  · exact k6_drop h hr
  split at hr
  · exact k6_map h hr
  split at hr
  · exact k6_unmap h hr
  split at hr
  · simp only [putM, rg_at h, hd, Option.bind_some, Option.map_some, Option.some.injEq] at hr
    exact k6_put h hr
  split at hr
  · rw [write_eval (rg_at h) hd hw hx] at hr
    exact k6_write h hw (Option.some.inj hr)
  split at hr
  · exact k6_read h hr
  split at hr
  · exact k6_rec h hr
  split at hr
  · exact k6_prot h hr
  · cases hr; exact K6.refl _
theorem k6_row {H H' : Heap} {mid : Nat} {A : Ab} (h : RG mid (H, A)) (x : Dd) (hw : IntKind.i64.wrap x.addr = x.addr) {r : AVal} (hr : doM [.ptr mid 5 0 0, .agg x.row] H = some (r, H')) : K6 H H' := by
  unfold doM at hr
  simp only [Dd.row] at hr
  simp only [Option.map_eq_some_iff] at hr
  obtain ⟨⟨r0, H0⟩, h1, h2⟩ := hr
  cases h2
  have hd : bytesAt (H ++ [some (6, [Dd.row x])]) (.fsl false 1 (x.data.map (irow .u8))) = some x.data := bytes_irow x.data
  exact (K6.app (K := [some (6, [Dd.row x])])).trans (k6_doX (rg_app h) hw hd trivial h1)
theorem k6_begX {H : Heap} {mid : Nat} {l : List Dd} (hg : goodL l) {A : Ab} (h : RG mid (H, A)) : ∀ k, k ≤ l.length → K6 H (begX mid l H k)
  | 0, _ => K6.refl _
  | k + 1, hk => by
    have ih := k6_begX hg h k (by omega)
    obtain ⟨A1, h1, _⟩ := begX_rg hg h k (by omega)
    obtain ⟨e1, e2, _⟩ := begX_step hg (by omega) h1
    by_cases hk4 : k < 40
    · have h3 := k6_row (rg_app (K := [some (6, [l[k].row])]) h1) l[k] (hg.2 _ (List.getElem_mem (by omega))) (e1 hk4)
      exact (ih.trans (K6.app (K := [some (6, [l[k].row])]))).trans h3
    · rw [e2 hk4]
      exact ih.trans K6.app
theorem begun_evH {H : Heap} {f s : Int} {l : List Dd} (hg : goodL l) : begM [.v (.int .i64 f), .v (.int .i64 s), .fsl false 6 (l.map Dd.row)] H = some (.v (.pointer none), H) ∨
    ∃ G A, begM [.v (.int .i64 f), .v (.int .i64 s), .fsl false 6 (l.map Dd.row)] H = some (.ptr (H.length + 1) 5 0 0, G) ∧ RG (H.length + 1) (G, A) ∧ K6 H G := by
  rw [begM_at hg]
  unfold begR
  by_cases hb : newB f s
  · rw [if_pos hb]; exact .inl rfl
  · rw [if_neg hb]
    obtain ⟨A, h1, h2, h3⟩ := begX_rg hg (new_rep (H := H) hb) l.length (Nat.le_refl _)
    exact .inr ⟨_, A, rfl, h1, K6.app.trans (k6_begX hg (new_rep (H := H) hb) l.length (Nat.le_refl _))⟩
end Go.Proofs.Ytegjbfcgbfnldab
