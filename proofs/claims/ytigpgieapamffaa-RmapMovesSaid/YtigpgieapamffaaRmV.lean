/- Pairs moved to another frame: plain theory. -/
import Derived.Test.YtigpgieapamffaaRmF
import Derived.Test.YtigpgieapamffaaSo
import Derived.Test.YtigpgieapamffaaAiZj
namespace Go.Proofs.Ytigpgieapamffaa
open Go.AI Go.Sort
instance : Inhabited Pr := ⟨⟨0, 0, 0⟩⟩
def mvP (f t : Int) (p : Pr) : Pr := if p.frame = f then ⟨t, p.space, p.page⟩ else p
def cntP (f : Int) (l : List Pr) : Nat := (l.filter (fun x => !(x.frame != f))).length
theorem ordP_swo : SWO (ltOf ordP) where
  irrefl x := by simp only [ltOf, decide_eq_false_iff_not, ordP_lt]; omega
  trans x y z h1 h2 := by simp only [ltOf, decide_eq_true_eq, ordP_lt] at *; omega
  ntrans x y z h1 h2 := by simp only [ltOf, decide_eq_false_iff_not, ordP_lt] at *; omega
def mvL (l : List Pr) (f t : Int) : List Pr := sortL ordP (l.map (mvP f t))
theorem mvL_perm (l : List Pr) (f t : Int) : (mvL l f t).Perm (l.map (mvP f t)) := sortL_perm ordP ordP_swo _
theorem mvL_len (l : List Pr) (f t : Int) : (mvL l f t).length = l.length := by rw [(mvL_perm l f t).length_eq, List.length_map]
theorem mvP_sp (f t : Int) (p : Pr) : (mvP f t p).space = p.space ∧ (mvP f t p).page = p.page := by unfold mvP; split <;> exact ⟨rfl, rfl⟩
theorem neP_sym {a b : Pr} (h : NeP a b) : NeP b a := fun q => h ⟨q.1.symm, q.2.symm⟩
theorem good_mv {l : List Pr} {f t : Int} (g : Good l) (ht : 0 ≤ t ∧ t < 64) : Good (mvL l f t) := by
  have hd : (mvL l f t).Pairwise NeP := by
    refine ((mvL_perm l f t).pairwise_iff neP_sym).2 ?_
    rw [List.pairwise_map]
    refine g.diff.imp (fun {a b} h => ?_)
    unfold NeP
    rw [(mvP_sp f t a).1, (mvP_sp f t a).2, (mvP_sp f t b).1, (mvP_sp f t b).2]
    exact h
  refine ⟨by rw [mvL_len]; exact g.len, fun p hp => ?_, ?_, hd⟩
  · obtain ⟨q, hq, rfl⟩ := List.mem_map.1 ((mvL_perm l f t).mem_iff.1 hp)
    have := Pr.right_iff.1 (g.right q hq)
    rw [Pr.right_iff]
    unfold mvP
    split
    · simp only; omega
    · exact this
  · have hs := sortL_sorted ordP ordP_swo (l.map (mvP f t))
    rw [List.pairwise_iff_getElem] at hs hd ⊢
    intro i j hi hj hij
    have h1 := hs i j hi hj hij
    have h2 := hd i j hi hj hij
    rcases ordP_tri (mvL l f t)[i] (mvL l f t)[j] with h | h | h
    · exact h
    · exact absurd (by rw [h]; exact ⟨rfl, rfl⟩) h2
    · exact absurd h h1
theorem mv_none {l : List Pr} {f t : Int} (h : f ≠ t) : (mvL l f t).filter (fun x => !(x.frame != f)) = [] := by
  rw [List.filter_eq_nil_iff]
  intro p hp
  obtain ⟨q, _, rfl⟩ := List.mem_map.1 ((mvL_perm l f t).mem_iff.1 hp)
  unfold mvP
  split
  · simp; exact fun e => h e.symm
  · rename_i h2; simpa using h2
theorem where_none {l : List Pr} {s q : Int} (hc : rmChk l ⟨0, s, q⟩ = 0) (h : ∀ p ∈ l, ¬ (p.space = s ∧ p.page = q)) : rmWhere l s q = (-1, 0) := by
  unfold rmWhere
  rw [if_pos hc]
  have : rmFind l s q < 0 := by
    have := rmFind_iff l s q
    by_cases hn : rmFind l s q < 0
    · exact hn
    · have h2 := this.1 (by omega)
      rw [List.any_eq_true] at h2
      obtain ⟨p, hp, hp2⟩ := h2
      exact absurd (by simpa [Pr.at] using hp2) (h p hp)
  rw [if_pos this]
/-- where a page is behind a move -/
theorem mv_where {l : List Pr} {f t s q : Int} (g : Good l) (ht : 0 ≤ t ∧ t < 64) (hf : 0 ≤ f) : (rmWhere (mvL l f t) s q).2 = (rmWhere l s q).2 ∧ (rmWhere (mvL l f t) s q).1 = if (rmWhere l s q).1 = f ∧ (rmWhere l s q).2 = 0 then t else (rmWhere l s q).1 := by
  have g2 := good_mv (f := f) g ht
  by_cases hr : (⟨0, s, q⟩ : Pr).right = true
  · have c1 : rmChk l ⟨0, s, q⟩ = 0 := rmChk_iff.2 ⟨g, hr⟩
    have c2 : rmChk (mvL l f t) ⟨0, s, q⟩ = 0 := rmChk_iff.2 ⟨g2, hr⟩
    by_cases hp : ∃ p ∈ l, p.space = s ∧ p.page = q
    · obtain ⟨p, hp, rfl, rfl⟩ := hp
      have h1 := where_of g hp
      have hm : mvP f t p ∈ mvL l f t := (mvL_perm l f t).mem_iff.2 (List.mem_map.2 ⟨p, hp, rfl⟩)
      have h2 := where_of g2 hm
      rw [(mvP_sp f t p).1, (mvP_sp f t p).2] at h2
      rw [h1, h2]
      unfold mvP
      by_cases e : p.frame = f
      · simp [e]
      · simp [e]
    · have h1 := where_none c1 (fun p hp1 h => hp ⟨p, hp1, h⟩)
      have h2 := where_none c2 (fun p hp1 h => by
        obtain ⟨x, hx, rfl⟩ := List.mem_map.1 ((mvL_perm l f t).mem_iff.1 hp1)
        rw [(mvP_sp f t x).1, (mvP_sp f t x).2] at h
        exact hp ⟨x, hx, h⟩)
      rw [h1, h2]
      simp; omega
  · have c1 : rmChk l ⟨0, s, q⟩ = 1 := by unfold rmChk; rw [if_pos (rmCheck_iff.2 g), if_neg hr]
    have c2 : rmChk (mvL l f t) ⟨0, s, q⟩ = 1 := by unfold rmChk; rw [if_pos (rmCheck_iff.2 g2), if_neg hr]
    unfold rmWhere
    rw [c1, c2]
    simp
end Go.Proofs.Ytigpgieapamffaa
