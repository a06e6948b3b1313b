/-
  One more kid for one rule among rules of the call's own, as it reads then.
-/
import Derived.Test.YtabdcngkdgadfaaRulesAt
import Derived.Test.YtabdcngkdgadfaaPSt
import Derived.Test.YtabdcngkdgadfaaLonger
import Derived.Test.YtabdcngkdgadfaaLawsPlain
namespace Go.Proofs.Ytabdcngkdgadfaa
open Go.RowKit
set_option linter.unusedVariables false

theorem own_heapT {w : World} {lo g size n cap : Nat} {e : TypeId} {xs : List Value} (h : w.ownsRow lo e size (.slice (some ⟨g, 0, none⟩) n cap) n xs) : ∃ cur, w.heap[g]? = some (.cells cur e (0, 0)) := by
  rcases h.2 with ⟨e, _⟩ | ⟨g', cap', cur, hv, _, hg, _⟩
  · cases e
  · injection hv with hv _ _
    injection hv with hv
    injection hv with hv
    subst hv
    exact ⟨cur, hg⟩
theorem RulesAt.kid {w w' : World} {lo hi g cap n : Nat} {css : List (List Value)} {rs : List RuleD} (h : RulesAt w lo hi g cap n css rs) {i : Nat} {r : RuleD} {vb vn vt vk v' : Value} {k : Int} {ob : Obj}
    (hi' : css[i]? = some (ruleCells r vb vn vt vk)) (hr : rs[i]? = some r)
    (ho : w'.ownsRow lo 3 1 v' (r.kids.length + 1) (cI r.kids ++ cI [k])) (hg : (w.alloc ob).grownBy w' vk.ownBlock) :
    RdRules (w'.setCell ⟨g, i * 8 + 7, none⟩ v') (.slice (some ⟨g, 0, none⟩) n cap) (rs.set i { r with kids := r.kids ++ [k] }) := by
  have ha : RulesAt (w.alloc ob) lo hi g cap n css rs := h.below ((Below.refl _ _).alloc (Nat.le_refl _) _)
  obtain ⟨vb', vn', vt', vk', e, k1, k2, k3, k4⟩ := ha.each i _ r hi' hr
  unfold ruleCells at e
  injection e with _ e; injection e with _ e; injection e with _ e; injection e with _ e; injection e with e1 e; injection e with e2 e; injection e with e3 e; injection e with e4 _
  subst e1; subst e2; subst e3; subst e4
  have hrow : w'.ownsRow lo 35 8 (.slice (some ⟨g, 0, none⟩) n cap) n css.flatten := ha.row.kept hg (own_ne_type ha.row k4 (by decide))
  obtain ⟨cur, hcur⟩ := own_heapT hrow
  have hst := hrow.stored (i * 8 + 7) v'
  have hset : (ruleCells r vb vn vt vk).set 7 v' = ruleCells { r with kids := r.kids ++ [k] } vb vn vt v' := rfl
  rw [← flat_set h.eight hi' (by decide : 7 < 8) v', hset] at hst
  have hil : i < css.length := (List.getElem?_eq_some_iff.1 hi').1
  have hir : i < rs.length := (List.getElem?_eq_some_iff.1 hr).1
  have hln := h.len
  have hrl := h.rlen
  have n3 : vt.ownBlock = none ∨ vt.ownBlock ≠ vk.ownBlock := by
    have hn := h.nodup
    rw [blocks_flatten] at hn
    have hp := (List.pairwise_flatten.1 hn).1 (blocks (ruleCells r vb vn vt vk)) (by
      obtain ⟨_, q2⟩ := List.getElem?_eq_some_iff.1 hi'
      exact List.mem_map.2 ⟨_, by rw [← q2]; exact List.getElem_mem _, rfl⟩)
    rw [blocks_rule] at hp
    revert hp
    unfold blocks
    cases ht : vt.ownBlock with
    | none => intro _; exact .inl rfl
    | some a =>
      cases hk : vk.ownBlock with
      | none => intro _; exact .inr (by simp)
      | some b =>
        intro hp
        right
        intro e
        injection e with e
        subst e
        cases hb : vb.ownBlock <;> cases hn : vn.ownBlock <;> simp [List.filterMap, hb, hn, ht, hk] at hp
  refine RdRules.of_flat (T := 35) (base := lo) (css := css.set i (ruleCells { r with kids := r.kids ++ [k] } vb vn vt v')) (by simp [hln, hrl]) (by have h1 := hst.1; rw [List.length_set, hrl]; exact h1) ?_
  intro j cs q hj hq
  by_cases hij : i = j
  · subst hij
    rw [List.getElem?_set_self hil] at hj
    rw [List.getElem?_set_self hir] at hq
    injection hj with hj
    injection hq with hq
    subst hj; subst hq
    have kept : ∀ {T : TypeId} {v : Value} {m : Nat} {xs : List Value}, w'.ownsRow lo T 1 v m xs → T ≠ 35 → Rd (w'.setCell ⟨g, i * 8 + 7, none⟩ v') v 1 m xs := fun h1 h2 => Rd.of_own (h1.kept hst.2 (.inr (own_type h1 hcur h2)))
    refine ⟨vb, vn, vt, v', rfl, kept (k1.kept hg (own_ne_type k1 k4 (by decide))) (by decide), kept (k2.kept hg (own_ne_type k2 k4 (by decide))) (by decide), kept (k3.kept hg n3) (by decide), ?_⟩
    have h5 := kept ho (by decide)
    simpa [cI] using h5
  · rw [List.getElem?_set_ne hij] at hj hq
    have h1 := (ha.each j cs q hj hq).kept_row hg (fun b hb e => by
      have hmem : ∀ a, vk.ownBlock = some a → a ∈ blocks (ruleCells r vb vn vt vk) := fun a ha => by
        rw [blocks_rule]
        exact List.mem_filterMap.2 ⟨vk, by simp, ha⟩
      exact h.apart hij hi' hj b (hmem b e.symm) b hb rfl)
    exact (h1.kept hst.2 hcur (by decide) (by decide) (by decide)).rd
theorem RulesAt.kidCell {w w' : World} {lo hi g cap n : Nat} {css : List (List Value)} {rs : List RuleD} (h : RulesAt w lo hi g cap n css rs) {i : Nat} {r : RuleD} {vb vn vt vk : Value} {ob : Obj}
    (hi' : css[i]? = some (ruleCells r vb vn vt vk)) (hr : rs[i]? = some r) (hg : (w.alloc ob).grownBy w' vk.ownBlock) :
    w'.cell? ⟨g, i * 8 + 7, none⟩ = some vk ∧ w'.frozen? ⟨g, i * 8 + 7, none⟩ = false := by
  have ha : RulesAt (w.alloc ob) lo hi g cap n css rs := h.below ((Below.refl _ _).alloc (Nat.le_refl _) _)
  obtain ⟨vb', vn', vt', vk', e, k1, k2, k3, k4⟩ := ha.each i _ r hi' hr
  unfold ruleCells at e
  injection e with _ e; injection e with _ e; injection e with _ e; injection e with _ e; injection e with e1 e; injection e with e2 e; injection e with e3 e; injection e with e4 _
  subst e1; subst e2; subst e3; subst e4
  have hrow : w'.ownsRow lo 35 8 (.slice (some ⟨g, 0, none⟩) n cap) n css.flatten := ha.row.kept hg (own_ne_type ha.row k4 (by decide))
  have hl : i < css.length := (List.getElem?_eq_some_iff.1 hi').1
  have := h.len
  refine ⟨?_, hrow.frozenAt _⟩
  rw [hrow.cellAt _ (by omega), flat_at h.eight hi' 7 (by decide)]
  rfl
/-- Rules of the call's own, where there is one. -/
theorem OwnRules.at_ {w : World} {lo : Nat} {v : Value} {l : List RuleD} (h : OwnRules w lo v l) (hp : 0 < l.length) : ∃ g cap css, v = .slice (some ⟨g, 0, none⟩) l.length cap ∧ l.length ≤ cap ∧ cap ≤ maxLen ∧ RulesAt w lo w.heap.size g cap l.length css l := by
  obtain ⟨css, hl, hown, hr, hn⟩ := h
  have hown' := hown
  rcases hown.2 with ⟨_, hx⟩ | ⟨g, cap, cur, rfl, hbg, hg, hnc, hcm, _⟩
  · omega
  · refine ⟨g, cap, css, rfl, hnc, hcm, ⟨hl, rfl, hown', hr, hn, ?_, (hown'.lt g rfl).2⟩⟩
    intro b hb
    rw [blocks_flatten] at hb
    obtain ⟨bs, hbs, hbb⟩ := List.mem_flatten.1 hb
    obtain ⟨cs, hcs, rfl⟩ := List.mem_map.1 hbs
    obtain ⟨i, hi, rfl⟩ := List.getElem_of_mem hcs
    exact ((hr i css[i] l[i] (List.getElem?_eq_getElem hi) (List.getElem?_eq_getElem (by omega))).blocks_lt b hbb).2
theorem RdRules.take {w : World} {A : Option Addr} {n c : Nat} {l : List RuleD} (h : RdRules w (.slice A n c) l) {k : Nat} (hk : k ≤ l.length) : RdRules w (.slice A k c) (l.take k) := by
  obtain ⟨A', c', e, h1, h2, h3⟩ := h
  injection e with e1 _ e3
  subst e1; subst e3
  have hlen : (l.take k).length = k := by rw [List.length_take]; omega
  refine ⟨A, c, by rw [hlen], by omega, h2, fun hp => ?_⟩
  rw [hlen] at hp
  obtain ⟨b, off, hA, h4⟩ := h3 (by omega)
  refine ⟨b, off, hA, fun i hi => ?_⟩
  rw [hlen] at hi
  obtain ⟨cs, h5, h6⟩ := h4 i (by omega)
  exact ⟨cs, by rw [List.getElem_take]; exact h5, h6⟩
theorem kids_nine {l : List RuleD} {i : Nat} (h : validR l (i : Int) = true) : (ruleAt l (i : Int)).kids.length ≤ 9 := by
  have hs := shape_of (validR_kind h)
  revert hs
  generalize ruleAt l (i : Int) = r
  intro hs
  have n0 : ∀ {α : Type} {l : List α}, l = [] → l.length = 0 := fun h => by rw [h]; rfl
  rcases hs with h | h | h | h | h | h | h | h | h | h
  · have := n0 h.2.2.2.2.1; omega
  · have := n0 h.2.2.2.2.1; omega
  · have := n0 h.2.2.2.2.1; omega
  · omega
  · omega
  · omega
  · omega
  · omega
  · omega
  · have := n0 h.2.2.2.2.1; omega
theorem spoil_fits {l : List RuleD} (hg : rulesGood l = true) (hl : l.length ≤ 1048576) {i : Nat} (hi : i < l.length) : (∀ r ∈ spoil l i, RuleFits r) ∧ ∀ r ∈ spoil l i, RuleSmall r := by
  have h9 := kids_nine (rulesGood_at hg hi)
  have ha := good_all hl hg
  have h0 := ha (ruleAt l (i : Int)) (ruleAt_mem hi)
  have key : ∀ r ∈ spoil l i, RuleFits r ∧ RuleSmall r := by
    intro r hr
    rcases List.mem_or_eq_of_mem_set hr with hr | rfl
    · exact ⟨(ha r hr).1, (ha r hr).2.1⟩
    · obtain ⟨⟨f1, f2, f3, f4, f5, f6⟩, ⟨s1, s2, s3, s4⟩, _⟩ := h0
      refine ⟨⟨f1, f2, f3, f4, f5, fun x hx => ?_⟩, ⟨s1, s2, s3, ?_⟩⟩
      · rcases List.mem_append.1 hx with hx | hx
        · exact f6 x hx
        · have : x = (i : Int) := by simpa using hx
          rw [this]; unfold fits; omega
      · show ((ruleAt l (i : Int)).kids ++ [(i : Int)]).length ≤ 1048576
        rw [List.length_append]; simp; omega
  exact ⟨fun r hr => (key r hr).1, fun r hr => (key r hr).2⟩

end Go.Proofs.Ytabdcngkdgadfaa
