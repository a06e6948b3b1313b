/-
  markDescription: a description of the call's own is written over by marks; what lies elsewhere stays.
-/
import Derived.Test.YtcegbilfcblhfaaMarkDesc
import Derived.Test.YtcegbilfcblhfaaToDesc
import Derived.Test.YtcegbilfcblhfaaSzRule
import Derived.Test.YtcegbilfcblhfaaDescRead
namespace Go.Proofs.Ytcegbilfcblhfaa
open Go.RowKit
set_option linter.unusedVariables false

/-- Rules of the call's own, in blocks from lo on and below hi. -/
def OwnIn (w : World) (lo hi : Nat) (v : Value) (l : List RuleD) : Prop :=
  (v = .slice none 0 0 ∧ l = []) ∨ ∃ g cap css, v = .slice (some ⟨g, 0, none⟩) l.length cap ∧ l.length ≤ cap ∧ cap ≤ maxLen ∧ RulesAt w lo hi g cap l.length css l
theorem OwnIn.of_own {w : World} {lo : Nat} {v : Value} {l : List RuleD} (h : OwnRules w lo v l) : OwnIn w lo w.heap.size v l := by
  obtain ⟨css, hl, hown, hr, hn⟩ := h
  have h8 : ∀ cs ∈ css, cs.length = 8 := by
    intro cs hc
    obtain ⟨i, hi, rfl⟩ := List.getElem_of_mem hc
    exact (hr i css[i] l[i] (List.getElem?_eq_getElem hi) (List.getElem?_eq_getElem (by omega))).len
  have hown' := hown
  rcases hown.2 with ⟨rfl, hx⟩ | ⟨g, cap, cur, rfl, hbg, hg, hnc, hcm, _⟩
  · left
    refine ⟨?_, ?_⟩
    · have : l.length = 0 := by omega
      first | rfl | rw [this]
    · exact List.eq_nil_of_length_eq_zero (by omega)
  · right
    refine ⟨g, cap, css, rfl, hnc, hcm, ⟨hl, rfl, hown', hr, hn, ?_, (hown'.lt g rfl).2⟩⟩
    intro b hb
    rw [blocks_flatten] at hb
    obtain ⟨bs, hbs, hbb⟩ := List.mem_flatten.1 hb
    obtain ⟨cs, hcs, rfl⟩ := List.mem_map.1 hbs
    obtain ⟨i, hi, rfl⟩ := List.getElem_of_mem hcs
    exact ((hr i css[i] l[i] (List.getElem?_eq_getElem hi) (List.getElem?_eq_getElem (by omega))).blocks_lt b hbb).2
theorem OwnIn.below {w w' : World} {lo hi : Nat} {v : Value} {l : List RuleD} (h : OwnIn w lo hi v l) (hb : Below w.heap.size w w') : OwnIn w' lo hi v l := by
  rcases h with h | ⟨g, cap, css, e, h1, h2, h3⟩
  · exact .inl h
  · exact .inr ⟨g, cap, css, e, h1, h2, h3.below hb⟩
theorem OwnIn.rd {w : World} {lo hi : Nat} {v : Value} {l : List RuleD} (h : OwnIn w lo hi v l) : RdRules w v l := by
  rcases h with ⟨rfl, rfl⟩ | ⟨g, cap, css, rfl, h1, h2, h3⟩
  · exact ⟨none, 0, rfl, Nat.le_refl _, Nat.zero_le _, fun h => by simp at h⟩
  · exact (OwnRules.rd (lo := lo) ⟨css, h3.len, h3.row, h3.each, h3.nodup⟩)

theorem countTo_all (l : List RuleD) : countTo l l.length = (l.map ruleCount).sum := by unfold countTo; rw [List.take_length]
theorem countTo_size (l : List RuleD) : countTo l l.length ≤ 4 * l.length + rulesSize l := by
  rw [countTo_all]
  unfold rulesSize
  induction l with
  | nil => simp
  | cons r t ih =>
    simp only [List.map_cons, List.sum_cons, List.length_cons]
    have : ruleCount r ≤ 4 + ruleSize r := by unfold ruleCount ruleSize; omega
    omega

set_option maxHeartbeats 2000000 in
theorem l_markRuleS_nil (k : Nat) (w : World) :
    Calls Try.prog 57 #[.slice none 0 0, .int .i64 (k : Int)] w fun e w' => e = .returned (.int .i64 (k : Int)) ∧ w = w' := by
  go_enter Try.func57, Try.ntmps57
  go_wp2_with fail
  refine wp_loop_rounds 1 ?_
  rw [rounds_succ]
  go_wp2_with fail
  go_ret
  exact ⟨rfl, rfl⟩

set_option maxHeartbeats 2000000 in
theorem l_markDescription (v : Value) (lo hi : Nat) (l : List RuleD) (k : Nat) (hk : k + countTo l l.length ≤ 1099511627776) (w : World) (h : OwnIn w lo hi v l) :
    Calls Try.prog 33 #[.agg #[v], .int .i64 (k : Int)] w
      fun e w' => e = .returned (.int .i64 ((k + countTo l l.length : Nat) : Int)) ∧ OwnIn w' lo hi v (markedTo l k l.length) ∧ Within lo hi w w' := by
  have H := Lib.hid (h.below (below_box (v := v) (t := 29)))
  have W0 := Lib.hid (Within.of_below (lo := lo) (hi := hi) (below_box (w := w) (v := v) (t := 29)))
  obtain ⟨z, hz⟩ : ∃ z : Int, z = ((k + countTo l l.length : Nat) : Int) := ⟨_, rfl⟩
  have HZ := Lib.hid hz
  have HK := Lib.hid hk
  rw [← hz]
  clear hz hk
  rcases h with ⟨rfl, rfl⟩ | ⟨g, cap, css, rfl, h1, h2, h3⟩
  · go_enter Try.func33, Try.ntmps33
    go_wp2_with fail
    refine (l_markRuleS_nil k _).mono ?_
    rintro e w1 ⟨rfl, rfl⟩
    go_wp2_with fail
    go_ret
    refine ⟨ret_int (by rw [HZ.out]; simp [countTo]), .inl ⟨rfl, by simp [markedTo]⟩, W0.out⟩
  · have hra := h3.below (below_box (v := .slice (some ⟨g, 0, none⟩) l.length cap) (t := 29))
    have MR := Lib.hid (l_markRuleS lo hi g cap css l k HK.out ⟨h1, h2⟩ _ hra)
    have HC := Lib.hid (And.intro h1 h2)
    unfold maxLen at h2
    clear h3 hra
    go_enter Try.func33, Try.ntmps33
    go_wp2_with fail
    refine MR.out.mono ?_
    rw [← HZ.out]
    rintro e w1 ⟨rfl, ⟨css', hra⟩, hwi⟩
    have HRA := Lib.hid hra
    have HWI := Lib.hid hwi
    clear hra hwi
    go_wp2_with fail
    go_ret
    refine ⟨rfl, .inr ⟨g, cap, css', ?_, ?_, HC.out.2, ?_⟩, W0.out.trans HWI.out⟩
    · rw [markedTo_len]
    · rw [markedTo_len]; exact HC.out.1
    · rw [markedTo_len]; exact HRA.out

/-! What stays. -/
section
variable {w w' : World} {lo hi : Nat}
theorem own_within {base : Nat} {e : TypeId} {size n : Nat} {v : Value} {xs : List Value} (h : w.ownsRow base e size v n xs) (hw : Within lo hi w w') (ha : ∀ k, v.ownBlock = some k → k < lo ∨ hi ≤ k) : w'.ownsRow base e size v n xs := by
  refine ⟨h.1, ?_⟩
  rcases h.2 with h2 | ⟨g, cap, cur, hv, hbg, hg, r⟩
  · exact .inl h2
  · refine .inr ⟨g, cap, cur, hv, hbg, ?_, r⟩
    rw [hw.block g (Array.getElem?_eq_some_iff.1 hg).1 (ha g (by rw [hv]; rfl))]
    exact hg
theorem Box.within {g : Nat} {t : TypeId} {cs : Array Value} (h : Box w g t cs) (hw : Within lo hi w w') (ha : g < lo ∨ hi ≤ g) : Box w' g t cs := (hw.block _ h.lt ha).trans h
end

end Go.Proofs.Ytcegbilfcblhfaa
