/-
  Rules of the call's own that are written over, cell by cell and slice by slice. No function of the program in sight.
-/
import Derived.Test.YtkjjgpkegihmhaaDoorGA
namespace Go.Proofs.YtkjjgpkegihmhaaDoor
open Go.RowKit
set_option linter.unusedVariables false

/-- Only blocks from lo on and below hi may have changed, of those that were there. -/
structure Within (lo hi : Nat) (w w' : World) : Prop where
  os : w'.os = w.os
  tape : w'.tape = w.tape
  output : w'.output = w.output
  size : w.heap.size ≤ w'.heap.size
  block : ∀ k, k < w.heap.size → (k < lo ∨ hi ≤ k) → w'.heap[k]? = w.heap[k]?
theorem Within.refl (lo hi : Nat) (w : World) : Within lo hi w w := ⟨rfl, rfl, rfl, Nat.le_refl _, fun _ _ _ => rfl⟩
theorem Within.trans {lo hi : Nat} {a b c : World} (h : Within lo hi a b) (k : Within lo hi b c) : Within lo hi a c :=
  ⟨k.os.trans h.os, k.tape.trans h.tape, k.output.trans h.output, Nat.le_trans h.size k.size, fun i hi hne => (k.block i (Nat.lt_of_lt_of_le hi h.size) hne).trans (h.block i hi hne)⟩
theorem Within.of_below {lo hi : Nat} {w w' : World} (h : Below w.heap.size w w') : Within lo hi w w' := ⟨h.os, h.tape, h.output, h.size, fun k hk _ => h.block k hk⟩
theorem Within.of_grown {lo hi : Nat} {w w' : World} {row : Option Nat} (h : w.grownBy w' row) (hr : ∀ b, row = some b → lo ≤ b ∧ b < hi) : Within lo hi w w' :=
  ⟨h.os, h.tape, h.output, h.size, fun k hk hne => h.block k hk (fun e => by have := hr k e.symm; omega)⟩
theorem Within.below {lo hi B : Nat} {w0 w w' : World} (h : Below B w0 w) (k : Within lo hi w w') (hB : B ≤ lo) (hB' : B ≤ w.heap.size) : Below B w0 w' :=
  h.trans ⟨k.os, k.tape, k.output, k.size, fun i hi => k.block i (by omega) (.inl (by omega))⟩

theorem blocks_flatten (css : List (List Value)) : blocks css.flatten = (css.map blocks).flatten := by
  induction css with
  | nil => rfl
  | cons c r ih => rw [List.flatten_cons, blocks_append, ih]; rfl
theorem flat_set {css : List (List Value)} (h : ∀ cs ∈ css, cs.length = 8) {i j : Nat} {cs : List Value} (hi : css[i]? = some cs) (hj : j < 8) (u : Value) : (css.set i (cs.set j u)).flatten = css.flatten.set (i * 8 + j) u := by
  induction css generalizing i with
  | nil => simp at hi
  | cons c r ih =>
    have h0 := h c List.mem_cons_self
    cases i with
    | zero =>
      simp at hi; subst hi
      rw [List.set_cons_zero, List.flatten_cons, List.flatten_cons, List.set_append, if_pos (by omega)]
      simp
    | succ i =>
      rw [List.set_cons_succ, List.flatten_cons, List.flatten_cons, List.set_append, if_neg (by omega), ih (fun cs hc => h cs (List.mem_cons_of_mem _ hc)) (by simpa using hi)]
      rw [show (i + 1) * 8 + j - c.length = i * 8 + j by omega]

theorem OwnRule.kept_row {w w' : World} {lo : Nat} {cs : List Value} {r : RuleD} {row : Option Nat} (h : OwnRule w lo cs r) (hk : w.grownBy w' row) (hne : ∀ b ∈ blocks cs, some b ≠ row) : OwnRule w' lo cs r := by
  obtain ⟨vb, vn, vt, vk, rfl, h1, h2, h3, h4⟩ := h
  have key : ∀ v : Value, v ∈ [vb, vn, vt, vk] → v.ownBlock = none ∨ v.ownBlock ≠ row := by
    intro v hv
    cases hb : v.ownBlock with
    | none => exact .inl rfl
    | some b =>
      right
      have : b ∈ blocks (ruleCells r vb vn vt vk) := by
        rw [blocks_rule]
        exact List.mem_filterMap.2 ⟨v, hv, hb⟩
      exact hne b this
  exact ⟨vb, vn, vt, vk, rfl, h1.kept hk (key vb (by simp)), h2.kept hk (key vn (by simp)), h3.kept hk (key vt (by simp)), h4.kept hk (key vk (by simp))⟩

/-- A row of rules of the call's own, with each rule's slices. -/
structure RulesAt (w : World) (lo hi g cap n : Nat) (css : List (List Value)) (rs : List RuleD) : Prop where
  len : css.length = n
  rlen : rs.length = n
  row : w.ownsRow lo 43 8 (.slice (some ⟨g, 0, none⟩) n cap) n css.flatten
  each : ∀ (i : Nat) (cs : List Value) (r : RuleD), css[i]? = some cs → rs[i]? = some r → OwnRule w lo cs r
  nodup : (blocks css.flatten).Nodup
  lt : ∀ b ∈ blocks css.flatten, b < hi
  ghi : g < hi

section
variable {w w' : World} {lo hi g cap n : Nat} {css : List (List Value)} {rs : List RuleD}
theorem RulesAt.heap (h : RulesAt w lo hi g cap n css rs) : ∃ cur, w.heap[g]? = some (.cells cur 43 (0, 0)) := by
  rcases h.row.2 with ⟨e, _⟩ | ⟨g', cap', cur, hv, _, hg, _⟩
  · cases e
  · injection hv with hv _ _
    injection hv with hv
    injection hv with hv
    subst hv
    exact ⟨cur, hg⟩
theorem RulesAt.eight (h : RulesAt w lo hi g cap n css rs) : ∀ cs ∈ css, cs.length = 8 := by
  intro cs hc
  obtain ⟨i, hi, rfl⟩ := List.getElem_of_mem hc
  have := h.len
  have := h.rlen
  exact (h.each i css[i] rs[i] (List.getElem?_eq_getElem hi) (List.getElem?_eq_getElem (by omega))).len
theorem RulesAt.glo (h : RulesAt w lo hi g cap n css rs) : lo ≤ g := (h.row.lt g rfl).1
theorem RulesAt.below (h : RulesAt w lo hi g cap n css rs) (hb : Below w.heap.size w w') : RulesAt w' lo hi g cap n css rs :=
  ⟨h.len, h.rlen, own_below h.row hb, fun i cs r h1 h2 => (h.each i cs r h1 h2).below hb, h.nodup, h.lt, h.ghi⟩
theorem RulesAt.cell (h : RulesAt w lo hi g cap n css rs) {i : Nat} {r : RuleD} {vb vn vt vk : Value} (hi : css[i]? = some (ruleCells r vb vn vt vk)) (j : Nat) (hj : j < 8) :
    w.cell? ⟨g, i * 8 + j, none⟩ = (ruleCells r vb vn vt vk)[j]? ∧ w.frozen? ⟨g, i * 8 + j, none⟩ = false := by
  have hl : i < css.length := (List.getElem?_eq_some_iff.1 hi).1
  have := h.len
  refine ⟨?_, h.row.frozenAt _⟩
  rw [h.row.cellAt _ (by omega), flat_at h.eight hi j hj]
theorem RulesAt.slots (h : RulesAt w lo hi g cap n css rs) {i : Nat} {r : RuleD} (hr : rs[i]? = some r) : ∃ vb vn vt vk, css[i]? = some (ruleCells r vb vn vt vk) ∧ w.ownsRow lo 5 1 vb r.bytes.length (cB r.bytes) ∧ w.ownsRow lo 9 1 vn r.names.length (cS r.names) ∧
    w.ownsRow lo 3 1 vt r.tags.length (cI r.tags) ∧ w.ownsRow lo 3 1 vk r.kids.length (cI r.kids) := by
  have hl : i < rs.length := (List.getElem?_eq_some_iff.1 hr).1
  have h1 := h.len
  have h2 := h.rlen
  have hc : css[i]? = some css[i] := List.getElem?_eq_getElem (by omega)
  obtain ⟨vb, vn, vt, vk, e, k1, k2, k3, k4⟩ := h.each i _ r hc hr
  exact ⟨vb, vn, vt, vk, by rw [hc, e], k1, k2, k3, k4⟩
/-- Two rules' blocks are apart. -/
theorem RulesAt.apart (h : RulesAt w lo hi g cap n css rs) {i j : Nat} (hij : i ≠ j) {cs ds : List Value} (hi : css[i]? = some cs) (hj : css[j]? = some ds) : ∀ a ∈ blocks cs, ∀ b ∈ blocks ds, b ≠ a := by
  have hn := h.nodup
  rw [blocks_flatten] at hn
  have hp := (List.pairwise_flatten.1 hn).2
  rw [List.pairwise_iff_getElem] at hp
  obtain ⟨hi1, hi2⟩ := List.getElem?_eq_some_iff.1 hi
  obtain ⟨hj1, hj2⟩ := List.getElem?_eq_some_iff.1 hj
  intro a ha b hb hab
  rcases Nat.lt_or_gt_of_ne hij with hlt | hlt
  · have := hp i j (by simpa using hi1) (by simpa using hj1) hlt a (by simpa [hi2] using ha) b (by simpa [hj2] using hb)
    exact this hab.symm
  · have := hp j i (by simpa using hj1) (by simpa using hi1) hlt b (by simpa [hj2] using hb) a (by simpa [hi2] using ha)
    exact this hab
theorem RulesAt.mem_blocks (h : RulesAt w lo hi g cap n css rs) {i : Nat} {cs : List Value} (hi : css[i]? = some cs) : ∀ b ∈ blocks cs, b ∈ blocks css.flatten := by
  intro b hb
  rw [blocks_flatten]
  obtain ⟨h1, h2⟩ := List.getElem?_eq_some_iff.1 hi
  exact List.mem_flatten.2 ⟨blocks cs, List.mem_map.2 ⟨cs, by rw [← h2]; exact List.getElem_mem _, rfl⟩, hb⟩

/-- One plain cell of one rule is written over. -/
theorem RulesAt.store (h : RulesAt w lo hi g cap n css rs) {i j : Nat} (hj : j < 8) {r r' : RuleD} {vb vn vt vk u : Value} (hi' : css[i]? = some (ruleCells r vb vn vt vk)) (hr : rs[i]? = some r)
    (hset : (ruleCells r vb vn vt vk).set j u = ruleCells r' vb vn vt vk) (h1 : r'.bytes = r.bytes) (h2 : r'.names = r.names) (h3 : r'.tags = r.tags) (h4 : r'.kids = r.kids) :
    RulesAt (w.setCell ⟨g, i * 8 + j, none⟩ u) lo hi g cap n (css.set i (ruleCells r' vb vn vt vk)) (rs.set i r') ∧ w.grownBy (w.setCell ⟨g, i * 8 + j, none⟩ u) (some g) := by
  have hst := h.row.stored (i * 8 + j) u
  obtain ⟨cur, hcur⟩ := h.heap
  rw [← flat_set h.eight hi' hj u, hset] at hst
  have hbl : blocks (css.set i (ruleCells r' vb vn vt vk)).flatten = blocks css.flatten := by
    rw [blocks_flatten, blocks_flatten, List.map_set, blocks_rule]
    congr 1
    obtain ⟨q1, q2⟩ := List.getElem?_eq_some_iff.1 hi'
    have e : (css.map blocks)[i]'(by simpa using q1) = blocks [vb, vn, vt, vk] := by rw [List.getElem_map, q2, blocks_rule]
    rw [← e, List.set_getElem_self]
  refine ⟨⟨by simp [h.len], by simp [h.rlen], hst.1, ?_, by rw [hbl]; exact h.nodup, by rw [hbl]; exact h.lt, h.ghi⟩, hst.2⟩
  intro k cs q hk hq
  by_cases hik : i = k
  · subst hik
    have hli : i < css.length := (List.getElem?_eq_some_iff.1 hi').1
    have hlr : i < rs.length := (List.getElem?_eq_some_iff.1 hr).1
    rw [List.getElem?_set_self (by omega)] at hk hq
    cases hk; cases hq
    have := (h.each i _ r hi' hr).kept hst.2 hcur (by decide) (by decide) (by decide)
    obtain ⟨vb', vn', vt', vk', e, k1, k2, k3, k4⟩ := this
    unfold ruleCells at e
    injection e with _ e; injection e with _ e; injection e with _ e; injection e with _ e; injection e with e1 e; injection e with e2 e; injection e with e3 e; injection e with e4 _
    subst e1; subst e2; subst e3; subst e4
    exact ⟨_, _, _, _, rfl, by rw [h1]; exact k1, by rw [h2]; exact k2, by rw [h3]; exact k3, by rw [h4]; exact k4⟩
  · rw [List.getElem?_set_ne hik] at hk hq
    exact (h.each k cs q hk hq).kept hst.2 hcur (by decide) (by decide) (by decide)

/-- The slice 'bytes' of one rule is written over. -/
theorem RulesAt.bytes (h : RulesAt w lo hi g cap n css rs) {i : Nat} {r : RuleD} {vb vn vt vk : Value} (hi' : css[i]? = some (ruleCells r vb vn vt vk)) (hr : rs[i]? = some r) (xs : List UInt8) (hx : xs.length = r.bytes.length)
    (ho : w'.ownsRow lo 5 1 vb r.bytes.length (cB xs)) (hg : w.grownBy w' vb.ownBlock) : RulesAt w' lo hi g cap n css (rs.set i { r with bytes := xs }) := by
  obtain ⟨cur, hcur⟩ := h.heap
  obtain ⟨vb', vn', vt', vk', e, k1, k2, k3, k4⟩ := h.each i _ r hi' hr
  have e0 := e
  unfold ruleCells at e
  injection e with _ e; injection e with _ e; injection e with _ e; injection e with _ e; injection e with e1 e; injection e with e2 e; injection e with e3 e; injection e with e4 _
  subst e1; subst e2; subst e3; subst e4
  have hne : vb.ownBlock ≠ some g := own_type k1 hcur (by decide)
  have hnd : (blocks [vb, vn, vt, vk]).Nodup := by
    have hn := h.nodup
    rw [blocks_flatten] at hn
    have := (List.pairwise_flatten.1 hn).1 (blocks (ruleCells r vb vn vt vk)) (List.mem_map.2 ⟨_, List.mem_of_getElem? hi', rfl⟩)
    rwa [blocks_rule] at this
  refine ⟨h.len, by simp [h.rlen], h.row.kept hg (.inr (fun e => hne e.symm)), ?_, h.nodup, h.lt, h.ghi⟩
  intro k cs q hk hq
  by_cases hik : i = k
  · subst hik
    have hlr : i < rs.length := (List.getElem?_eq_some_iff.1 hr).1
    rw [List.getElem?_set_self (by omega)] at hq
    rw [hi'] at hk
    cases hk; cases hq
    have apart : ∀ u : Value, u.ownBlock = none ∨ u.ownBlock ≠ vb.ownBlock → u.ownBlock = none ∨ u.ownBlock ≠ vb.ownBlock := fun _ h => h
    refine ⟨vb, vn, vt, vk, rfl, ?_, ?_, ?_, ?_⟩
    · show w'.ownsRow lo 5 1 vb xs.length (cB xs)
      rw [hx]; exact ho
    · refine k2.kept hg ?_
      cases hb : vn.ownBlock with
      | none => exact .inl rfl
      | some b =>
        right
        intro e
        cases hv : vb.ownBlock with
        | none => rw [hv] at e; cases e
        | some a =>
          rw [hv] at e
          cases e
          unfold blocks at hnd
          cases e1 : vb.ownBlock <;> cases e2 : vn.ownBlock <;> cases e3 : vt.ownBlock <;> cases e4 : vk.ownBlock <;> simp_all
    · refine k3.kept hg ?_
      cases hb : vt.ownBlock with
      | none => exact .inl rfl
      | some b =>
        right
        intro e
        cases hv : vb.ownBlock with
        | none => rw [hv] at e; cases e
        | some a =>
          rw [hv] at e
          cases e
          unfold blocks at hnd
          cases e1 : vb.ownBlock <;> cases e2 : vn.ownBlock <;> cases e3 : vt.ownBlock <;> cases e4 : vk.ownBlock <;> simp_all
    · refine k4.kept hg ?_
      cases hb : vk.ownBlock with
      | none => exact .inl rfl
      | some b =>
        right
        intro e
        cases hv : vb.ownBlock with
        | none => rw [hv] at e; cases e
        | some a =>
          rw [hv] at e
          cases e
          unfold blocks at hnd
          cases e1 : vb.ownBlock <;> cases e2 : vn.ownBlock <;> cases e3 : vt.ownBlock <;> cases e4 : vk.ownBlock <;> simp_all
  · rw [List.getElem?_set_ne hik] at hq
    refine (h.each k cs q hk hq).kept_row hg fun b hb e => ?_
    exact h.apart hik hi' hk b (by rw [blocks_rule]; exact List.mem_filterMap.2 ⟨vb, by simp, e.symm⟩) b hb rfl

/-- The slice 'names' of one rule is written over. -/
theorem RulesAt.names (h : RulesAt w lo hi g cap n css rs) {i : Nat} {r : RuleD} {vb vn vt vk : Value} (hi' : css[i]? = some (ruleCells r vb vn vt vk)) (hr : rs[i]? = some r) (xs : List ByteArray) (hx : xs.length = r.names.length)
    (ho : w'.ownsRow lo 9 1 vn r.names.length (cS xs)) (hg : w.grownBy w' vn.ownBlock) : RulesAt w' lo hi g cap n css (rs.set i { r with names := xs }) := by
  obtain ⟨cur, hcur⟩ := h.heap
  obtain ⟨vb', vn', vt', vk', e, k1, k2, k3, k4⟩ := h.each i _ r hi' hr
  have e0 := e
  unfold ruleCells at e
  injection e with _ e; injection e with _ e; injection e with _ e; injection e with _ e; injection e with e1 e; injection e with e2 e; injection e with e3 e; injection e with e4 _
  subst e1; subst e2; subst e3; subst e4
  have hne : vn.ownBlock ≠ some g := own_type k2 hcur (by decide)
  have hnd : (blocks [vb, vn, vt, vk]).Nodup := by
    have hn := h.nodup
    rw [blocks_flatten] at hn
    have := (List.pairwise_flatten.1 hn).1 (blocks (ruleCells r vb vn vt vk)) (List.mem_map.2 ⟨_, List.mem_of_getElem? hi', rfl⟩)
    rwa [blocks_rule] at this
  refine ⟨h.len, by simp [h.rlen], h.row.kept hg (.inr (fun e => hne e.symm)), ?_, h.nodup, h.lt, h.ghi⟩
  intro k cs q hk hq
  by_cases hik : i = k
  · subst hik
    have hlr : i < rs.length := (List.getElem?_eq_some_iff.1 hr).1
    rw [List.getElem?_set_self (by omega)] at hq
    rw [hi'] at hk
    cases hk; cases hq
    have apart : ∀ u : Value, u.ownBlock = none ∨ u.ownBlock ≠ vn.ownBlock → u.ownBlock = none ∨ u.ownBlock ≠ vn.ownBlock := fun _ h => h
    refine ⟨vb, vn, vt, vk, rfl, ?_, ?_, ?_, ?_⟩
    · refine k1.kept hg ?_
      cases hb : vb.ownBlock with
      | none => exact .inl rfl
      | some b =>
        right
        intro e
        cases hv : vn.ownBlock with
        | none => rw [hv] at e; cases e
        | some a =>
          rw [hv] at e
          cases e
          unfold blocks at hnd
          cases e1 : vb.ownBlock <;> cases e2 : vn.ownBlock <;> cases e3 : vt.ownBlock <;> cases e4 : vk.ownBlock <;> simp_all
    · show w'.ownsRow lo 9 1 vn xs.length (cS xs)
      rw [hx]; exact ho
    · refine k3.kept hg ?_
      cases hb : vt.ownBlock with
      | none => exact .inl rfl
      | some b =>
        right
        intro e
        cases hv : vn.ownBlock with
        | none => rw [hv] at e; cases e
        | some a =>
          rw [hv] at e
          cases e
          unfold blocks at hnd
          cases e1 : vb.ownBlock <;> cases e2 : vn.ownBlock <;> cases e3 : vt.ownBlock <;> cases e4 : vk.ownBlock <;> simp_all
    · refine k4.kept hg ?_
      cases hb : vk.ownBlock with
      | none => exact .inl rfl
      | some b =>
        right
        intro e
        cases hv : vn.ownBlock with
        | none => rw [hv] at e; cases e
        | some a =>
          rw [hv] at e
          cases e
          unfold blocks at hnd
          cases e1 : vb.ownBlock <;> cases e2 : vn.ownBlock <;> cases e3 : vt.ownBlock <;> cases e4 : vk.ownBlock <;> simp_all
  · rw [List.getElem?_set_ne hik] at hq
    refine (h.each k cs q hk hq).kept_row hg fun b hb e => ?_
    exact h.apart hik hi' hk b (by rw [blocks_rule]; exact List.mem_filterMap.2 ⟨vn, by simp, e.symm⟩) b hb rfl

/-- The slice 'tags' of one rule is written over. -/
theorem RulesAt.tags (h : RulesAt w lo hi g cap n css rs) {i : Nat} {r : RuleD} {vb vn vt vk : Value} (hi' : css[i]? = some (ruleCells r vb vn vt vk)) (hr : rs[i]? = some r) (xs : List Int) (hx : xs.length = r.tags.length)
    (ho : w'.ownsRow lo 3 1 vt r.tags.length (cI xs)) (hg : w.grownBy w' vt.ownBlock) : RulesAt w' lo hi g cap n css (rs.set i { r with tags := xs }) := by
  obtain ⟨cur, hcur⟩ := h.heap
  obtain ⟨vb', vn', vt', vk', e, k1, k2, k3, k4⟩ := h.each i _ r hi' hr
  have e0 := e
  unfold ruleCells at e
  injection e with _ e; injection e with _ e; injection e with _ e; injection e with _ e; injection e with e1 e; injection e with e2 e; injection e with e3 e; injection e with e4 _
  subst e1; subst e2; subst e3; subst e4
  have hne : vt.ownBlock ≠ some g := own_type k3 hcur (by decide)
  have hnd : (blocks [vb, vn, vt, vk]).Nodup := by
    have hn := h.nodup
    rw [blocks_flatten] at hn
    have := (List.pairwise_flatten.1 hn).1 (blocks (ruleCells r vb vn vt vk)) (List.mem_map.2 ⟨_, List.mem_of_getElem? hi', rfl⟩)
    rwa [blocks_rule] at this
  refine ⟨h.len, by simp [h.rlen], h.row.kept hg (.inr (fun e => hne e.symm)), ?_, h.nodup, h.lt, h.ghi⟩
  intro k cs q hk hq
  by_cases hik : i = k
  · subst hik
    have hlr : i < rs.length := (List.getElem?_eq_some_iff.1 hr).1
    rw [List.getElem?_set_self (by omega)] at hq
    rw [hi'] at hk
    cases hk; cases hq
    have apart : ∀ u : Value, u.ownBlock = none ∨ u.ownBlock ≠ vt.ownBlock → u.ownBlock = none ∨ u.ownBlock ≠ vt.ownBlock := fun _ h => h
    refine ⟨vb, vn, vt, vk, rfl, ?_, ?_, ?_, ?_⟩
    · refine k1.kept hg ?_
      cases hb : vb.ownBlock with
      | none => exact .inl rfl
      | some b =>
        right
        intro e
        cases hv : vt.ownBlock with
        | none => rw [hv] at e; cases e
        | some a =>
          rw [hv] at e
          cases e
          unfold blocks at hnd
          cases e1 : vb.ownBlock <;> cases e2 : vn.ownBlock <;> cases e3 : vt.ownBlock <;> cases e4 : vk.ownBlock <;> simp_all
    · refine k2.kept hg ?_
      cases hb : vn.ownBlock with
      | none => exact .inl rfl
      | some b =>
        right
        intro e
        cases hv : vt.ownBlock with
        | none => rw [hv] at e; cases e
        | some a =>
          rw [hv] at e
          cases e
          unfold blocks at hnd
          cases e1 : vb.ownBlock <;> cases e2 : vn.ownBlock <;> cases e3 : vt.ownBlock <;> cases e4 : vk.ownBlock <;> simp_all
    · show w'.ownsRow lo 3 1 vt xs.length (cI xs)
      rw [hx]; exact ho
    · refine k4.kept hg ?_
      cases hb : vk.ownBlock with
      | none => exact .inl rfl
      | some b =>
        right
        intro e
        cases hv : vt.ownBlock with
        | none => rw [hv] at e; cases e
        | some a =>
          rw [hv] at e
          cases e
          unfold blocks at hnd
          cases e1 : vb.ownBlock <;> cases e2 : vn.ownBlock <;> cases e3 : vt.ownBlock <;> cases e4 : vk.ownBlock <;> simp_all
  · rw [List.getElem?_set_ne hik] at hq
    refine (h.each k cs q hk hq).kept_row hg fun b hb e => ?_
    exact h.apart hik hi' hk b (by rw [blocks_rule]; exact List.mem_filterMap.2 ⟨vt, by simp, e.symm⟩) b hb rfl

/-- The slice 'kids' of one rule is written over. -/
theorem RulesAt.kids (h : RulesAt w lo hi g cap n css rs) {i : Nat} {r : RuleD} {vb vn vt vk : Value} (hi' : css[i]? = some (ruleCells r vb vn vt vk)) (hr : rs[i]? = some r) (xs : List Int) (hx : xs.length = r.kids.length)
    (ho : w'.ownsRow lo 3 1 vk r.kids.length (cI xs)) (hg : w.grownBy w' vk.ownBlock) : RulesAt w' lo hi g cap n css (rs.set i { r with kids := xs }) := by
  obtain ⟨cur, hcur⟩ := h.heap
  obtain ⟨vb', vn', vt', vk', e, k1, k2, k3, k4⟩ := h.each i _ r hi' hr
  have e0 := e
  unfold ruleCells at e
  injection e with _ e; injection e with _ e; injection e with _ e; injection e with _ e; injection e with e1 e; injection e with e2 e; injection e with e3 e; injection e with e4 _
  subst e1; subst e2; subst e3; subst e4
  have hne : vk.ownBlock ≠ some g := own_type k4 hcur (by decide)
  have hnd : (blocks [vb, vn, vt, vk]).Nodup := by
    have hn := h.nodup
    rw [blocks_flatten] at hn
    have := (List.pairwise_flatten.1 hn).1 (blocks (ruleCells r vb vn vt vk)) (List.mem_map.2 ⟨_, List.mem_of_getElem? hi', rfl⟩)
    rwa [blocks_rule] at this
  refine ⟨h.len, by simp [h.rlen], h.row.kept hg (.inr (fun e => hne e.symm)), ?_, h.nodup, h.lt, h.ghi⟩
  intro k cs q hk hq
  by_cases hik : i = k
  · subst hik
    have hlr : i < rs.length := (List.getElem?_eq_some_iff.1 hr).1
    rw [List.getElem?_set_self (by omega)] at hq
    rw [hi'] at hk
    cases hk; cases hq
    have apart : ∀ u : Value, u.ownBlock = none ∨ u.ownBlock ≠ vk.ownBlock → u.ownBlock = none ∨ u.ownBlock ≠ vk.ownBlock := fun _ h => h
    refine ⟨vb, vn, vt, vk, rfl, ?_, ?_, ?_, ?_⟩
    · refine k1.kept hg ?_
      cases hb : vb.ownBlock with
      | none => exact .inl rfl
      | some b =>
        right
        intro e
        cases hv : vk.ownBlock with
        | none => rw [hv] at e; cases e
        | some a =>
          rw [hv] at e
          cases e
          unfold blocks at hnd
          cases e1 : vb.ownBlock <;> cases e2 : vn.ownBlock <;> cases e3 : vt.ownBlock <;> cases e4 : vk.ownBlock <;> simp_all
    · refine k2.kept hg ?_
      cases hb : vn.ownBlock with
      | none => exact .inl rfl
      | some b =>
        right
        intro e
        cases hv : vk.ownBlock with
        | none => rw [hv] at e; cases e
        | some a =>
          rw [hv] at e
          cases e
          unfold blocks at hnd
          cases e1 : vb.ownBlock <;> cases e2 : vn.ownBlock <;> cases e3 : vt.ownBlock <;> cases e4 : vk.ownBlock <;> simp_all
    · refine k3.kept hg ?_
      cases hb : vt.ownBlock with
      | none => exact .inl rfl
      | some b =>
        right
        intro e
        cases hv : vk.ownBlock with
        | none => rw [hv] at e; cases e
        | some a =>
          rw [hv] at e
          cases e
          unfold blocks at hnd
          cases e1 : vb.ownBlock <;> cases e2 : vn.ownBlock <;> cases e3 : vt.ownBlock <;> cases e4 : vk.ownBlock <;> simp_all
    · show w'.ownsRow lo 3 1 vk xs.length (cI xs)
      rw [hx]; exact ho
  · rw [List.getElem?_set_ne hik] at hq
    refine (h.each k cs q hk hq).kept_row hg fun b hb e => ?_
    exact h.apart hik hi' hk b (by rw [blocks_rule]; exact List.mem_filterMap.2 ⟨vk, by simp, e.symm⟩) b hb rfl

end

end Go.Proofs.YtkjjgpkegihmhaaDoor
