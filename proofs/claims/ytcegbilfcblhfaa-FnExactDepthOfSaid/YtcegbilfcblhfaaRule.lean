/-
  Rules and descriptions: how they read in memory, and how the call's own ones lie there. No function of the program in sight.
-/
import Derived.Test.YtcegbilfcblhfaaBase
import Derived.Test.YtcegbilfcblhfaaRep
import Derived.Test.YtcegbilfcblhfaaAppend
import Derived.Deep.MidRow
namespace Go.Proofs.Ytcegbilfcblhfaa
open Go.RowKit

structure RuleD where
  name : ByteArray
  kind : Int
  size : Int
  little : Bool
  bytes : List UInt8
  names : List ByteArray
  tags : List Int
  kids : List Int
  deriving DecidableEq

/-- The eight cells of a rule. -/
def ruleCells (r : RuleD) (vb vn vt vk : Value) : List Value := [.string r.name, .int .i64 r.kind, .int .i64 r.size, .bool r.little, vb, vn, vt, vk]

/-- Eight cells that read as a rule. -/
def RdRule (w : World) (cs : List Value) (r : RuleD) : Prop :=
  ∃ vb vn vt vk, cs = ruleCells r vb vn vt vk ∧ Rd w vb 1 r.bytes.length (cB r.bytes) ∧ Rd w vn 1 r.names.length (cS r.names) ∧ Rd w vt 1 r.tags.length (cI r.tags) ∧ Rd w vk 1 r.kids.length (cI r.kids)

/-- A slice of rules that reads as a list. -/
def RdRules (w : World) (v : Value) (l : List RuleD) : Prop :=
  ∃ A c, v = .slice A l.length c ∧ l.length ≤ c ∧ c ≤ maxLen ∧ (0 < l.length → ∃ b off, A = some ⟨b, off, none⟩ ∧ ∀ i (h : i < l.length), ∃ cs, RdRule w cs l[i] ∧ w.rangeAt b (off + i * 8) cs)

/-- A description that reads as a list of rules. -/
def RdDesc (w : World) (d : Value) (l : List RuleD) : Prop := ∃ v, d = .agg #[v] ∧ RdRules w v l

section
variable {w w' : World}
theorem RdRule.keep {cs : List Value} {r : RuleD} (h : RdRule w cs r) (hk : ∀ p : Addr, p.block < w.heap.size → w'.cell? p = w.cell? p) : RdRule w' cs r := by
  obtain ⟨vb, vn, vt, vk, e, h1, h2, h3, h4⟩ := h
  exact ⟨vb, vn, vt, vk, e, h1.keep hk, h2.keep hk, h3.keep hk, h4.keep hk⟩
theorem RdRules.keep {v : Value} {l : List RuleD} (h : RdRules w v l) (hk : ∀ p : Addr, p.block < w.heap.size → w'.cell? p = w.cell? p) : RdRules w' v l := by
  obtain ⟨A, c, e, h1, h2, h3⟩ := h
  refine ⟨A, c, e, h1, h2, fun hp => ?_⟩
  obtain ⟨b, off, hA, h4⟩ := h3 hp
  refine ⟨b, off, hA, fun i hi => ?_⟩
  obtain ⟨cs, h5, h6⟩ := h4 i hi
  exact ⟨cs, h5.keep hk, fun j u hu => by rw [hk _ (World.block_lt_of_cell? w _ (h6 j u hu))]; exact h6 j u hu⟩
theorem RdRule.below {cs : List Value} {r : RuleD} (h : RdRule w cs r) (hb : Below w.heap.size w w') : RdRule w' cs r := h.keep fun _ hp => hb.cell hp
theorem RdRules.below {v : Value} {l : List RuleD} (h : RdRules w v l) (hb : Below w.heap.size w w') : RdRules w' v l := h.keep fun _ hp => hb.cell hp
theorem RdDesc.below {d : Value} {l : List RuleD} (h : RdDesc w d l) (hb : Below w.heap.size w w') : RdDesc w' d l := by
  obtain ⟨v, e, h⟩ := h
  exact ⟨v, e, h.below hb⟩
theorem RdRule.len {cs : List Value} {r : RuleD} (h : RdRule w cs r) : cs.length = 8 := by
  obtain ⟨vb, vn, vt, vk, rfl, _⟩ := h
  rfl

/-- Eight cells of a rule whose slices are the call's own. -/
def OwnRule (w : World) (lo : Nat) (cs : List Value) (r : RuleD) : Prop :=
  ∃ vb vn vt vk, cs = ruleCells r vb vn vt vk ∧ w.ownsRow lo 5 1 vb r.bytes.length (cB r.bytes) ∧ w.ownsRow lo 9 1 vn r.names.length (cS r.names) ∧
    w.ownsRow lo 3 1 vt r.tags.length (cI r.tags) ∧ w.ownsRow lo 3 1 vk r.kids.length (cI r.kids)

def blocks (cs : List Value) : List Nat := cs.filterMap Value.ownBlock
theorem blocks_append (a b : List Value) : blocks (a ++ b) = blocks a ++ blocks b := List.filterMap_append
theorem blocks_rule (r : RuleD) (vb vn vt vk : Value) : blocks (ruleCells r vb vn vt vk) = blocks [vb, vn, vt, vk] := rfl

theorem OwnRule.rd {lo : Nat} {cs : List Value} {r : RuleD} (h : OwnRule w lo cs r) : RdRule w cs r := by
  obtain ⟨vb, vn, vt, vk, e, h1, h2, h3, h4⟩ := h
  exact ⟨vb, vn, vt, vk, e, Rd.of_own h1, Rd.of_own h2, Rd.of_own h3, Rd.of_own h4⟩
theorem OwnRule.len {lo : Nat} {cs : List Value} {r : RuleD} (h : OwnRule w lo cs r) : cs.length = 8 := h.rd.len
theorem OwnRule.below {lo : Nat} {cs : List Value} {r : RuleD} (h : OwnRule w lo cs r) (hb : Below w.heap.size w w') : OwnRule w' lo cs r := by
  obtain ⟨vb, vn, vt, vk, e, h1, h2, h3, h4⟩ := h
  exact ⟨vb, vn, vt, vk, e, own_below h1 hb, own_below h2 hb, own_below h3 hb, own_below h4 hb⟩
theorem OwnRule.mono {lo lo' : Nat} {cs : List Value} {r : RuleD} (h : OwnRule w lo cs r) (hl : lo' ≤ lo) : OwnRule w lo' cs r := by
  obtain ⟨vb, vn, vt, vk, e, h1, h2, h3, h4⟩ := h
  exact ⟨vb, vn, vt, vk, e, own_mono h1 hl, own_mono h2 hl, own_mono h3 hl, own_mono h4 hl⟩
theorem OwnRule.blocks_lt {lo : Nat} {cs : List Value} {r : RuleD} (h : OwnRule w lo cs r) : ∀ k ∈ blocks cs, lo ≤ k ∧ k < w.heap.size := by
  obtain ⟨vb, vn, vt, vk, rfl, h1, h2, h3, h4⟩ := h
  intro k hk
  rw [blocks_rule] at hk
  simp only [blocks, List.mem_filterMap, List.mem_cons, List.not_mem_nil, or_false] at hk
  obtain ⟨v, hv, e⟩ := hk
  rcases hv with rfl | rfl | rfl | rfl
  · exact h1.lt k e
  · exact h2.lt k e
  · exact h3.lt k e
  · exact h4.lt k e
/-- A row of another element type is no block of a row's. -/
theorem own_type {lo : Nat} {e e' : TypeId} {size n g : Nat} {v : Value} {xs : List Value} {cs : Array Value} {f : Nat × Nat} (h : w.ownsRow lo e size v n xs) (hg : w.heap[g]? = some (.cells cs e' f)) (hne : e ≠ e') : v.ownBlock ≠ some g := by
  rcases h.2 with ⟨rfl, _⟩ | ⟨g', cap, cur, rfl, _, hh, _⟩
  · simp [Value.ownBlock]
  · intro he
    have : g' = g := by simpa [Value.ownBlock] using he
    subst this
    rw [hh] at hg
    injection hg with hg
    injection hg with _ ht
    exact hne ht
/-- What a rule owns is kept while a block of another element type is written. -/
theorem OwnRule.kept {lo g : Nat} {cs : List Value} {r : RuleD} {e' : TypeId} {cur : Array Value} {f : Nat × Nat} (h : OwnRule w lo cs r) (hk : w.grownBy w' (some g)) (hg : w.heap[g]? = some (.cells cur e' f))
    (h1 : 5 ≠ e') (h2 : 9 ≠ e') (h3 : 3 ≠ e') : OwnRule w' lo cs r := by
  obtain ⟨vb, vn, vt, vk, e, k1, k2, k3, k4⟩ := h
  exact ⟨vb, vn, vt, vk, e, k1.kept hk (.inr (own_type k1 hg h1)), k2.kept hk (.inr (own_type k2 hg h2)), k3.kept hk (.inr (own_type k3 hg h3)), k4.kept hk (.inr (own_type k4 hg h3))⟩

/-- The rules' cells, one behind the other, as a slice of the call's own. -/
def OwnRules (w : World) (lo : Nat) (v : Value) (l : List RuleD) : Prop :=
  ∃ css : List (List Value), css.length = l.length ∧ w.ownsRow lo 56 8 v l.length css.flatten ∧ (∀ (i : Nat) (cs : List Value) (r : RuleD), css[i]? = some cs → l[i]? = some r → OwnRule w lo cs r) ∧ (blocks css.flatten).Nodup
def OwnDesc (w : World) (lo : Nat) (d : Value) (l : List RuleD) : Prop := ∃ v, d = .agg #[v] ∧ OwnRules w lo v l

theorem flat_len {css : List (List Value)} (h : ∀ cs ∈ css, cs.length = 8) : css.flatten.length = css.length * 8 := by
  induction css with
  | nil => rfl
  | cons c r ih =>
    have := ih fun cs hc => h cs (List.mem_cons_of_mem _ hc)
    have h0 := h c List.mem_cons_self
    simp only [List.flatten_cons, List.length_append, List.length_cons, this, h0]; omega
theorem flat_at {css : List (List Value)} (h : ∀ cs ∈ css, cs.length = 8) {i : Nat} {cs : List Value} (hi : css[i]? = some cs) (j : Nat) (hj : j < 8) : css.flatten[i * 8 + j]? = cs[j]? := by
  induction css generalizing i with
  | nil => simp at hi
  | cons c r ih =>
    have h0 := h c List.mem_cons_self
    rw [List.flatten_cons]
    cases i with
    | zero =>
      simp at hi; subst hi
      rw [List.getElem?_append_left (by omega)]; simp
    | succ i =>
      rw [List.getElem?_append_right (by omega), show (i + 1) * 8 + j - c.length = i * 8 + j from by omega]
      exact ih (fun cs hc => h cs (List.mem_cons_of_mem _ hc)) (by simpa using hi)
theorem OwnRules.rd {lo : Nat} {v : Value} {l : List RuleD} (h : OwnRules w lo v l) : RdRules w v l := by
  obtain ⟨css, hl, hown, hr, _⟩ := h
  have h8 : ∀ cs ∈ css, cs.length = 8 := by
    intro cs hc
    obtain ⟨i, hi, rfl⟩ := List.getElem_of_mem hc
    exact (hr i css[i] l[i] (List.getElem?_eq_getElem hi) (List.getElem?_eq_getElem (by omega))).len
  have hrd := Rd.of_own hown
  obtain ⟨_, A, c, rfl, h1, h2, h3⟩ := hrd
  refine ⟨A, c, rfl, h1, h2, fun hp => ?_⟩
  obtain ⟨b, off, hA, hc⟩ := h3 (by rw [flat_len h8, hl]; omega)
  refine ⟨b, off, hA, fun i hi => ⟨css[i], (hr i css[i] l[i] (List.getElem?_eq_getElem (by omega)) (List.getElem?_eq_getElem hi)).rd, fun j u hu => ?_⟩⟩
  have hj : j < 8 := by
    have := (List.getElem?_eq_some_iff.1 hu).1
    rwa [h8 _ (List.getElem_mem _)] at this
  rw [Nat.add_assoc]
  exact hc _ u (by rw [flat_at h8 (List.getElem?_eq_getElem (show i < css.length by omega)) j hj]; exact hu)
theorem OwnDesc.rd {lo : Nat} {d : Value} {l : List RuleD} (h : OwnDesc w lo d l) : RdDesc w d l := by
  obtain ⟨v, e, h⟩ := h
  exact ⟨v, e, h.rd⟩
theorem OwnRules.below {lo : Nat} {v : Value} {l : List RuleD} (h : OwnRules w lo v l) (hb : Below w.heap.size w w') : OwnRules w' lo v l := by
  obtain ⟨css, hl, hown, hr, hn⟩ := h
  exact ⟨css, hl, own_below hown hb, fun i cs r hi hl => (hr i cs r hi hl).below hb, hn⟩
theorem OwnDesc.below {lo : Nat} {d : Value} {l : List RuleD} (h : OwnDesc w lo d l) (hb : Below w.heap.size w w') : OwnDesc w' lo d l := by
  obtain ⟨v, e, h⟩ := h
  exact ⟨v, e, h.below hb⟩
theorem OwnRules.mono {lo lo' : Nat} {v : Value} {l : List RuleD} (h : OwnRules w lo v l) (hlo : lo' ≤ lo) : OwnRules w lo' v l := by
  obtain ⟨css, hl, hown, hr, hn⟩ := h
  exact ⟨css, hl, own_mono hown hlo, fun i cs r hi hl => (hr i cs r hi hl).mono hlo, hn⟩
end

/-- Bounds of a rule's parts. -/
def fits (n : Int) : Prop := -9223372036854775808 ≤ n ∧ n ≤ 9223372036854775807
def RuleFits (r : RuleD) : Prop := r.name.size ≤ maxLen ∧ (∀ x ∈ r.names, x.size ≤ maxLen) ∧ fits r.kind ∧ fits r.size ∧ (∀ x ∈ r.tags, fits x) ∧ ∀ x ∈ r.kids, fits x

end Go.Proofs.Ytcegbilfcblhfaa
