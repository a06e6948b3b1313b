/-
  Several texts in one: EqByte, EqString, EqInt, EqRule, EqDesc, ToRule, ToDesc, SzString, SzRule, OpenDesc, DescRead, DescLaw, Limit, KidName.
-/
import Derived.Test.YtabdcngkdgadfaaProg
import Derived.Test.YtabdcngkdgadfaaGA
import Derived.WalkKit
import Derived.WalkSpells
import Derived.WalkLawsBesides
import Derived.Lib.Hide
import Derived.Deep.QuietTactic
import Derived.BigQuiet
import Derived.Deep.RegionHeld3
import Derived.Deep.Slices
import Derived.BigGuard
namespace Go.Proofs.Ytabdcngkdgadfaa
open Go.RowKit

end Go.Proofs.Ytabdcngkdgadfaa

namespace Go.Proofs.Ytabdcngkdgadfaa
open Go.RowKit

end Go.Proofs.Ytabdcngkdgadfaa

namespace Go.Proofs.Ytabdcngkdgadfaa
open Go.RowKit

end Go.Proofs.Ytabdcngkdgadfaa

namespace Go.Proofs.Ytabdcngkdgadfaa
open Go.RowKit

/-- A rule's value. -/
def ruleVal (r : RuleD) (vb vn vt vk : Value) : Value := .agg #[.string r.name, .int .i64 r.kind, .int .i64 r.size, .bool r.little, vb, vn, vt, vk]

theorem rdRule_parts {w : World} {r : RuleD} {vb vn vt vk : Value} (h : RdRule w (ruleCells r vb vn vt vk) r) :
    Rd w vb 1 r.bytes.length (cB r.bytes) ∧ Rd w vn 1 r.names.length (cS r.names) ∧ Rd w vt 1 r.tags.length (cI r.tags) ∧ Rd w vk 1 r.kids.length (cI r.kids) := by
  obtain ⟨vb', vn', vt', vk', e, hb, hn, ht, hk⟩ := h
  unfold ruleCells at e
  injection e with _ e; injection e with _ e; injection e with _ e; injection e with _ e; injection e with e1 e; injection e with e2 e; injection e with e3 e; injection e with e4 _
  subst e1; subst e2; subst e3; subst e4
  exact ⟨hb, hn, ht, hk⟩

theorem rule_ext {r q : RuleD} (h0 : r.name = q.name) (h1 : r.kind = q.kind) (h2 : r.size = q.size) (h3 : r.little = q.little) (h4 : r.bytes = q.bytes) (h5 : r.names = q.names) (h6 : r.tags = q.tags) (h7 : r.kids = q.kids) : r = q := by
  cases r; cases q; simp_all

end Go.Proofs.Ytabdcngkdgadfaa

namespace Go.Proofs.Ytabdcngkdgadfaa
open Go.RowKit

/-- The cells of a rule, as the walk asks for them. -/
abbrev Cells8 (w : World) (b o : Nat) (r : RuleD) (vb vn vt vk : Value) : Prop :=
  w.cell? ⟨b, o, none⟩ = some (.string r.name) ∧ w.cell? ⟨b, o + 1, none⟩ = some (.int .i64 r.kind) ∧ w.cell? ⟨b, o + 2, none⟩ = some (.int .i64 r.size) ∧ w.cell? ⟨b, o + 3, none⟩ = some (.bool r.little) ∧
  w.cell? ⟨b, o + 4, none⟩ = some vb ∧ w.cell? ⟨b, o + 5, none⟩ = some vn ∧ w.cell? ⟨b, o + 6, none⟩ = some vt ∧ w.cell? ⟨b, o + 7, none⟩ = some vk
theorem RuleCells.eight {w : World} {b o : Nat} {r : RuleD} {vb vn vt vk : Value} (h : RuleCells w b o r vb vn vt vk) : Cells8 w b o r vb vn vt vk := ⟨h.c0, h.c1, h.c2, h.c3, h.c4, h.c5, h.c6, h.c7⟩
theorem Cells8.two {w : World} {b o b' o' : Nat} {r q : RuleD} {vb vn vt vk ub un ut uk : Value} (h : Cells8 w b o r vb vn vt vk) (h' : Cells8 w b' o' q ub un ut uk) :
    w.cell? ⟨b, o, none⟩ = some (.string r.name) ∧ w.cell? ⟨b, o + 1, none⟩ = some (.int .i64 r.kind) ∧ w.cell? ⟨b, o + 2, none⟩ = some (.int .i64 r.size) ∧ w.cell? ⟨b, o + 3, none⟩ = some (.bool r.little) ∧ w.cell? ⟨b, o + 4, none⟩ = some vb ∧ w.cell? ⟨b, o + 5, none⟩ = some vn ∧ w.cell? ⟨b, o + 6, none⟩ = some vt ∧ w.cell? ⟨b, o + 7, none⟩ = some vk ∧ Cells8 w b' o' q ub un ut uk := by
  obtain ⟨h0, h1, h2, h3, h4, h5, h6, h7⟩ := h
  exact ⟨h0, h1, h2, h3, h4, h5, h6, h7, h'⟩
theorem RuleCells.rd {w : World} {b o : Nat} {r : RuleD} {vb vn vt vk : Value} (h : RuleCells w b o r vb vn vt vk) : RdRule w (ruleCells r vb vn vt vk) r := ⟨vb, vn, vt, vk, rfl, h.rb, h.rn, h.rt, h.rk⟩
theorem RuleCells.drew {w : World} {b o : Nat} {r : RuleD} {vb vn vt vk : Value} (h : RuleCells w b o r vb vn vt vk) : RuleCells w.drew b o r vb vn vt vk := h.keep fun _ _ => rfl

end Go.Proofs.Ytabdcngkdgadfaa

namespace Go.Proofs.Ytabdcngkdgadfaa
open Go.RowKit

/-- Three blocks, one behind the other, each known whole. -/
def Three (w : World) (B : Nat) (t1 t2 t3 : TypeId) (b1 b2 b3 : Array Value) : Prop :=
  w.heap[B]? = some (.cells b1 t1 (0, 0)) ∧ w.heap[B + 1]? = some (.cells b2 t2 (0, 0)) ∧ w.heap[B + 1 + 1]? = some (.cells b3 t3 (0, 0))
section
variable {w w' : World} {B : Nat} {t1 t2 t3 : TypeId} {b1 b2 b3 : Array Value}
theorem Three.new (w : World) (t1 t2 t3 : TypeId) (b1 b2 b3 : Array Value) : Three (((w.alloc (.cells b1 t1)).alloc (.cells b2 t2)).alloc (.cells b3 t3)) w.heap.size t1 t2 t3 b1 b2 b3 := by
  refine ⟨?_, ?_, ?_⟩
  · rw [Below.heap_alloc _ _ _ (by simp; omega), Below.heap_alloc _ _ _ (by simp)]; exact heap_alloc_new w _
  · rw [Below.heap_alloc _ _ _ (by simp)]
    have := heap_alloc_new (w.alloc (.cells b1 t1)) (.cells b2 t2)
    simpa using this
  · have := heap_alloc_new ((w.alloc (.cells b1 t1)).alloc (.cells b2 t2)) (.cells b3 t3)
    simpa using this
theorem Three.lt (h : Three w B t1 t2 t3 b1 b2 b3) : B + 1 + 1 < w.heap.size := (Array.getElem?_eq_some_iff.1 h.2.2).1
theorem Three.below (h : Three w B t1 t2 t3 b1 b2 b3) (hb : Below w.heap.size w w') : Three w' B t1 t2 t3 b1 b2 b3 := by
  have hl := h.lt
  exact ⟨(hb.block _ (by omega)).trans h.1, (hb.block _ (by omega)).trans h.2.1, (hb.block _ hl).trans h.2.2⟩
theorem Three.set (h : Three w B t1 t2 t3 b1 b2 b3) (j : Nat) (v : Value) : Three (w.setCell ⟨B + 1 + 1, j, none⟩ v) B t1 t2 t3 b1 b2 (b3.setIfInBounds j v) := by
  refine ⟨?_, ?_, ?_⟩
  · rw [heap_setCell_other w ⟨B + 1 + 1, j, none⟩ B v (by show B ≠ B + 1 + 1; omega)]; exact h.1
  · rw [heap_setCell_other w ⟨B + 1 + 1, j, none⟩ (B + 1) v (by show B + 1 ≠ B + 1 + 1; omega)]; exact h.2.1
  · have := h.2.2
    simp [World.setCell, Array.getElem?_modify, this]
theorem Three.box (h : Three w B t1 t2 t3 b1 b2 b3) (j : Nat) : w.cell? ⟨B, j, none⟩ = b1[j]? := cell_of_row w B j b1 t1 (0, 0) h.1
theorem Three.res (h : Three w B t1 t2 t3 b1 b2 b3) (j : Nat) : w.cell? ⟨B + 1, j, none⟩ = b2[j]? := cell_of_row w (B + 1) j b2 t2 (0, 0) h.2.1
theorem Three.out (h : Three w B t1 t2 t3 b1 b2 b3) (j : Nat) : w.cell? ⟨B + 1 + 1, j, none⟩ = b3[j]? := cell_of_row w (B + 1 + 1) j b3 t3 (0, 0) h.2.2
theorem Three.fre (h : Three w B t1 t2 t3 b1 b2 b3) (j : Nat) : w.frozen? ⟨B + 1, j, none⟩ = false ∧ w.frozen? ⟨B + 1 + 1, j, none⟩ = false := by
  obtain ⟨h1, h2, h3⟩ := h
  exact ⟨by simp [World.frozen?, h2], by simp [World.frozen?, h3]⟩
end

/-- A new rule. -/
def MadeRule (r : RuleD) (w : World) (e : Ending) (w' : World) : Prop :=
  ∃ vb vn vt vk, e = .returned (.agg #[.string r.name, .int .i64 r.kind, .int .i64 r.size, .bool r.little, vb, vn, vt, vk]) ∧ OwnRule w' w.heap.size (ruleCells r vb vn vt vk) r ∧ (blocks (ruleCells r vb vn vt vk)).Nodup ∧ Below w.heap.size w w'

theorem blocks_nodup {r : RuleD} {vb vn vt vk : Value} {a b c d e : Nat} (h1 : ∀ k, vb.ownBlock = some k → a ≤ k ∧ k < b) (h2 : ∀ k, vn.ownBlock = some k → b ≤ k ∧ k < c) (h3 : ∀ k, vt.ownBlock = some k → c ≤ k ∧ k < d) (h4 : ∀ k, vk.ownBlock = some k → d ≤ k ∧ k < e)
    (hc : b ≤ c) (hd : c ≤ d) : (blocks (ruleCells r vb vn vt vk)).Nodup := by
  rw [blocks_rule]
  unfold blocks
  cases e1 : vb.ownBlock <;> cases e2 : vn.ownBlock <;> cases e3 : vt.ownBlock <;> cases e4 : vk.ownBlock <;> simp [e1, e2, e3, e4] <;>
    (try have g1 := h1 _ e1) <;> (try have g2 := h2 _ e2) <;> (try have g3 := h3 _ e3) <;> (try have g4 := h4 _ e4) <;> omega

theorem own_set {w : World} {base : Nat} {e : TypeId} {size n g j : Nat} {v u : Value} {xs : List Value} (h : w.ownsRow base e size v n xs) (hg : g < base) : (w.setCell ⟨g, j, none⟩ u).ownsRow base e size v n xs :=
  h.kept (row := some g) ⟨rfl, rfl, rfl, by simp [World.setCell], fun i _ hne => heap_setCell_other w ⟨g, j, none⟩ i u (fun e => hne (by simp [e]))⟩ (by
    right; intro e
    have := (h.lt g e).1
    omega)

/-- The world behind the last stores. -/
theorem own_nine {w : World} {base B : Nat} {e : TypeId} {size n : Nat} {v : Value} {xs : List Value} (h : w.ownsRow base e size v n xs) (h1 : B + 1 + 1 < base) (u u0 u1 u2 u3 u4 u5 u6 u7 : Value) :
    (((((((((w.setCell ⟨B + 1 + 1, 7, none⟩ u).setCell ⟨B + 1, 0, none⟩ u0).setCell ⟨B + 1, 1, none⟩ u1).setCell ⟨B + 1, 2, none⟩ u2).setCell ⟨B + 1, 3, none⟩ u3).setCell ⟨B + 1, 4, none⟩ u4).setCell ⟨B + 1, 5, none⟩ u5).setCell ⟨B + 1, 6, none⟩ u6).setCell ⟨B + 1, 7, none⟩ u7).ownsRow base e size v n xs :=
  have h2 : B + 1 < base := by omega
  own_set (own_set (own_set (own_set (own_set (own_set (own_set (own_set (own_set h h1) h2) h2) h2) h2) h2) h2) h2) h2
theorem below_nine {w0 w : World} {B : Nat} (h : Below B w0 w) (u u0 u1 u2 u3 u4 u5 u6 u7 : Value) :
    Below B w0 (((((((((w.setCell ⟨B + 1 + 1, 7, none⟩ u).setCell ⟨B + 1, 0, none⟩ u0).setCell ⟨B + 1, 1, none⟩ u1).setCell ⟨B + 1, 2, none⟩ u2).setCell ⟨B + 1, 3, none⟩ u3).setCell ⟨B + 1, 4, none⟩ u4).setCell ⟨B + 1, 5, none⟩ u5).setCell ⟨B + 1, 6, none⟩ u6).setCell ⟨B + 1, 7, none⟩ u7) :=
  have h1 : B ≤ B + 1 + 1 := by omega
  have h2 : B ≤ B + 1 := by omega
  ((((((((h.setCell (p := ⟨B + 1 + 1, 7, none⟩) h1 u).setCell (p := ⟨B + 1, 0, none⟩) h2 u0).setCell (p := ⟨B + 1, 1, none⟩) h2 u1).setCell (p := ⟨B + 1, 2, none⟩) h2 u2).setCell (p := ⟨B + 1, 3, none⟩) h2 u3).setCell (p := ⟨B + 1, 4, none⟩) h2 u4).setCell (p := ⟨B + 1, 5, none⟩) h2 u5).setCell (p := ⟨B + 1, 6, none⟩) h2 u6).setCell (p := ⟨B + 1, 7, none⟩) h2 u7

end Go.Proofs.Ytabdcngkdgadfaa

namespace Go.Proofs.Ytabdcngkdgadfaa
open Go.RowKit

theorem info_Rule : (Try.prog.info? 35).map (fun i => (i.zero, i.size, i.bytes)) = some (some (.agg #[.string ⟨#[]⟩, .int .i64 0, .int .i64 0, .bool false, .slice none 0 0, .slice none 0 0, .slice none 0 0, .slice none 0 0]), 8, 136) := by kernel_rfl

def setMany : List Value → Nat → List Value → List Value
  | xs, _, [] => xs
  | xs, o, v :: r => setMany (xs.set o v) (o + 1) r
theorem setMany_at (vs : List Value) : ∀ (A Z : List Value), vs.length ≤ Z.length → setMany (A ++ Z) A.length vs = A ++ vs ++ Z.drop vs.length := by
  induction vs with
  | nil => intro A Z _; simp [setMany]
  | cons v r ih =>
    intro A Z h
    cases Z with
    | nil => simp at h
    | cons z Z =>
      have e : (A ++ z :: Z).set A.length v = (A ++ [v]) ++ Z := by simp
      have e2 : A.length + 1 = (A ++ [v]).length := by simp
      rw [setMany, e, e2, ih (A ++ [v]) Z (by simpa using h)]
      simp
theorem own_sets {base g n cap size : Nat} {e : TypeId} (vs : List Value) : ∀ (o : Nat) (w : World) (xs : List Value), w.ownsRow base e size (.slice (some ⟨g, 0, none⟩) n cap) n xs →
    (w.setCells g o vs).ownsRow base e size (.slice (some ⟨g, 0, none⟩) n cap) n (setMany xs o vs) ∧ w.grownBy (w.setCells g o vs) (some g) := by
  induction vs with
  | nil => intro o w xs h; exact ⟨h, World.grownBy.refl w _⟩
  | cons v r ih =>
    intro o w xs h
    have h1 := h.stored o v
    have h2 := ih (o + 1) _ _ h1.1
    exact ⟨h2.1, grown_trans' h1.2 h2.2⟩

/-- New rules. -/
def MadeRules (l : List RuleD) (w : World) (e : Ending) (w' : World) : Prop := ∃ v, e = .returned v ∧ OwnRules w' w.heap.size v l ∧ Below w.heap.size w w'

theorem own_heap {w : World} {base g n cap size : Nat} {e : TypeId} {xs : List Value} (h : w.ownsRow base e size (.slice (some ⟨g, 0, none⟩) n cap) n xs) : ∃ cur, w.heap[g]? = some (.cells cur e (0, 0)) := by
  rcases h.2 with ⟨h, _⟩ | ⟨g', cap', cur, hv, _, hg, _⟩
  · cases h
  · injection hv with hv _ _
    injection hv with hv
    injection hv with hv
    subst hv
    exact ⟨cur, hg⟩

/-- How much a rule may hold. -/
def RuleSmall (r : RuleD) : Prop := r.bytes.length ≤ 1048576 ∧ r.names.length ≤ 1048576 ∧ r.tags.length ≤ 1048576 ∧ r.kids.length ≤ 1048576

theorem rd_oneCell {w : World} {v : Value} {size n : Nat} {xs : List Value} (h : Rd w v size n xs) : v.oneCell' = true := by
  obtain ⟨_, A, c, rfl, _⟩ := h
  rfl
theorem rule_oneCell' {w : World} {cs : List Value} {r : RuleD} (h : RdRule w cs r) : ∀ v ∈ cs, v.oneCell' = true := by
  obtain ⟨vb, vn, vt, vk, rfl, h1, h2, h3, h4⟩ := h
  intro v hv
  simp only [ruleCells, List.mem_cons, List.not_mem_nil, or_false] at hv
  rcases hv with rfl | rfl | rfl | rfl | rfl | rfl | rfl | rfl
  · rfl
  · rfl
  · rfl
  · rfl
  · exact rd_oneCell h1
  · exact rd_oneCell h2
  · exact rd_oneCell h3
  · exact rd_oneCell h4
theorem rule_oneCell {w : World} {lo : Nat} {cs : List Value} {r : RuleD} (h : OwnRule w lo cs r) : ∀ v ∈ cs, v.oneCell' = true := rule_oneCell' h.rd

/-- The rounds' relation. -/
def RulesInv (w : World) (l : List RuleD) (zs : List Value) (k : Nat) (wr : World) : Prop :=
  ∃ css : List (List Value), css.length = k ∧ wr.ownsRow w.heap.size 35 8 (.slice (some ⟨w.heap.size, 0, none⟩) l.length l.length) l.length (css.flatten ++ zs.drop (k * 8)) ∧
    (∀ (i : Nat) (cs : List Value) (r : RuleD), css[i]? = some cs → l[i]? = some r → OwnRule wr (w.heap.size + 1) cs r) ∧ (∀ b ∈ blocks css.flatten, b < wr.heap.size) ∧ (blocks css.flatten).Nodup
theorem RulesInv.step {w wr w2 : World} {l : List RuleD} {zs : List Value} {k : Nat} (h : RulesInv w l zs k wr) (hk : k < l.length) (hz : zs.length = l.length * 8) {cs : List Value} (hcs : OwnRule w2 wr.heap.size cs l[k]) (hnd : (blocks cs).Nodup) (hb : Below wr.heap.size wr w2) (hw : w.heap.size < wr.heap.size) :
    RulesInv w l zs (k + 1) (w2.setCells w.heap.size (k * 8) cs) ∧ w2.grownBy (w2.setCells w.heap.size (k * 8) cs) (some w.heap.size) := by
  obtain ⟨css, hl, hown, hr, hlt, hn⟩ := h
  have h8 : ∀ cs ∈ css, cs.length = 8 := by
    intro cs hc
    obtain ⟨i, hi, rfl⟩ := List.getElem_of_mem hc
    exact (hr i css[i] l[i] (List.getElem?_eq_getElem hi) (List.getElem?_eq_getElem (by omega))).len
  have hfl := flat_len h8
  have hc8 := hcs.len
  have hown2 := own_below hown hb
  obtain ⟨cur, hcur⟩ := own_heap hown2
  have hst := own_sets cs (k * 8) w2 _ hown2
  have e : setMany (css.flatten ++ zs.drop (k * 8)) (k * 8) cs = (css ++ [cs]).flatten ++ zs.drop ((k + 1) * 8) := by
    have h0 : k * 8 = css.flatten.length := by rw [hfl, hl]
    rw [h0, setMany_at cs _ _ (by rw [List.length_drop, hfl, hl, hz, hc8]; omega), List.drop_drop, hc8, hfl]
    have e3 : css.length * 8 + 8 = (k + 1) * 8 := by omega
    rw [hl] at e3 ⊢
    rw [e3]
    simp
  rw [e] at hst
  refine ⟨⟨css ++ [cs], by simp [hl], hst.1, ?_, ?_, ?_⟩, hst.2⟩
  · intro i c r hi hlr
    rcases Nat.lt_or_ge i css.length with h1 | h1
    · rw [List.getElem?_append_left h1] at hi
      exact ((hr i c r hi hlr).below hb).kept hst.2 hcur (by decide) (by decide) (by decide)
    · rw [List.getElem?_append_right h1] at hi
      have h2 : i - css.length = 0 := by
        rcases Nat.eq_zero_or_pos (i - css.length) with h | h
        · exact h
        · rw [List.getElem?_eq_none (by simp; omega)] at hi; cases hi
      rw [h2] at hi
      simp at hi
      have h3 : i = k := by omega
      subst h3
      rw [List.getElem?_eq_getElem hk] at hlr
      cases hlr
      subst hi
      exact (hcs.mono (by omega)).kept hst.2 hcur (by decide) (by decide) (by decide)
  · intro b hb'
    have hsz := hst.2.size
    rw [List.flatten_append, blocks_append] at hb'
    rcases List.mem_append.1 hb' with h1 | h1
    · have := hlt b h1; have := hb.size; omega
    · have := (hcs.blocks_lt b (by simpa using h1)).2; omega
  · rw [List.flatten_append, blocks_append]
    rw [List.nodup_append]
    refine ⟨hn, by simpa using hnd, ?_⟩
    intro a ha b hb' hab
    have h1 := hlt a ha
    have h2 := (hcs.blocks_lt b (by simpa using hb')).1
    omega

theorem OwnRules.setFar {w : World} {lo : Nat} {v : Value} {l : List RuleD} (h : OwnRules w lo v l) (g j : Nat) (u : Value) (hg : g < lo) : OwnRules (w.setCell ⟨g, j, none⟩ u) lo v l := by
  obtain ⟨css, hl, hown, hr, hn⟩ := h
  refine ⟨css, hl, own_set hown hg, fun i cs r hi hl => ?_, hn⟩
  obtain ⟨vb, vn, vt, vk, e, h1, h2, h3, h4⟩ := hr i cs r hi hl
  exact ⟨vb, vn, vt, vk, e, own_set h1 hg, own_set h2 hg, own_set h3 hg, own_set h4 hg⟩

/-- A new description. -/
def MadeDesc (l : List RuleD) (w : World) (e : Ending) (w' : World) : Prop := ∃ v, e = .returned (.agg #[v]) ∧ OwnRules w' w.heap.size v l ∧ Below w.heap.size w w'

end Go.Proofs.Ytabdcngkdgadfaa

namespace Go.Proofs.Ytabdcngkdgadfaa
open Go.RowKit

def total (l : List ByteArray) : Nat := (l.map (·.size)).sum
theorem total_step (l : List ByteArray) (k : Nat) (h : k < l.length) : total (l.take (k + 1)) = total (l.take k) + l[k].size := by
  unfold total
  rw [List.take_succ_eq_append_getElem h, List.map_append, List.sum_append]
  simp
theorem total_take (l : List ByteArray) (k : Nat) : total (l.take k) ≤ total l := by
  unfold total
  induction l generalizing k with
  | nil => simp
  | cons s r ih =>
    cases k with
    | zero => simp
    | succ k => have := ih k; simp at this ⊢; omega
theorem total_at (l : List ByteArray) (k : Nat) (h : k < l.length) : total (l.take k) + l[k].size ≤ total l := by
  rw [← total_step l k h]; exact total_take l _
theorem total_mem {l : List ByteArray} {s : ByteArray} (h : s ∈ l) : s.size ≤ total l := by
  obtain ⟨k, hk, rfl⟩ := List.getElem_of_mem h
  have := total_at l k hk
  omega

/-- What is left, or -1. -/
def szS (l : List ByteArray) (left : Int) : Int := if (l.length : Int) + total l ≤ left then left - l.length - total l else -1

end Go.Proofs.Ytabdcngkdgadfaa

namespace Go.Proofs.Ytabdcngkdgadfaa
open Go.RowKit

def szN (n : Nat) (left : Int) : Int := if (n : Int) ≤ left then left - n else -1
theorem szN_pos {n : Nat} {left : Int} (h : (n : Int) ≤ left) : szN n left = left - n := by unfold szN; rw [if_pos h]
theorem szN_neg {n : Nat} {left : Int} (h : ¬ (n : Int) ≤ left) : szN n left = -1 := by unfold szN; rw [if_neg h]
theorem szS_pos {l : List ByteArray} {left : Int} (h : (l.length : Int) + total l ≤ left) : szS l left = left - l.length - total l := by unfold szS; rw [if_pos h]
theorem szS_no {l : List ByteArray} {left : Int} (h : ¬ (l.length : Int) + total l ≤ left) : szS l left = -1 := by unfold szS; rw [if_neg h]

def ruleSize (r : RuleD) : Nat := r.name.size + r.bytes.length + r.names.length + total r.names + r.tags.length + r.kids.length
theorem szR_go {r : RuleD} {left : Int} (h : (ruleSize r : Int) ≤ left) : szN (ruleSize r) left = left - r.name.size - r.bytes.length - r.names.length - total r.names - r.tags.length - r.kids.length := by
  rw [szN_pos h]; unfold ruleSize; omega

def rulesSize (l : List RuleD) : Nat := (l.map ruleSize).sum
theorem rulesSize_step (l : List RuleD) (k : Nat) (h : k < l.length) : rulesSize (l.take (k + 1)) = rulesSize (l.take k) + ruleSize l[k] := by
  unfold rulesSize
  rw [List.take_succ_eq_append_getElem h, List.map_append, List.sum_append]
  simp
theorem rulesSize_take (l : List RuleD) (k : Nat) : rulesSize (l.take k) ≤ rulesSize l := by
  unfold rulesSize
  induction l generalizing k with
  | nil => simp
  | cons s r ih =>
    cases k with
    | zero => simp
    | succ k => have := ih k; simp at this ⊢; omega
theorem rulesSize_at (l : List RuleD) (k : Nat) (h : k < l.length) : rulesSize (l.take k) + ruleSize l[k] ≤ rulesSize l := by
  rw [← rulesSize_step l k h]; exact rulesSize_take l _
theorem rulesSize_mem {l : List RuleD} {r : RuleD} (h : r ∈ l) : ruleSize r ≤ rulesSize l := by
  obtain ⟨k, hk, rfl⟩ := List.getElem_of_mem h
  have := rulesSize_at l k hk
  omega
/-- The whole of a description. -/
def descSize (l : List RuleD) : Nat := l.length + rulesSize l

end Go.Proofs.Ytabdcngkdgadfaa

namespace Go.Proofs.Ytabdcngkdgadfaa
open Go.RowKit Go.ChangeShapes Go.WideShapes Go.ChangeAt
set_option maxRecDepth 100000

section
variable {H : Type} {enc : TypeId × Value → H} {P : Program} {W : World} {t e : TypeId} {x : DataW H × List MemPlace} {cs : List Value} {fuel : Nat}

theorem cells_texts (ht : P.underlying t = some (.slice e)) (he : P.underlying e = some .string) (hc : P.cellsOf e = 1)
    (hf : DataW.trod enc P W 0 (fun _ => true) true fuel t cs = some x) : ∃ (v : Value) (l : List ByteArray), cs = [v] ∧ Rd W v 1 l.length (cS l) ∧ ∀ x ∈ l, x.size ≤ maxLen := by
  rcases open_strings ht he hc hf with ⟨hcs, _⟩ | ⟨x, len, c, ss, hcs, _, hl, hm, hz, _, hcell, hws⟩
  · exact ⟨_, [], hcs, ⟨by simp [cS], none, 0, rfl, Nat.le_refl _, Nat.zero_le _, fun h => by simp [cS] at h⟩, by simp⟩
  · simp only [if_true] at hz
    have hlen : (ss.take len).length = len := by simp; omega
    refine ⟨_, ss.take len, hcs, ?_, fun y hy => hws y (List.mem_of_mem_take hy)⟩
    rw [hlen]
    refine rd_of_cells (by rw [cS_len, hlen]) hl hm fun i u hu => ?_
    have hi : i < len := by
      have := (List.getElem?_eq_some_iff.1 hu).1
      rwa [cS_len, hlen] at this
    have hi' : i < ss.length := by omega
    rw [hcell i hi']
    simp [cS, hi, hi'] at hu
    simp [hi', hu]

theorem cells_nums (ht : P.underlying t = some (.slice e)) (he : P.underlying e = some (.int .i64)) (hc : P.cellsOf e = 1)
    (hf : DataW.trod enc P W 0 (fun _ => true) true fuel t cs = some x) : ∃ (v : Value) (l : List Int), cs = [v] ∧ Rd W v 1 l.length (cI l) ∧ ∀ x ∈ l, fits x := by
  rcases open_ints ht he hc hf with ⟨hcs, _⟩ | ⟨x, len, c, ss, hcs, _, hl, hm, hz, _, hcell, hws⟩
  · exact ⟨_, [], hcs, ⟨by simp [cI], none, 0, rfl, Nat.le_refl _, Nat.zero_le _, fun h => by simp [cI] at h⟩, by simp⟩
  · simp only [if_true] at hz
    have hlen : (ss.take len).length = len := by simp; omega
    refine ⟨_, ss.take len, hcs, ?_, fun y hy => wf_int (hws y (List.mem_of_mem_take hy))⟩
    rw [hlen]
    refine rd_of_cells (by rw [cI_len, hlen]) hl hm fun i u hu => ?_
    have hi : i < len := by
      have := (List.getElem?_eq_some_iff.1 hu).1
      rwa [cI_len, hlen] at this
    have hi' : i < ss.length := by omega
    rw [hcell i hi']
    simp [cI, hi, hi'] at hu
    simp [hi', hu]

theorem cells_bytes (ht : P.underlying t = some (.slice e)) (he : P.underlying e = some (.int .u8)) (hc : P.cellsOf e = 1)
    (hf : DataW.trod enc P W 0 (fun _ => true) true fuel t cs = some x) : ∃ (v : Value) (l : List UInt8), cs = [v] ∧ Rd W v 1 l.length (cB l) := by
  rcases open_ints ht he hc hf with ⟨hcs, _⟩ | ⟨x, len, c, zs, hcs, _, hl, hm, hz, _, hcell, hws⟩
  · exact ⟨_, [], hcs, ⟨by simp [cB], none, 0, rfl, Nat.le_refl _, Nat.zero_le _, fun h => by simp [cB] at h⟩⟩
  · simp only [if_true] at hz
    have hlen : ((zs.take len).map fun n => n.toNat.toUInt8).length = len := by simp; omega
    refine ⟨_, (zs.take len).map fun n => n.toNat.toUInt8, hcs, ?_⟩
    rw [hlen]
    refine rd_of_cells (by rw [cB_len, hlen]) hl hm fun i u hu => ?_
    have hi : i < len := by
      have := (List.getElem?_eq_some_iff.1 hu).1
      rwa [cB_len, hlen] at this
    have hi' : i < zs.length := by omega
    rw [hcell i hi']
    have hb := wf_u8 (hws zs[i] (List.getElem_mem hi'))
    have hz' : ((zs[i].toNat.toUInt8.toNat : Nat) : Int) = zs[i] := by
      have : zs[i].toNat < 256 := by omega
      simp [Nat.toUInt8, UInt8.toNat_ofNat', Nat.mod_eq_of_lt this]; omega
    simp [cB, hi, hi'] at hu
    rw [← hu]
    simp [hi']
    simpa using hz'.symm
end

section
variable {H : Type} {enc : TypeId × Value → H} {W : World} {x : DataW H × List MemPlace} {cs : List Value} {fuel : Nat}

theorem cells_cut {i j : Nat} {cs ds : List Value} (h : (cs.drop i).take j = ds) (k : Nat) (hk : k < j) : cs[i + k]? = ds[k]? := by
  subst h
  rw [List.getElem?_take, if_pos hk, List.getElem?_drop]

end
end Go.Proofs.Ytabdcngkdgadfaa

namespace Go.Proofs.Ytabdcngkdgadfaa
open Go.RowKit

theorem below_box {w : World} {v : Value} {t : TypeId} : Below w.heap.size w (w.alloc (.cells #[v] t)) := (Below.refl w.heap.size w).alloc (Nat.le_refl _) _

set_option maxHeartbeats 1000000 in
theorem i_RootOf (d : Value) (l : List RuleD) (w : World) (hd : RdDesc w d l) :
    Calls Try.prog 8 #[d] w fun e w' => e = .returned (.int .i64 ((l.length : Int) - 1)) ∧ Below w.heap.size w w' := by
  obtain ⟨v, rfl, hv⟩ := hd
  obtain ⟨A, c, rfl, hnc, hcm, _⟩ := hv.all
  unfold maxLen at hcm
  go_enter Try.func8, Try.ntmps8
  go_wp2_with fail
  go_ret
  exact ⟨rfl, below_box⟩
theorem str_eqs {s t : ByteArray} (h : s = t) : (s.toList == t.toList) = true := by rw [h]; simp

set_option maxHeartbeats 2000000 in
theorem i_FindRule (d : Value) (l : List RuleD) (s : ByteArray) (w : World) (hd : RdDesc w d l) :
    Calls Try.prog 10 #[d, .string s] w fun e w' => e = .returned (.int .i64 (findL l s)) ∧ Below w.heap.size w w' := by
  obtain ⟨v, rfl, hv⟩ := hd
  obtain ⟨A, c, rfl, hnc, hcm, hcell⟩ := hv.all
  unfold maxLen at hcm
  have HC := Lib.hid hcell
  clear hcell hv
  obtain ⟨F, hF⟩ : ∃ F, F = findL l s := ⟨_, rfl⟩
  have HF := Lib.hid hF
  rw [← hF]
  clear hF
  obtain ⟨n, hn⟩ : ∃ n, n = l.length := ⟨_, rfl⟩
  have HN := Lib.hid hn
  rw [← hn] at hnc ⊢
  clear hn
  go_enter Try.func10, Try.ntmps10
  go_wp2_with fail
  go_loopw [10] (fun i wr => ∃ k : Nat, k ≤ n ∧ i = .int .i64 k ∧ (∀ j (h : j < l.length), j < k → l[j].name ≠ s) ∧ Below w.heap.size w wr) (fun i _ => n - (intOf i).toNat)
  case atStart => exact ⟨0, Nat.zero_le _, rfl, fun j _ h => absurd h (by omega), below_box⟩
  case round =>
    obtain ⟨k, hk, rfl, hno, hbr⟩ := hrel
    have HO := Lib.hid hno
    clear hno
    by_cases hlt : k < n
    · have hkl : k < l.length := by rw [← HN.out]; exact hlt
      obtain ⟨b, off, rfl, hc⟩ := HC.out (by omega)
      obtain ⟨vb, vn, vt, vk, hr⟩ := hc k hkl
      obtain ⟨⟨Ab, cb, rfl⟩, ⟨An, cn, rfl⟩, ⟨At, ct, rfl⟩, ⟨Ak, ck, rfl⟩⟩ := hr.slices
      obtain ⟨D0, D1, D2, D3, D4, D5, D6, D7⟩ := (hr.below hbr).eight
      have HBR := Lib.hid hbr
      obtain ⟨r, hr0⟩ : ∃ r, r = l[k] := ⟨_, rfl⟩
      rw [← hr0] at D0 D1 D2 D3 D4 D5 D6 D7
      have HR := Lib.hid hr0
      clear hr hc hbr hr0
      by_cases he : r.name = s
      · have hq := str_eqs he
        have hfin : Hid (F = k) := by show _ = _; rw [HF.out]; exact findL_at hkl HO.out (by rw [← HR.out]; exact he)
        clear he
        go_wp2_with fail
        go_ret
        exact ⟨ret_int hfin.out.symm, HBR.out.alloc HBR.out.size _⟩
      · have hq := str_ne he
        have hall : Hid (∀ j (h : j < l.length), j < k + 1 → l[j].name ≠ s) := by
          intro j hj hjk
          rcases Nat.lt_or_ge j k with h1 | h1
          · exact HO.out j hj h1
          · obtain rfl : j = k := by omega
            rw [← HR.out]; exact he
        clear he
        go_wp2_with fail
        go_roundw
        case rel => exact ⟨k + 1, by omega, by go_num, hall.out, HBR.out.alloc HBR.out.size _⟩
        case measure => simp [intOf]; omega
    · obtain rfl : k = n := by omega
      have hfin : Hid (F = -1) := by show _ = _; rw [HF.out]; exact findL_none fun j hj => HO.out j hj (by have := HN.out; omega)
      go_wp2_with fail
      go_ret
      exact ⟨ret_int hfin.out.symm, hbr⟩

end Go.Proofs.Ytabdcngkdgadfaa

namespace Go.Proofs.Ytabdcngkdgadfaa
open Go.RowKit

theorem desc_len {l : List RuleD} (h : (descSize l : Int) ≤ 1048576) : l.length ≤ 1048576 := by unfold descSize at h; omega
theorem desc_small {l : List RuleD} (h : (descSize l : Int) ≤ 1048576) : ∀ r ∈ l, RuleSmall r := by
  intro r hr
  have h1 := rulesSize_mem hr
  unfold descSize at h
  unfold ruleSize at h1
  exact ⟨by omega, by omega, by omega, by omega⟩

end Go.Proofs.Ytabdcngkdgadfaa

namespace Go.Proofs.Ytabdcngkdgadfaa
open Go.RowKit
set_option linter.unusedVariables false

set_option maxHeartbeats 1000000 in
theorem i_hasRule (d : Value) (l : List RuleD) (i : Int) (w : World) (hd : RdDesc w d l) :
    Calls Try.prog 21 #[d, .int .i64 i] w fun e w' => e = .returned (.bool (hasL l i)) ∧ Below w.heap.size w w' := by
  obtain ⟨v, rfl, hv⟩ := hd
  obtain ⟨A, c, rfl, hnc, hcm, _⟩ := hv.all
  unfold maxLen at hcm
  obtain ⟨F, hF⟩ : ∃ F, F = hasL l i := ⟨_, rfl⟩
  have HF := Lib.hid hF
  rw [← hF]
  clear hF hv
  by_cases h0 : 0 ≤ i
  · by_cases h1 : i < (l.length : Int)
    · have hf := Lib.hid (hasL_yes h0 h1)
      go_enter Try.func21, Try.ntmps21
      go_wp2_with fail
      go_ret
      exact ⟨ret_bool (by rw [HF.out, hf.out]), below_box⟩
    · have hf := Lib.hid (hasL_no (l := l) (i := i) (by omega))
      go_enter Try.func21, Try.ntmps21
      go_wp2_with fail
      go_ret
      exact ⟨ret_bool (by rw [HF.out, hf.out]), below_box⟩
  · have hf := Lib.hid (hasL_no (l := l) (i := i) (by omega))
    go_enter Try.func21, Try.ntmps21
    go_wp2_with fail
    go_ret
    exact ⟨ret_bool (by rw [HF.out, hf.out]), below_box⟩

theorem in_hasL (l : List RuleD) (i : Int) : (decide (0 ≤ i) && decide (i ≤ (l.length : Int) - 1)) = hasL l i := by
  unfold hasL
  rw [Bool.eq_iff_iff]
  simp only [Bool.and_eq_true, decide_eq_true_eq]
  omega

theorem hasL_iff {l : List RuleD} {i : Int} : hasL l i = true ↔ 0 ≤ i ∧ i < l.length := by simp [hasL]
theorem limit_none {l : List RuleD} {i : Int} (h : hasL l i = false) : limitL l i = -1 := by unfold limitL; rw [h]; simp
theorem limit_kind {l : List RuleD} {i : Int} (h : (ruleAt l i).kind ≠ 1) : limitL l i = -1 := by unfold limitL; rw [if_neg (fun hh => h hh.2)]
theorem limit_size {l : List RuleD} {i : Int} (h : ¬ (1 ≤ (ruleAt l i).size ∧ (ruleAt l i).size ≤ 4)) : limitL l i = -1 := by
  unfold limitL limitOf
  repeat' split
  all_goals omega
theorem limit_is {l : List RuleD} {i : Int} (h : hasL l i = true) (hk : (ruleAt l i).kind = 1) : limitL l i = limitOf (ruleAt l i).size := by unfold limitL; rw [if_pos ⟨h, hk⟩]

theorem AllCells.at_ {w : World} {A : Option Addr} {l : List RuleD} (h : AllCells w A l) {i : Int} (hi : hasL l i = true) :
    ∃ b off vb vn vt vk, A = some ⟨b, off, none⟩ ∧ RuleCells w b (off + i.toNat * 8) (ruleAt l i) vb vn vt vk := by
  rw [hasL_iff] at hi
  obtain ⟨b, off, hA, hc⟩ := h (by omega)
  obtain ⟨vb, vn, vt, vk, hr⟩ := hc i.toNat (by omega)
  have e : ruleAt l i = l[i.toNat]'(by omega) := by
    have := ruleAt_eq (l := l) (k := i.toNat) (by omega)
    rwa [Int.toNat_of_nonneg hi.1] at this
  rw [← e] at hr
  exact ⟨b, off, vb, vn, vt, vk, hA, hr⟩

set_option maxHeartbeats 4000000 in
theorem i_IntegerLimit (d : Value) (l : List RuleD) (i : Int) (hi : -9223372036854775808 ≤ i ∧ i ≤ 9223372036854775807) (w : World) (hd : RdDesc w d l) :
    Calls Try.prog 13 #[d, .int .i64 i] w fun e w' => e = .returned (.int .i64 (limitL l i)) ∧ Below w.heap.size w w' := by
  obtain ⟨v, rfl, hv⟩ := hd
  obtain ⟨A, c, rfl, hnc, hcm, hcell⟩ := hv.all
  unfold maxLen at hcm
  obtain ⟨F, hF⟩ : ∃ F, F = limitL l i := ⟨_, rfl⟩
  have HF := Lib.hid hF
  rw [← hF]
  clear hF
  have HC := Lib.hid hcell
  have HV := Lib.hid hv
  have B0 := Box.new w 26 #[.slice A l.length c]
  have X0 := Lib.hid B0
  clear hcell hv B0
  obtain ⟨H, hH⟩ : ∃ H, H = hasL l i := ⟨_, rfl⟩
  have HR := Lib.hid (fun w h => i_hasRule (.agg #[.slice A l.length c]) l i w h)
  have HH := Lib.hid hH
  clear hH
  go_enter Try.func13, Try.ntmps13
  go_wp2_with fail
  refine (HR.out _ ⟨_, rfl, HV.out.below below_box⟩).mono ?_
  rw [← HH.out]
  rintro e w1 ⟨rfl, hb1⟩
  have HB1 := Lib.hid (Below.then_ below_box hb1 (Nat.le_refl _))
  have X1 := (X0.out.below hb1).cell 0
  have X1' : w1.cell? ⟨w.heap.size, 0, none⟩ = some (.slice A l.length c) := X1
  clear hb1 X1
  cases H
  · have hf := Lib.hid (limit_none HH.out.symm)
    go_wp2_with fail
    go_ret
    exact ⟨ret_int (by rw [HF.out, hf.out]), HB1.out⟩
  · obtain ⟨b, off, vb, vn, vt, vk, rfl, hr⟩ := (HC.out.below HB1.out).at_ HH.out.symm
    have D1 := hr.c1
    have D2 := hr.c2
    have hi0 := hasL_iff.1 HH.out.symm
    have h0 : 0 ≤ i := hi0.1
    have h1 : i < (l.length : Int) := hi0.2
    obtain ⟨r, hr0⟩ : ∃ r, r = ruleAt l i := ⟨_, rfl⟩
    rw [← hr0] at D1 D2
    have HR0 := Lib.hid hr0
    clear hr hi0 hr0
    by_cases hk : r.kind = 1
    · have hf := Lib.hid (limit_is HH.out.symm (by rw [← HR0.out]; exact hk))
      rw [hk] at D1
      clear hk
      by_cases hsz : 1 ≤ r.size ∧ r.size ≤ 4
      · have hcs : r.size = 1 ∨ r.size = 2 ∨ r.size = 3 ∨ r.size = 4 := by omega
        clear hsz
        rcases hcs with hs | hs | hs | hs
        · rw [hs] at D2
          have hfin : Hid (F = 255) := by show _ = _; rw [HF.out, hf.out, ← HR0.out, hs]; rfl
          clear hs
          obtain ⟨P, hP⟩ : ∃ P : Int, P = 256 := ⟨_, rfl⟩
          have hP1 : 1 ≤ P := by omega
          have hP2 : P ≤ 4294967296 := by omega
          have HP := Lib.hid hP
          have hsh : Op.shift .shl .i64 1 .i64 8 = pure (.int .i64 P) := by rw [hP]; kernel_rfl
          clear hP
          go_wp2_with fail
          refine (i_In 1 1 4 _).mono ?_
          rw [inR_yes (by omega) (by omega)]
          rintro e w2 ⟨rfl, rfl⟩
          go_wp2_with fail
          go_ret
          exact ⟨ret_int (by rw [hfin.out, HP.out]; rfl), HB1.out⟩
        · rw [hs] at D2
          have hfin : Hid (F = 65535) := by show _ = _; rw [HF.out, hf.out, ← HR0.out, hs]; rfl
          clear hs
          obtain ⟨P, hP⟩ : ∃ P : Int, P = 65536 := ⟨_, rfl⟩
          have hP1 : 1 ≤ P := by omega
          have hP2 : P ≤ 4294967296 := by omega
          have HP := Lib.hid hP
          have hsh : Op.shift .shl .i64 1 .i64 16 = pure (.int .i64 P) := by rw [hP]; kernel_rfl
          clear hP
          go_wp2_with fail
          refine (i_In 2 1 4 _).mono ?_
          rw [inR_yes (by omega) (by omega)]
          rintro e w2 ⟨rfl, rfl⟩
          go_wp2_with fail
          go_ret
          exact ⟨ret_int (by rw [hfin.out, HP.out]; rfl), HB1.out⟩
        · rw [hs] at D2
          have hfin : Hid (F = 16777215) := by show _ = _; rw [HF.out, hf.out, ← HR0.out, hs]; rfl
          clear hs
          obtain ⟨P, hP⟩ : ∃ P : Int, P = 16777216 := ⟨_, rfl⟩
          have hP1 : 1 ≤ P := by omega
          have hP2 : P ≤ 4294967296 := by omega
          have HP := Lib.hid hP
          have hsh : Op.shift .shl .i64 1 .i64 24 = pure (.int .i64 P) := by rw [hP]; kernel_rfl
          clear hP
          go_wp2_with fail
          refine (i_In 3 1 4 _).mono ?_
          rw [inR_yes (by omega) (by omega)]
          rintro e w2 ⟨rfl, rfl⟩
          go_wp2_with fail
          go_ret
          exact ⟨ret_int (by rw [hfin.out, HP.out]; rfl), HB1.out⟩
        · rw [hs] at D2
          have hfin : Hid (F = 4294967295) := by show _ = _; rw [HF.out, hf.out, ← HR0.out, hs]; rfl
          clear hs
          obtain ⟨P, hP⟩ : ∃ P : Int, P = 4294967296 := ⟨_, rfl⟩
          have hP1 : 1 ≤ P := by omega
          have hP2 : P ≤ 4294967296 := by omega
          have HP := Lib.hid hP
          have hsh : Op.shift .shl .i64 1 .i64 32 = pure (.int .i64 P) := by rw [hP]; kernel_rfl
          clear hP
          go_wp2_with fail
          refine (i_In 4 1 4 _).mono ?_
          rw [inR_yes (by omega) (by omega)]
          rintro e w2 ⟨rfl, rfl⟩
          go_wp2_with fail
          go_ret
          exact ⟨ret_int (by rw [hfin.out, HP.out]; rfl), HB1.out⟩
      · have hg := Lib.hid (limit_size (l := l) (i := i) (by rw [← HR0.out]; exact hsz))
        go_wp2_with fail
        refine (i_In r.size 1 4 _).mono ?_
        rw [inR_no (by omega)]
        rintro e w2 ⟨rfl, rfl⟩
        clear hsz
        go_wp2_with fail
        go_ret
        exact ⟨ret_int (by rw [HF.out, hg.out]), HB1.out⟩
    · have hf := Lib.hid (limit_kind (l := l) (i := i) (by rw [← HR0.out]; exact hk))
      have hq1 : (r.kind == 1) = false := by simpa using hk
      have hq2 : (r.kind != 1) = true := by simpa using hk
      clear hk
      go_wp2_with fail
      go_ret
      exact ⟨ret_int (by rw [HF.out, hf.out]), HB1.out⟩

end Go.Proofs.Ytabdcngkdgadfaa

namespace Go.Proofs.Ytabdcngkdgadfaa
open Go.RowKit
set_option linter.unusedVariables false

theorem kid_no {l : List RuleD} {i k : Int} (h : ¬ (hasL l i = true ∧ 0 ≤ k ∧ k < ((ruleAt l i).kids.length : Int) ∧ hasL l ((ruleAt l i).kids.getD k.toNat 0) = true)) : kidL l i k = ⟨#[]⟩ := by unfold kidL; rw [if_neg h]
theorem kid_yes {l : List RuleD} {i k : Int} (h : hasL l i = true ∧ 0 ≤ k ∧ k < ((ruleAt l i).kids.length : Int) ∧ hasL l ((ruleAt l i).kids.getD k.toNat 0) = true) : kidL l i k = (ruleAt l ((ruleAt l i).kids.getD k.toNat 0)).name := by unfold kidL; rw [if_pos h]
theorem kids_cell {w : World} {v : Value} {l : List Int} {A : Option Addr} {n c : Nat} (h : Rd w v 1 l.length (cI l)) (hv : v = .slice A n c) {k : Int} (h0 : 0 ≤ k) (h1 : k < (l.length : Int)) :
    ∃ b off, A = some ⟨b, off, none⟩ ∧ w.cell? ⟨b, off + k.toNat, none⟩ = some (.int .i64 (l.getD k.toNat 0)) := by
  obtain ⟨_, A', c', e, _, _, hc⟩ := h
  rw [hv] at e
  injection e with e _ _
  subst e
  obtain ⟨b, off, hA, hcell⟩ := hc (by rw [cI_len]; omega)
  refine ⟨b, off, hA, ?_⟩
  have hk : k.toNat < l.length := by omega
  have := hcell k.toNat _ (cI_at hk)
  simpa [List.getD, hk] using this

end Go.Proofs.Ytabdcngkdgadfaa
