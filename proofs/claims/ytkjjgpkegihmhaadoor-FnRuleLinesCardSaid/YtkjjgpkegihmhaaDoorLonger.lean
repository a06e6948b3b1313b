/-
  A rule behind the rules of a description: what is read of the longer row. No function of the program in sight.
-/
import Derived.Test.YtkjjgpkegihmhaaDoorMadeR
namespace Go.Proofs.YtkjjgpkegihmhaaDoor
open Go.RowKit
set_option linter.unusedVariables false

section
variable {w w0 W : World} {base K : Nat} {T : TypeId}
theorem Box.drew {g : Nat} {t : TypeId} {cs : Array Value} (h : Box w g t cs) : Box w.drew g t cs := h
theorem box_new0 (w : World) (t : TypeId) (cs : Array Value) : Box (w.alloc (.cells cs t)) w.heap.size t cs := Box.new w t cs
theorem box_new1 (w : World) (o : Obj) (t : TypeId) (cs : Array Value) : Box ((w.alloc o).alloc (.cells cs t)) (w.heap.size + 1) t cs := by
  have h := Box.new (w.alloc o) t cs
  rwa [show (w.alloc o).heap.size = w.heap.size + 1 by simp] at h
theorem box_new2 (w : World) (o o' : Obj) (t : TypeId) (cs : Array Value) : Box (((w.alloc o).alloc o').alloc (.cells cs t)) (w.heap.size + 1 + 1) t cs := by
  have h := Box.new ((w.alloc o).alloc o') t cs
  rwa [show ((w.alloc o).alloc o').heap.size = w.heap.size + 1 + 1 by simp] at h
theorem Box.grown_own {w8 : World} {lo size n : Nat} {e : TypeId} {v : Value} {xs : List Value} {cs : Array Value} (h : Box W K T cs) (ho : W.ownsRow lo e size v n xs) (hne : e ≠ T) (hg : W.grownBy w8 v.ownBlock) : Box w8 K T cs := h.grown hg (fun e => own_type ho h hne e.symm)
theorem own_empty {size : Nat} (h : Box W K T #[]) (hb : base ≤ K) : W.ownsRow base T size (.slice (some ⟨K, 0, none⟩) 0 0) 0 [] :=
  ⟨by simp, .inr ⟨K, 0, #[], rfl, hb, h, Nat.le_refl _, Nat.zero_le _, by simp, by simp⟩⟩
theorem rd_box8 {a0 a1 a2 a3 a4 a5 a6 a7 : Value} (h : Box W K T #[a0, a1, a2, a3, a4, a5, a6, a7]) : Rd W (.slice (some ⟨K, 0, none⟩) 1 1) 8 1 [a0, a1, a2, a3, a4, a5, a6, a7] := by
  have ho : W.ownsRow 0 T 8 (.slice (some ⟨K, 0, none⟩) 1 1) 1 [a0, a1, a2, a3, a4, a5, a6, a7] := ⟨by simp, .inr ⟨K, 1, _, rfl, Nat.zero_le _, h, Nat.le_refl _, by unfold maxLen; omega, by simp, by simp⟩⟩
  exact Rd.of_own ho
theorem RdRules.flat {A : Option Addr} {c : Nat} {l : List RuleD} (h : RdRules w (.slice A l.length c) l) :
    ∃ css : List (List Value), css.length = l.length ∧ (∀ (i : Nat) (cs : List Value) (r : RuleD), css[i]? = some cs → l[i]? = some r → RdRule w cs r) ∧ Rd w (.slice A l.length c) 8 l.length css.flatten ∧ ∀ u ∈ css.flatten, u.oneCell' = true := by
  obtain ⟨A', c', e, h1, h2, h3⟩ := h
  injection e with e1 _ e3
  subst e1; subst e3
  rcases Nat.eq_zero_or_pos l.length with h0 | h0
  · refine ⟨[], by simp [h0], by simp, ⟨by simp [h0], A, c, rfl, h1, h2, by simp⟩, by simp⟩
  · obtain ⟨b, off, hA, h4⟩ := h3 h0
    have key : ∃ f : Nat → List Value, ∀ (i : Nat) (h : i < l.length), RdRule w (f i) l[i] ∧ w.rangeAt b (off + i * 8) (f i) := by
      refine ⟨fun i => if h : i < l.length then (h4 i h).choose else [], fun i h => ?_⟩
      simp only [dif_pos h]
      exact (h4 i h).choose_spec
    obtain ⟨f, hf⟩ := key
    have hget : ∀ (i : Nat) (cs : List Value), ((List.range l.length).map f)[i]? = some cs → i < l.length ∧ cs = f i := by
      intro i cs hi
      obtain ⟨hlt, he⟩ := List.getElem?_eq_some_iff.1 hi
      simp at hlt he
      exact ⟨hlt, he.symm⟩
    have h8 : ∀ cs ∈ (List.range l.length).map f, cs.length = 8 := by
      intro cs hc
      obtain ⟨i, hi, rfl⟩ := List.mem_map.1 hc
      exact (hf i (List.mem_range.1 hi)).1.len
    have hfl : ((List.range l.length).map f).flatten.length = l.length * 8 := by rw [flat_len h8]; simp
    refine ⟨(List.range l.length).map f, by simp, fun i cs r hi hr => ?_, ⟨hfl, A, c, rfl, h1, h2, fun _ => ⟨b, off, hA, fun j u hu => ?_⟩⟩, fun u hu => ?_⟩
    · obtain ⟨hlt, rfl⟩ := hget i cs hi
      rw [List.getElem?_eq_getElem hlt] at hr
      injection hr with hr
      rw [← hr]
      exact (hf i hlt).1
    · have hj : j < l.length * 8 := by rw [← hfl]; exact (List.getElem?_eq_some_iff.1 hu).1
      have hi : j / 8 < l.length := by omega
      have hj8 : j % 8 < 8 := by omega
      have e : j = j / 8 * 8 + j % 8 := by omega
      have hfi : ((List.range l.length).map f)[j / 8]? = some (f (j / 8)) := by simp [hi]
      rw [e, flat_at h8 hfi _ hj8] at hu
      have := (hf (j / 8) hi).2 (j % 8) u hu
      rw [Nat.add_assoc, ← e] at this
      exact this
    · obtain ⟨cs, hc, hu⟩ := List.mem_flatten.1 hu
      obtain ⟨i, hi, rfl⟩ := List.mem_map.1 hc
      exact rule_oneCell' (hf i (List.mem_range.1 hi)).1 u hu
theorem RdRules.of_flat {v : Value} {l : List RuleD} {css : List (List Value)} (hl : css.length = l.length) (hown : w.ownsRow base T 8 v l.length css.flatten)
    (hr : ∀ (i : Nat) (cs : List Value) (r : RuleD), css[i]? = some cs → l[i]? = some r → RdRule w cs r) : RdRules w v l := by
  have h8 : ∀ cs ∈ css, cs.length = 8 := by
    intro cs hc
    obtain ⟨i, hi, rfl⟩ := List.getElem_of_mem hc
    exact (hr i css[i] l[i] (List.getElem?_eq_getElem hi) (List.getElem?_eq_getElem (by omega))).len
  obtain ⟨_, A, c, rfl, h1, h2, h3⟩ := Rd.of_own hown
  refine ⟨A, c, rfl, h1, h2, fun hp => ?_⟩
  obtain ⟨b, off, hA, hc⟩ := h3 (by rw [flat_len h8, hl]; omega)
  refine ⟨b, off, hA, fun i hi => ⟨css[i], hr i css[i] l[i] (List.getElem?_eq_getElem (by omega)) (List.getElem?_eq_getElem hi), fun j u hu => ?_⟩⟩
  have hj : j < 8 := by
    have := (List.getElem?_eq_some_iff.1 hu).1
    rwa [h8 _ (List.getElem_mem _)] at this
  rw [Nat.add_assoc]
  exact hc _ u (by rw [flat_at h8 (List.getElem?_eq_getElem (show i < css.length by omega)) j hj]; exact hu)

/-- The rules of a description and one rule more, as they read in one world. -/
structure Both (w : World) (l : List RuleD) (r : RuleD) (css : List (List Value)) (rc : List Value) : Prop where
  ln : css.length = l.length
  all : ∀ (i : Nat) (cs : List Value) (r : RuleD), css[i]? = some cs → l[i]? = some r → RdRule w cs r
  one : RdRule w rc r
theorem Both.longer {l : List RuleD} {r : RuleD} {css : List (List Value)} {rc : List Value} {v : Value} (h : Both w0 l r css rc) (hb : Below w0.heap.size w0 W) (hown : W.ownsRow base T 8 v (l.length + 1) (css.flatten ++ rc)) : RdRules W v (l ++ [r]) := by
  refine RdRules.of_flat (T := T) (base := base) (css := css ++ [rc]) (by simp [h.ln]) (by rw [List.flatten_append, List.length_append]; simpa using hown) ?_
  intro i cs q hi hq
  rcases Nat.lt_or_ge i css.length with h1 | h1
  · rw [List.getElem?_append_left h1] at hi
    rw [List.getElem?_append_left (by rw [← h.ln]; exact h1)] at hq
    exact (h.all i cs q hi hq).below hb
  · rw [List.getElem?_append_right h1] at hi
    rw [List.getElem?_append_right (by rw [← h.ln]; exact h1)] at hq
    have h2 : i - css.length = 0 := by
      have := (List.getElem?_eq_some_iff.1 hi).1
      simp at this; omega
    have h3 : i - l.length = 0 := by rw [← h.ln]; exact h2
    rw [h2] at hi
    rw [h3] at hq
    simp at hi hq
    subst hi; subst hq
    exact h.one.below hb

theorem Rows4.all8 {lo g : Nat} {r : RuleD} {vb vn vt vk a0 a1 a2 a3 a4 a5 a6 a7 b0 b1 b2 b3 b4 b5 b6 b7 : Value} (h : Rows4 w lo r vb vn vt vk) (hx : Box w g 43 #[a0, a1, a2, a3, a4, a5, a6, a7]) :
    Rows4 ((((((((w.setCell ⟨g, 0, none⟩ b0).setCell ⟨g, 1, none⟩ b1).setCell ⟨g, 2, none⟩ b2).setCell ⟨g, 3, none⟩ b3).setCell ⟨g, 4, none⟩ b4).setCell ⟨g, 5, none⟩ b5).setCell ⟨g, 6, none⟩ b6).setCell ⟨g, 7, none⟩ b7) lo r vb vn vt vk := by
  have r0 := h.setBox (u := b0) (j := 0) hx
  have h0 : Box (w.setCell ⟨g, 0, none⟩ b0) g 43 #[b0, a1, a2, a3, a4, a5, a6, a7] := by have := hx.set 0 b0; simpa using this
  have r1 := r0.setBox (u := b1) (j := 1) h0
  have h1 : Box ((w.setCell ⟨g, 0, none⟩ b0).setCell ⟨g, 1, none⟩ b1) g 43 #[b0, b1, a2, a3, a4, a5, a6, a7] := by have := h0.set 1 b1; simpa using this
  have r2 := r1.setBox (u := b2) (j := 2) h1
  have h2 : Box (((w.setCell ⟨g, 0, none⟩ b0).setCell ⟨g, 1, none⟩ b1).setCell ⟨g, 2, none⟩ b2) g 43 #[b0, b1, b2, a3, a4, a5, a6, a7] := by have := h1.set 2 b2; simpa using this
  have r3 := r2.setBox (u := b3) (j := 3) h2
  have h3 : Box ((((w.setCell ⟨g, 0, none⟩ b0).setCell ⟨g, 1, none⟩ b1).setCell ⟨g, 2, none⟩ b2).setCell ⟨g, 3, none⟩ b3) g 43 #[b0, b1, b2, b3, a4, a5, a6, a7] := by have := h2.set 3 b3; simpa using this
  have r4 := r3.setBox (u := b4) (j := 4) h3
  have h4 : Box (((((w.setCell ⟨g, 0, none⟩ b0).setCell ⟨g, 1, none⟩ b1).setCell ⟨g, 2, none⟩ b2).setCell ⟨g, 3, none⟩ b3).setCell ⟨g, 4, none⟩ b4) g 43 #[b0, b1, b2, b3, b4, a5, a6, a7] := by have := h3.set 4 b4; simpa using this
  have r5 := r4.setBox (u := b5) (j := 5) h4
  have h5 : Box ((((((w.setCell ⟨g, 0, none⟩ b0).setCell ⟨g, 1, none⟩ b1).setCell ⟨g, 2, none⟩ b2).setCell ⟨g, 3, none⟩ b3).setCell ⟨g, 4, none⟩ b4).setCell ⟨g, 5, none⟩ b5) g 43 #[b0, b1, b2, b3, b4, b5, a6, a7] := by have := h4.set 5 b5; simpa using this
  have r6 := r5.setBox (u := b6) (j := 6) h5
  have h6 : Box (((((((w.setCell ⟨g, 0, none⟩ b0).setCell ⟨g, 1, none⟩ b1).setCell ⟨g, 2, none⟩ b2).setCell ⟨g, 3, none⟩ b3).setCell ⟨g, 4, none⟩ b4).setCell ⟨g, 5, none⟩ b5).setCell ⟨g, 6, none⟩ b6) g 43 #[b0, b1, b2, b3, b4, b5, b6, a7] := by have := h5.set 6 b6; simpa using this
  have r7 := r6.setBox (u := b7) (j := 7) h6
  exact r7
/-- Rules whose rows are the call's own, cells and all. -/
structure OwnAll (w : World) (lo : Nat) (l : List RuleD) (css : List (List Value)) : Prop where
  ln : css.length = l.length
  all : ∀ (i : Nat) (cs : List Value) (r : RuleD), css[i]? = some cs → l[i]? = some r → OwnRule w lo cs r
theorem OwnAll.below {lo : Nat} {l : List RuleD} {css : List (List Value)} (h : OwnAll w lo l css) (hb : Below w.heap.size w W) : OwnAll W lo l css := ⟨h.ln, fun i cs r h1 h2 => (h.all i cs r h1 h2).below hb⟩
theorem OwnAll.kept {lo g : Nat} {l : List RuleD} {css : List (List Value)} {T : TypeId} {cur : Array Value} (h : OwnAll w lo l css) (hk : w.grownBy W (some g)) (hg : Box w g T cur) (h1 : 5 ≠ T) (h2 : 9 ≠ T) (h3 : 3 ≠ T) : OwnAll W lo l css :=
  ⟨h.ln, fun i cs r a b => (h.all i cs r a b).kept hk hg h1 h2 h3⟩
theorem OwnAll.grown {lo lo' n : Nat} {l : List RuleD} {css : List (List Value)} {v : Value} {xs : List Value} (h : OwnAll w lo l css) (hown : w.ownsRow lo' 43 8 v n xs) (hk : w.grownBy W v.ownBlock) : OwnAll W lo l css := by
  refine ⟨h.ln, fun i cs r a b => ?_⟩
  have hq := h.all i cs r a b
  cases hv : v.ownBlock with
  | none => rw [hv] at hk; exact hq.kept_row hk (fun b _ e => by cases e)
  | some g =>
    rw [hv] at hk
    rcases hown.2 with ⟨e, _⟩ | ⟨g', cap', cur, e, _, hh, _⟩
    · rw [e] at hv; cases hv
    · have : g' = g := by rw [e] at hv; simpa [Value.ownBlock] using hv
      subst this
      exact hq.kept hk hh (by decide) (by decide) (by decide)
theorem OwnAll.push {lo : Nat} {l : List RuleD} {css : List (List Value)} {r : RuleD} {rc : List Value} (h : OwnAll w lo l css) (hr : OwnRule w lo rc r) : OwnAll w lo (l ++ [r]) (css ++ [rc]) := by
  refine ⟨by simp [h.ln], fun i cs q hi hq => ?_⟩
  rcases Nat.lt_or_ge i css.length with h1 | h1
  · rw [List.getElem?_append_left h1] at hi
    rw [List.getElem?_append_left (by rw [← h.ln]; exact h1)] at hq
    exact h.all i cs q hi hq
  · rw [List.getElem?_append_right h1] at hi
    rw [List.getElem?_append_right (by rw [← h.ln]; exact h1)] at hq
    have h2 : i - css.length = 0 := by
      have := (List.getElem?_eq_some_iff.1 hi).1
      simp at this; omega
    have h3 : i - l.length = 0 := by rw [← h.ln]; exact h2
    rw [h2] at hi
    rw [h3] at hq
    simp at hi hq
    subst hi; subst hq
    exact hr
theorem OwnAll.rd {lo : Nat} {l : List RuleD} {css : List (List Value)} {v : Value} (h : OwnAll w lo l css) (hown : w.ownsRow base T 8 v l.length css.flatten) : RdRules w v l :=
  RdRules.of_flat h.ln hown fun i cs r a b => (h.all i cs r a b).rd
theorem grown_setCell (w : World) (g j : Nat) (u : Value) : w.grownBy (w.setCell ⟨g, j, none⟩ u) (some g) := ⟨rfl, rfl, rfl, by simp [World.setCell], fun i _ hne => heap_setCell_other w ⟨g, j, none⟩ i u (fun e => hne (by simp [e]))⟩
theorem Rows4.keptBox {lo g : Nat} {r : RuleD} {vb vn vt vk : Value} {T : TypeId} {cur : Array Value} (h : Rows4 w lo r vb vn vt vk) (hk : w.grownBy W (some g)) (hg : Box w g T cur) (h1 : 5 ≠ T) (h2 : 9 ≠ T) (h3 : 3 ≠ T) : Rows4 W lo r vb vn vt vk :=
  ⟨h.b.kept hk (.inr (own_type h.b hg h1)), h.n.kept hk (.inr (own_type h.n hg h2)), h.t.kept hk (.inr (own_type h.t hg h3)), h.k.kept hk (.inr (own_type h.k hg h3)), h.tk⟩

/-- The longer description in a block of its own. -/
def LSt (w0 : World) (l : List RuleD) (r : RuleD) (gl : Nat) (wx : World) : Prop :=
  ∃ A c, Box wx gl 29 #[.slice A (l.length + 1) c] ∧ RdRules wx (.slice A (l.length + 1) c) (l ++ [r]) ∧ Below w0.heap.size w0 wx
theorem LSt.new {l : List RuleD} {r : RuleD} {css : List (List Value)} {rc : List Value} {A : Option Addr} {c : Nat} (h : Both w0 l r css rc) (hb : Below w0.heap.size w0 W) (hown : W.ownsRow base T 8 (.slice A (l.length + 1) c) (l.length + 1) (css.flatten ++ rc)) :
    LSt w0 l r W.heap.size (W.alloc (.cells #[.slice A (l.length + 1) c] 29)) :=
  ⟨A, c, Box.new _ _ _, (h.longer hb hown).below ((Below.refl _ _).alloc (Nat.le_refl _) _), hb.alloc hb.size _⟩
theorem LSt.set {l : List RuleD} {r : RuleD} {css : List (List Value)} {rc : List Value} {A : Option Addr} {c gl : Nat} (h : Both w0 l r css rc) (hb : Below w0.heap.size w0 W) (hown : W.ownsRow base 43 8 (.slice A (l.length + 1) c) (l.length + 1) (css.flatten ++ rc))
    {u : Value} (hg : Box W gl 29 #[u]) (hl : w0.heap.size ≤ gl) : LSt w0 l r gl (W.setCell ⟨gl, 0, none⟩ (.slice A (l.length + 1) c)) := by
  have hk : W.grownBy (W.setCell ⟨gl, 0, none⟩ (.slice A (l.length + 1) c)) (some gl) := ⟨rfl, rfl, rfl, by simp [World.setCell], fun i _ hne => heap_setCell_other W ⟨gl, 0, none⟩ i _ (fun e => hne (by simp [e]))⟩
  have hb' := below_set (j := 0) hb hl (.slice A (l.length + 1) c)
  refine ⟨A, c, hg.set 0 _, h.longer (base := base) (T := 43) hb' (hown.kept hk (.inr (own_type hown hg (by decide)))), hb'⟩
end

end Go.Proofs.YtkjjgpkegihmhaaDoor
