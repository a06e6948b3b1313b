/-
  What the functions on descriptions compute, in plain Lean; and the cells of one rule among many. No function of the program in sight.
-/
import Derived.Test.YtcegbilfcblhfaaBase
import Derived.Test.YtcegbilfcblhfaaRule
namespace Go.Proofs.Ytcegbilfcblhfaa
open Go.RowKit

instance : Inhabited RuleD := ⟨⟨⟨#[]⟩, 0, 0, false, [], [], [], []⟩⟩
/-- Rule i, where there is one. -/
def ruleAt (l : List RuleD) (i : Int) : RuleD := (l[i.toNat]?).getD default
theorem ruleAt_eq {l : List RuleD} {k : Nat} (h : k < l.length) : ruleAt l (k : Int) = l[k] := by simp [ruleAt, h]

/-- Everything about the cells of rule k. -/
structure RuleCells (w : World) (b o : Nat) (r : RuleD) (vb vn vt vk : Value) : Prop where
  c0 : w.cell? ⟨b, o, none⟩ = some (.string r.name)
  c1 : w.cell? ⟨b, o + 1, none⟩ = some (.int .i64 r.kind)
  c2 : w.cell? ⟨b, o + 2, none⟩ = some (.int .i64 r.size)
  c3 : w.cell? ⟨b, o + 3, none⟩ = some (.bool r.little)
  c4 : w.cell? ⟨b, o + 4, none⟩ = some vb
  c5 : w.cell? ⟨b, o + 5, none⟩ = some vn
  c6 : w.cell? ⟨b, o + 6, none⟩ = some vt
  c7 : w.cell? ⟨b, o + 7, none⟩ = some vk
  rb : Rd w vb 1 r.bytes.length (cB r.bytes)
  rn : Rd w vn 1 r.names.length (cS r.names)
  rt : Rd w vt 1 r.tags.length (cI r.tags)
  rk : Rd w vk 1 r.kids.length (cI r.kids)
  rng : w.rangeAt b o (ruleCells r vb vn vt vk)

theorem RuleCells.of {w : World} {b o : Nat} {cs : List Value} {r : RuleD} (h : RdRule w cs r) (ha : w.rangeAt b o cs) : ∃ vb vn vt vk, RuleCells w b o r vb vn vt vk := by
  obtain ⟨vb, vn, vt, vk, rfl, h1, h2, h3, h4⟩ := h
  exact ⟨vb, vn, vt, vk, ha 0 _ rfl, ha 1 _ rfl, ha 2 _ rfl, ha 3 _ rfl, ha 4 _ rfl, ha 5 _ rfl, ha 6 _ rfl, ha 7 _ rfl, h1, h2, h3, h4, ha⟩
theorem RuleCells.keep {w w' : World} {b o : Nat} {r : RuleD} {vb vn vt vk : Value} (h : RuleCells w b o r vb vn vt vk) (hk : ∀ p : Addr, p.block < w.heap.size → w'.cell? p = w.cell? p) : RuleCells w' b o r vb vn vt vk := by
  have k : ∀ {j u}, w.cell? ⟨b, j, none⟩ = some u → w'.cell? ⟨b, j, none⟩ = some u := fun hc => by rw [hk _ (World.block_lt_of_cell? w _ hc)]; exact hc
  exact ⟨k h.c0, k h.c1, k h.c2, k h.c3, k h.c4, k h.c5, k h.c6, k h.c7, h.rb.keep hk, h.rn.keep hk, h.rt.keep hk, h.rk.keep hk, fun j u hu => k (h.rng j u hu)⟩
theorem RuleCells.below {w w' : World} {b o : Nat} {r : RuleD} {vb vn vt vk : Value} (h : RuleCells w b o r vb vn vt vk) (hb : Below w.heap.size w w') : RuleCells w' b o r vb vn vt vk := h.keep fun _ hp => hb.cell hp

theorem RuleCells.slices {w : World} {b o : Nat} {r : RuleD} {vb vn vt vk : Value} (h : RuleCells w b o r vb vn vt vk) :
    (∃ A c, vb = .slice A r.bytes.length c) ∧ (∃ A c, vn = .slice A r.names.length c) ∧ (∃ A c, vt = .slice A r.tags.length c) ∧ (∃ A c, vk = .slice A r.kids.length c) := by
  obtain ⟨_, A1, c1, e1, _⟩ := h.rb
  obtain ⟨_, A2, c2, e2, _⟩ := h.rn
  obtain ⟨_, A3, c3, e3, _⟩ := h.rt
  obtain ⟨_, A4, c4, e4, _⟩ := h.rk
  exact ⟨⟨A1, c1, e1⟩, ⟨A2, c2, e2⟩, ⟨A3, c3, e3⟩, ⟨A4, c4, e4⟩⟩

/-- The cells of all rules. -/
def AllCells (w : World) (A : Option Addr) (l : List RuleD) : Prop :=
  0 < l.length → ∃ b off, A = some ⟨b, off, none⟩ ∧ ∀ i (h : i < l.length), ∃ vb vn vt vk, RuleCells w b (off + i * 8) l[i] vb vn vt vk
theorem RdRules.all {w : World} {v : Value} {l : List RuleD} (h : RdRules w v l) : ∃ A c, v = .slice A l.length c ∧ l.length ≤ c ∧ c ≤ maxLen ∧ AllCells w A l := by
  obtain ⟨A, c, e, h1, h2, h3⟩ := h
  refine ⟨A, c, e, h1, h2, fun hp => ?_⟩
  obtain ⟨b, off, hA, h4⟩ := h3 hp
  refine ⟨b, off, hA, fun i hi => ?_⟩
  obtain ⟨cs, hr, ha⟩ := h4 i hi
  exact RuleCells.of hr ha
theorem AllCells.below {w w' : World} {A : Option Addr} {l : List RuleD} (h : AllCells w A l) (hb : Below w.heap.size w w') : AllCells w' A l := fun hp => by
  obtain ⟨b, off, hA, h4⟩ := h hp
  refine ⟨b, off, hA, fun i hi => ?_⟩
  obtain ⟨vb, vn, vt, vk, hc⟩ := h4 i hi
  exact ⟨vb, vn, vt, vk, hc.below hb⟩

/-- The place of the first rule with this name, or -1. -/
def findL (l : List RuleD) (s : ByteArray) : Int := match l.findIdx? (fun r => decide (r.name = s)) with | some k => (k : Int) | none => -1
theorem findL_none {l : List RuleD} {s : ByteArray} (h : ∀ j (h : j < l.length), l[j].name ≠ s) : findL l s = -1 := by
  have : l.findIdx? (fun r => decide (r.name = s)) = none := by
    rw [List.findIdx?_eq_none_iff]
    intro x hx
    obtain ⟨j, hj, rfl⟩ := List.getElem_of_mem hx
    simpa using h j hj
  simp [findL, this]
theorem findL_at {l : List RuleD} {s : ByteArray} {k : Nat} (hk : k < l.length) (hn : ∀ j (h : j < l.length), j < k → l[j].name ≠ s) (he : l[k].name = s) : findL l s = k := by
  have : l.findIdx? (fun r => decide (r.name = s)) = some k := by
    rw [List.findIdx?_eq_some_iff_getElem]
    exact ⟨hk, by simpa using he, fun j hj => by simpa using hn j (by omega) hj⟩
  simp [findL, this]
theorem findL_range (l : List RuleD) (s : ByteArray) : -1 ≤ findL l s ∧ findL l s < l.length := by
  unfold findL
  split
  · rename_i k h
    have := (List.findIdx?_eq_some_iff_getElem.1 h).1
    omega
  · omega

/-- How many rules have this kind. -/
def countL (l : List RuleD) (k : Int) : Nat := l.countP fun r => decide (r.kind = k)
theorem countL_yes {l : List RuleD} {c : Int} {k : Nat} (h : k < l.length) (e : l[k].kind = c) : countL (l.take (k + 1)) c = countL (l.take k) c + 1 := by
  unfold countL; rw [List.take_succ_eq_append_getElem h, List.countP_append]; simp [e]
theorem countL_no {l : List RuleD} {c : Int} {k : Nat} (h : k < l.length) (e : l[k].kind ≠ c) : countL (l.take (k + 1)) c = countL (l.take k) c := by
  unfold countL; rw [List.take_succ_eq_append_getElem h, List.countP_append]; simp [e]
theorem countL_le (l : List RuleD) (c : Int) (k : Nat) : countL (l.take k) c ≤ k := by
  unfold countL
  exact Nat.le_trans List.countP_le_length (by simp; omega)

/-- There is a rule i. -/
def hasL (l : List RuleD) (i : Int) : Bool := decide (0 ≤ i) && decide (i < (l.length : Int))
theorem hasL_yes {l : List RuleD} {i : Int} (h0 : 0 ≤ i) (h1 : i < l.length) : hasL l i = true := by simp [hasL, h0, h1]
theorem hasL_no {l : List RuleD} {i : Int} (h : i < 0 ∨ (l.length : Int) ≤ i) : hasL l i = false := by
  simp only [hasL, Bool.and_eq_false_iff, decide_eq_false_iff_not]; omega

/-- The greatest number of integer rule i, or -1. -/
def limitOf (s : Int) : Int := if s = 1 then 255 else if s = 2 then 65535 else if s = 3 then 16777215 else if s = 4 then 4294967295 else -1
def limitL (l : List RuleD) (i : Int) : Int := if hasL l i = true ∧ (ruleAt l i).kind = 1 then limitOf (ruleAt l i).size else -1
theorem limitL_range (l : List RuleD) (i : Int) : -1 ≤ limitL l i ∧ limitL l i ≤ 4294967295 := by
  unfold limitL limitOf
  repeat' split
  all_goals omega

/-- The name of kid k of rule i. -/
def kidL (l : List RuleD) (i k : Int) : ByteArray :=
  if hasL l i = true ∧ 0 ≤ k ∧ k < ((ruleAt l i).kids.length : Int) ∧ hasL l ((ruleAt l i).kids.getD k.toNat 0) = true then (ruleAt l ((ruleAt l i).kids.getD k.toNat 0)).name else ⟨#[]⟩

end Go.Proofs.Ytcegbilfcblhfaa
