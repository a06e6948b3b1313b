/-
  l4Make of the draws, all kinds, and the state of l4Description: a description in a box, its rules the call's own.
-/
import Derived.Test.YtkjjgpkegihmhaaGreatDoorL4Make
import Derived.Test.YtkjjgpkegihmhaaGreatDoorL4Loop
import Derived.Test.YtkjjgpkegihmhaaGreatDoorGE
namespace Go.Proofs.YtkjjgpkegihmhaaGreatDoor
open Go.RowKit
set_option linter.unusedVariables false

theorem s_l4Make (g : Nat) (v : Value) (l : List RuleD) (lo : Nat) (kd : Int) (hk : 1 ≤ kd ∧ kd ≤ 10) (hz : l.length = 0 → kd = 1) (hdr : Drawn l) (h10 : l.length ≤ 9) (w : World) (hc : Cur w g) (ho : OwnRules w lo v l) :
    Calls Tryz.prog 95 #[.pointer (some ⟨g, 0, none⟩), .agg #[v], .int .i64 kd] w (DrewR kd l g w) := by
  have hp : kd ≠ 1 → 0 < l.length := fun h => by
    rcases Nat.eq_zero_or_pos l.length with h0 | h0
    · exact absurd (hz h0) h
    · exact h0
  have h : kd = 1 ∨ kd = 2 ∨ kd = 3 ∨ kd = 4 ∨ kd = 5 ∨ kd = 6 ∨ kd = 7 ∨ kd = 8 ∨ kd = 9 ∨ kd = 10 := by omega
  rcases h with rfl | rfl | rfl | rfl | rfl | rfl | rfl | rfl | rfl | rfl
  · exact s_l4Make1 g v l lo hdr h10 w hc ho
  · exact s_l4Make2 g v l lo hdr h10 w hc ho
  · exact s_l4Make3 g v l lo hdr h10 w hc ho
  · exact s_l4Make4 g v l lo hdr h10 (hp (by decide)) w hc ho
  · exact s_l4Make5 g v l lo hdr h10 (hp (by decide)) w hc ho
  · exact s_l4Make6 g v l lo hdr h10 (hp (by decide)) w hc ho
  · exact s_l4Make7 g v l lo hdr h10 (hp (by decide)) w hc ho
  · exact s_l4Make8 g v l lo hdr h10 (hp (by decide)) w hc ho
  · exact s_l4Make9 g v l lo hdr h10 (hp (by decide)) w hc ho
  · exact s_l4Make10 g v l lo hdr h10 w hc ho

structure ESt (w : World) (g : Nat) (v : Value) (l : List RuleD) (css : List (List Value)) (W : World) : Prop where
  ln : css.length = l.length
  own : W.ownsRow (w.heap.size + 1 + 1) 30 8 v l.length css.flatten
  all : ∀ (i : Nat) (cs : List Value) (r : RuleD), css[i]? = some cs → l[i]? = some r → OwnRule W (w.heap.size + 1 + 1) cs r
  nd : (blocks css.flatten).Nodup
  d : Box W (w.heap.size + 1) 35 #[v]
  z : Box W w.heap.size 35 #[.slice none 0 0]
  cur : Cur W g
  gb : w.grownBy W (some g)
  gl : g < w.heap.size
section
variable {w W W' w3 : World} {g lo : Nat} {v v' : Value} {l : List RuleD} {css : List (List Value)} {r : RuleD} {vb vn vt vk : Value}
theorem ESt.rules (h : ESt w g v l css W) : OwnRules W (w.heap.size + 1 + 1) v l := ⟨css, h.ln, h.own, h.all, h.nd⟩
theorem ESt.size (h : ESt w g v l css W) : w.heap.size + 1 + 1 ≤ W.heap.size := h.d.lt
theorem ESt.blt (h : ESt w g v l css W) : ∀ b ∈ blocks css.flatten, b < W.heap.size := by
  intro b hb
  rw [blocks_flatten] at hb
  obtain ⟨bs, hbs, hbb⟩ := List.mem_flatten.1 hb
  obtain ⟨cs, hcs, rfl⟩ := List.mem_map.1 hbs
  obtain ⟨i, hi, rfl⟩ := List.getElem_of_mem hcs
  have hi2 : i < l.length := by rw [← h.ln]; exact hi
  exact ((h.all i css[i] l[i] (List.getElem?_eq_getElem hi) (List.getElem?_eq_getElem hi2)).blocks_lt b hbb).2
theorem ESt.go (h : ESt w g v l css W) (hk : W.grownBy W' (some g)) (hc : Cur W' g) : ESt w g v l css W' := by
  have hl := h.gl
  obtain ⟨cs, hb⟩ := h.cur.box
  exact ⟨h.ln, own_drawn h.own h.cur hk (by decide), fun i c r h1 h2 => (h.all i c r h1 h2).kept hk hb (by decide) (by decide) (by decide), h.nd, h.d.drawn hk (by omega), h.z.drawn hk (by omega), hc, grown_trans h.gb hk, hl⟩
theorem ESt.below (h : ESt w g v l css W) (hb : Below W.heap.size W W') : ESt w g v l css W' := h.go (grown_of_below hb) (h.cur.below hb)
theorem ESt.alloc (h : ESt w g v l css W) (ob : Obj) : ESt w g v l css (W.alloc ob) := h.below ((Below.refl _ _).alloc (Nat.le_refl _) _)
theorem ESt.drew (h : ESt w g v l css W) : ESt w g v l css W.drew := h.below ((Below.refl _ _).drew)
theorem ESt.row {n : Nat} {xs : List Value} (h : ESt w g v l css W) (hg : W.grownBy W' v.ownBlock) : Box W' (w.heap.size + 1) 35 #[v] ∧ Box W' w.heap.size 35 #[.slice none 0 0] ∧ Cur W' g ∧ w.grownBy W' (some g) := by
  have hl := h.gl
  have hne : ∀ b, b < w.heap.size → some b ≠ v.ownBlock := fun b hb e => by have := (h.own.lt b e.symm).1; omega
  exact ⟨Box.grown_own h.d h.own (by decide) hg, Box.grown_own h.z h.own (by decide) hg, h.cur.grown hg (hne g hl) (fun b hb => hne b (by omega)),
    ⟨hg.os.trans h.gb.os, hg.tape.trans h.gb.tape, hg.output.trans h.gb.output, Nat.le_trans h.gb.size hg.size, fun i hi hn => (hg.block i (Nat.lt_of_lt_of_le hi h.gb.size) (hne i hi)).trans (h.gb.block i hi hn)⟩⟩
theorem ESt.push {b0 : Nat} (h : ESt w g v l css W) (h4 : Rows4 W b0 r vb vn vt vk) (hlt : ∀ b ∈ blocks css.flatten, b < b0) (hlo : w.heap.size + 1 + 1 ≤ b0)
    (hown3 : w3.ownsRow (w.heap.size + 1 + 1) 30 8 v' (l.length + 1) (css.flatten ++ [.string r.name, .int .i64 r.kind, .int .i64 r.size, .bool r.little, vb, vn, vt, vk])) (hg : (W.alloc (.cells #[.string r.name, .int .i64 r.kind, .int .i64 r.size, .bool r.little, vb, vn, vt, vk] 30)).grownBy w3 v.ownBlock) :
    ∃ css', ESt w g v' (l ++ [r]) css' (w3.setCell ⟨w.heap.size + 1, 0, none⟩ v') := by
  have hp := OwnRules.push (b0 := b0) (w1 := W) (css := css) (cs := ruleCells r vb vn vt vk) (vo := v) h.ln h.own h.all h.nd hlt h4.own h4.nodup hlo hown3 hg
  obtain ⟨css', hl', ho', ha', hn'⟩ := hp.setFar (w.heap.size + 1) 0 v' (by omega)
  obtain ⟨b1, b2, b3, b4⟩ := (h.alloc (.cells #[.string r.name, .int .i64 r.kind, .int .i64 r.size, .bool r.little, vb, vn, vt, vk] 30)).row (n := 0) (xs := []) hg
  have hl := h.gl
  exact ⟨css', hl', ho', ha', hn', b1.set 0 v', b2.setOther ⟨w.heap.size + 1, 0, none⟩ (by show w.heap.size ≠ w.heap.size + 1; omega) v', b3.new (by omega), grown_new b4 (by omega), hl⟩
end
def DrewL (g : Nat) (w : World) (e : Ending) (w' : World) : Prop := ∃ A c l, e = .returned (.agg #[.slice A (l : List RuleD).length c]) ∧ OwnRules w' w.heap.size (.slice A l.length c) l ∧ Drawn l ∧ 1 ≤ l.length ∧ l.length ≤ 6 ∧ Cur w' g ∧ w.grownBy w' (some g)

end Go.Proofs.YtkjjgpkegihmhaaGreatDoor
