/-
  The state of l4Make's loops: a rule behind a pointer, its rows the call's own, the cursor and the two zero boxes.
-/
import Derived.Test.YtkjjgpkegihmhaaGreatDoorL4Int
import Derived.Test.YtkjjgpkegihmhaaGreatDoorGD
import Derived.BigGuard
namespace Go.Proofs.YtkjjgpkegihmhaaGreatDoor
open Go.RowKit
set_option linter.unusedVariables false

structure QSt (w : World) (g gr : Nat) (A : Option Addr) (n c : Nat) (r : RuleD) (vb vn vt vk : Value) (W : World) : Prop where
  r4 : Rows4 W w.heap.size r vb vn vt vk
  bx : Box W gr 30 #[.string r.name, .int .i64 r.kind, .int .i64 r.size, .bool r.little, vb, vn, vt, vk]
  z : Box W (w.heap.size + 1) 30 #[.string ⟨#[]⟩, .int .i64 0, .int .i64 0, .bool false, .slice none 0 0, .slice none 0 0, .slice none 0 0, .slice none 0 0]
  d : Box W w.heap.size 35 #[.slice A n c]
  cur : Cur W g
  gb : w.grownBy W (some g)
  gl : g < w.heap.size
  gg : w.heap.size + 1 < gr
section
variable {w W W' : World} {g gr n c : Nat} {A : Option Addr} {r : RuleD} {vb vn vt vk v' : Value}
theorem QSt.go (h : QSt w g gr A n c r vb vn vt vk W) (hk : W.grownBy W' (some g)) (hc : Cur W' g) : QSt w g gr A n c r vb vn vt vk W' := by
  have hl := h.gl
  have hg := h.gg
  exact ⟨⟨own_drawn h.r4.b h.cur hk (by decide), own_drawn h.r4.n h.cur hk (by decide), own_drawn h.r4.t h.cur hk (by decide), own_drawn h.r4.k h.cur hk (by decide), h.r4.tk⟩,
    h.bx.drawn hk (by omega), h.z.drawn hk (by omega), h.d.drawn hk (by omega), hc, grown_trans h.gb hk, hl, hg⟩
theorem QSt.below (h : QSt w g gr A n c r vb vn vt vk W) (hb : Below W.heap.size W W') : QSt w g gr A n c r vb vn vt vk W' := h.go (grown_of_below hb) (h.cur.below hb)
theorem QSt.alloc (h : QSt w g gr A n c r vb vn vt vk W) (ob : Obj) : QSt w g gr A n c r vb vn vt vk (W.alloc ob) := h.below ((Below.refl _ _).alloc (Nat.le_refl _) _)
theorem QSt.drew (h : QSt w g gr A n c r vb vn vt vk W) : QSt w g gr A n c r vb vn vt vk W.drew := h.below ((Below.refl _ _).drew)
theorem QSt.size (h : QSt w g gr A n c r vb vn vt vk W) : w.heap.size ≤ W.heap.size := h.gb.size
theorem QSt.slices (h : QSt w g gr A n c r vb vn vt vk W) : ∃ An cn At ct Ak ck, vn = .slice An r.names.length cn ∧ vt = .slice At r.tags.length ct ∧ vk = .slice Ak r.kids.length ck := by
  obtain ⟨_, An, cn, e2, _, _, _⟩ := Rd.of_own h.r4.n
  obtain ⟨_, At, ct, e3, _, _, _⟩ := Rd.of_own h.r4.t
  obtain ⟨_, Ak, ck, e4, _, _, _⟩ := Rd.of_own h.r4.k
  exact ⟨An, cn, At, ct, Ak, ck, e2, e3, e4⟩
theorem QSt.row {e : TypeId} {size m : Nat} {v : Value} {xs : List Value} (h : QSt w g gr A n c r vb vn vt vk W) (ho : W.ownsRow w.heap.size e size v m xs) (h1 : e ≠ 30) (h2 : e ≠ 35) (h3 : e ≠ 95) (hg : W.grownBy W' v.ownBlock) :
    Box W' gr 30 #[.string r.name, .int .i64 r.kind, .int .i64 r.size, .bool r.little, vb, vn, vt, vk] ∧ Box W' (w.heap.size + 1) 30 #[.string ⟨#[]⟩, .int .i64 0, .int .i64 0, .bool false, .slice none 0 0, .slice none 0 0, .slice none 0 0, .slice none 0 0] ∧ Box W' w.heap.size 35 #[.slice A n c] ∧ Cur W' g ∧ w.grownBy W' (some g) := by
  have hl := h.gl
  have hne : ∀ b, b < w.heap.size → some b ≠ v.ownBlock := fun b hb e => by have := (ho.lt b e.symm).1; omega
  exact ⟨Box.grown_own h.bx ho h1 hg, Box.grown_own h.z ho h1 hg, Box.grown_own h.d ho h2 hg, h.cur.grown hg (hne g hl) (fun b hb => hne b (by omega)),
    ⟨hg.os.trans h.gb.os, hg.tape.trans h.gb.tape, hg.output.trans h.gb.output, Nat.le_trans h.gb.size hg.size, fun i hi hn => (hg.block i (Nat.lt_of_lt_of_le hi h.gb.size) (hne i hi)).trans (h.gb.block i hi hn)⟩⟩
theorem QSt.set {u u4 u5 u6 u7 : Value} {r' : RuleD} {j : Nat} (h4 : Rows4 W' w.heap.size r' u4 u5 u6 u7) (hb : Box W' gr 30 #[.string r.name, .int .i64 r.kind, .int .i64 r.size, .bool r.little, vb, vn, vt, vk] ∧ Box W' (w.heap.size + 1) 30 #[.string ⟨#[]⟩, .int .i64 0, .int .i64 0, .bool false, .slice none 0 0, .slice none 0 0, .slice none 0 0, .slice none 0 0] ∧ Box W' w.heap.size 35 #[.slice A n c] ∧ Cur W' g ∧ w.grownBy W' (some g))
    (hl : g < w.heap.size) (hg : w.heap.size + 1 < gr)
    (he : (#[.string r.name, .int .i64 r.kind, .int .i64 r.size, .bool r.little, vb, vn, vt, vk] : Array Value).set! j u = #[.string r'.name, .int .i64 r'.kind, .int .i64 r'.size, .bool r'.little, u4, u5, u6, u7]) :
    QSt w g gr A n c r' u4 u5 u6 u7 (W'.setCell ⟨gr, j, none⟩ u) := by
  obtain ⟨b1, b2, b3, b4, b5⟩ := hb
  refine ⟨h4.setBox b1, ?_, b2.setOther ⟨gr, j, none⟩ (by show w.heap.size + 1 ≠ gr; omega) u, b3.setOther ⟨gr, j, none⟩ (by show w.heap.size ≠ gr; omega) u, b4.new (by omega), grown_new b5 (by omega), hl, hg⟩
  have := b1.set j u
  rw [← he]
  simpa using this
theorem QSt.kid {k : Int} {ob : Obj} (h : QSt w g gr A n c r vb vn vt vk W) (ho : W'.ownsRow w.heap.size 3 1 v' (r.kids.length + 1) (cI r.kids ++ cI [k])) (hg : (W.alloc ob).grownBy W' vk.ownBlock) (hp : v'.ownBlock = vk.ownBlock ∨ v'.ownBlock = some (W.alloc ob).heap.size) :
    QSt w g gr A n c { r with kids := r.kids ++ [k] } vb vn vt v' (W'.setCell ⟨gr, 7, none⟩ v') :=
  QSt.set (h.r4.pushKid ho hg hp) ((h.alloc ob).row (h.alloc ob).r4.k (by decide) (by decide) (by decide) hg) h.gl h.gg rfl
theorem QSt.tag {k : Int} {ob : Obj} (h : QSt w g gr A n c r vb vn vt vk W) (ho : W'.ownsRow w.heap.size 3 1 v' (r.tags.length + 1) (cI r.tags ++ cI [k])) (hg : (W.alloc ob).grownBy W' vt.ownBlock) (hp : v'.ownBlock = vt.ownBlock ∨ v'.ownBlock = some (W.alloc ob).heap.size) :
    QSt w g gr A n c { r with tags := r.tags ++ [k] } vb vn v' vk (W'.setCell ⟨gr, 6, none⟩ v') :=
  QSt.set (h.r4.pushTag ho hg hp) ((h.alloc ob).row (h.alloc ob).r4.t (by decide) (by decide) (by decide) hg) h.gl h.gg rfl
theorem QSt.name {s : ByteArray} {ob : Obj} (h : QSt w g gr A n c r vb vn vt vk W) (ho : W'.ownsRow w.heap.size 9 1 v' (r.names.length + 1) (cS r.names ++ cS [s])) (hg : (W.alloc ob).grownBy W' vn.ownBlock) :
    QSt w g gr A n c { r with names := r.names ++ [s] } vb v' vt vk (W'.setCell ⟨gr, 5, none⟩ v') :=
  QSt.set (h.r4.pushName ho hg) ((h.alloc ob).row (h.alloc ob).r4.n (by decide) (by decide) (by decide) hg) h.gl h.gg rfl
theorem QSt.lit {k : Int} {K : Nat} (h : QSt w g gr A n c r vb vn vt vk W) (hr : r.kids = []) (hK : K = W.heap.size) : QSt w g gr A n c { r with kids := [k] } vb vn vt (.slice (some ⟨K, 0, none⟩) 1 1) ((W.alloc (.cells #[.int .i64 k] 3)).setCell ⟨gr, 7, none⟩ (.slice (some ⟨K, 0, none⟩) 1 1)) := by
  subst hK
  have ha := h.alloc (.cells #[.int .i64 k] 3)
  refine QSt.set (r := r) ⟨ha.r4.b, ha.r4.n, ha.r4.t, World.ownsRow_lit W _ 1 h.size (by unfold maxLen; omega) rfl, ?_⟩ ⟨ha.bx, ha.z, ha.d, ha.cur, ha.gb⟩ h.gl h.gg rfl
  cases hv : vt.ownBlock with
  | none => exact .inl rfl
  | some b =>
    refine .inr fun e => ?_
    have := (h.r4.t.lt b hv).2
    have e' : b = W.heap.size := by simpa [Value.ownBlock] using e
    omega
theorem QSt.end {u0 u1 u2 u3 u4 u5 u6 u7 : Value} {l : List RuleD} (h : QSt w g gr A n c r vb vn vt vk W) (hd : DrawnR l r.kind r) :
    DrewR r.kind l g w (.returned (.agg (rCells r vb vn vt vk))) ((((((((W.setCell ⟨w.heap.size + 1, 0, none⟩ u0).setCell ⟨w.heap.size + 1, 1, none⟩ u1).setCell ⟨w.heap.size + 1, 2, none⟩ u2).setCell ⟨w.heap.size + 1, 3, none⟩ u3).setCell ⟨w.heap.size + 1, 4, none⟩ u4).setCell ⟨w.heap.size + 1, 5, none⟩ u5).setCell ⟨w.heap.size + 1, 6, none⟩ u6).setCell ⟨w.heap.size + 1, 7, none⟩ u7) := by
  have hl := h.gl
  exact DrewR.mk_ (h.r4.all8 h.z) hd (Cur.all8 h.cur (by omega)) (grown_all8 h.gb (by omega))
end
def partNames : List ByteArray := [⟨#[112]⟩, ⟨#[113]⟩, ⟨#[114]⟩]
theorem part_of {s s2 : ByteArray} {x : Int} (h : s ∈ partNames) (h2 : s2 = mkS (fmtInt x)) : (∃ p ∈ preN, (s ++ s2).data.toList = p ++ fmtInt x) ∧ s.size = 1 := by
  have e : (s ++ s2).data.toList = s.data.toList ++ fmtInt x := by rw [h2]; simp [ByteArray.data_append, mkS]
  simp only [partNames, List.mem_cons, List.not_mem_nil, or_false] at h
  rcases h with rfl | rfl | rfl
  · exact ⟨⟨[112], by simp [preN], e⟩, by decide⟩
  · exact ⟨⟨[113], by simp [preN], e⟩, by decide⟩
  · exact ⟨⟨[114], by simp [preN], e⟩, by decide⟩

end Go.Proofs.YtkjjgpkegihmhaaGreatDoor
