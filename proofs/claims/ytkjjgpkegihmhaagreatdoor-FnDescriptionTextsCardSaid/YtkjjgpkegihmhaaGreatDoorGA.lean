/-
  Several texts in one: Base, Rep, Append, Rule, DescPlain, Box, Text, HexText, Dec, SplitL, Later, Range, Name, Contains, Kind, Conv, MaxS, Maxs, ToString, ToByte, ToInt, Open.
-/
import Derived.Below
import Derived.WalkKit
import Derived.Lib.Strings
import Derived.Laws.OwnMore
import Derived.Maps.AppendAt
import Derived.Deep.AppendLies
import Derived.RegionTactic
import Derived.OwnWalk
import Derived.Deep.MidRow
import Derived.Deep.QuietTactic
import Derived.BigQuiet
import Derived.Lib.IndexLaws
import Derived.Lib.IndexBytes
import Derived.Lib.Join
import Derived.Test.YtkjjgpkegihmhaaGreatDoorProg
import Derived.WalkSpells
import Derived.WalkLawsBesides
import Derived.Laws.RangeAny
import Derived.Lib.Hide
import Derived.Laws.BytesArg
import Derived.ProofKit
import Derived.OpenShut
import Derived.SliceStrings
namespace Go.Proofs.YtkjjgpkegihmhaaGreatDoor
open Go.RowKit

theorem ret_int {k : IntKind} {a b : Int} (h : a = b) : Ending.returned (.int k a) = .returned (.int k b) := by rw [h]
theorem ret_bool {a b : Bool} (h : a = b) : Ending.returned (.bool a) = .returned (.bool b) := by rw [h]
theorem ret_str {a b : ByteArray} (h : a = b) : Ending.returned (.string a) = .returned (.string b) := by rw [h]
theorem bytes_toList {s t : ByteArray} (h : s.toList = t.toList) : s = t := by
  rw [Lib.toList_data, Lib.toList_data] at h
  cases s; cases t; simpa using h

theorem str_ne {s t : ByteArray} (h : s ≠ t) : (s.toList == t.toList) = false := by
  rw [beq_eq_false_iff_ne]
  exact fun e => h (bytes_toList e)

theorem wf_u8 {a : Int} (h : (Lit.int .u8 a).wf = true) : 0 ≤ a ∧ a ≤ 255 := by
  simpa [Lit.wf, IntKind.min, IntKind.max, IntKind.signed, IntKind.bits] using h

end Go.Proofs.YtkjjgpkegihmhaaGreatDoor
namespace Go.Proofs.YtkjjgpkegihmhaaGreatDoor
open Go.RowKit
def Rd (w : World) (v : Value) (size n : Nat) (xs : List Value) : Prop :=
  xs.length = n * size ∧ ∃ A c, v = .slice A n c ∧ n ≤ c ∧ c ≤ maxLen ∧ (0 < xs.length → ∃ b off, A = some ⟨b, off, none⟩ ∧ ∀ j u, xs[j]? = some u → w.cell? ⟨b, off + j, none⟩ = some u)

section
variable {w w' : World} {v : Value} {size n : Nat} {xs : List Value}

theorem Rd.keep (h : Rd w v size n xs) (hk : ∀ p : Addr, p.block < w.heap.size → w'.cell? p = w.cell? p) : Rd w' v size n xs := by
  obtain ⟨h1, A, c, rfl, h2, h3, h4⟩ := h
  refine ⟨h1, A, c, rfl, h2, h3, fun hp => ?_⟩
  obtain ⟨b, off, rfl, hc⟩ := h4 hp
  exact ⟨b, off, rfl, fun j u hu => by rw [hk _ (World.block_lt_of_cell? w _ (hc j u hu))]; exact hc j u hu⟩
theorem Rd.below (h : Rd w v size n xs) (hb : Below w.heap.size w w') : Rd w' v size n xs := h.keep fun _ hp => hb.cell hp

theorem Rd.of_own {base : Nat} {e : TypeId} (h : w.ownsRow base e size v n xs) : Rd w v size n xs := by
  refine ⟨h.1, ?_⟩
  rcases h.2 with ⟨rfl, rfl⟩ | ⟨g, cap, cur, rfl, _, hg, hnc, hcm, _, htake⟩
  · exact ⟨none, 0, rfl, Nat.le_refl _, Nat.zero_le _, fun hp => by have := h.1; omega⟩
  · refine ⟨_, cap, rfl, hnc, hcm, fun _ => ⟨g, 0, rfl, fun j u hu => ?_⟩⟩
    have := h.cells (g := g) rfl j u hu
    have hadd : (⟨g, 0, none⟩ : Addr).add j = ⟨g, 0 + j, none⟩ := by unfold Addr.add; split <;> simp_all
    rwa [hadd] at this

theorem own_below {base : Nat} {e : TypeId} (h : w.ownsRow base e size v n xs) (hb : Below w.heap.size w w') : w'.ownsRow base e size v n xs :=
  h.kept (row := none) ⟨hb.os, hb.tape, hb.output, hb.size, fun k hk _ => hb.block k hk⟩ (by cases v.ownBlock <;> simp)

theorem own_mono {base base' : Nat} {e : TypeId} (h : w.ownsRow base e size v n xs) (hb : base' ≤ base) : w.ownsRow base' e size v n xs := by
  refine ⟨h.1, ?_⟩
  rcases h.2 with h2 | ⟨g, cap, cur, hv, hg, r⟩
  · exact .inl h2
  · exact .inr ⟨g, cap, cur, hv, Nat.le_trans hb hg, r⟩

theorem Below.then_ {w1 w2 : World} {B : Nat} (h : Below B w w1) (h' : Below w1.heap.size w1 w2) (hB : B ≤ w.heap.size) : Below B w w2 :=
  h.trans (h'.mono (Nat.le_trans hB h.size))
end

def cB (l : List UInt8) : List Value := l.map fun b => .int .u8 (b.toNat : Int)
def cS (l : List ByteArray) : List Value := l.map .string
def cI (l : List Int) : List Value := l.map (.int .i64)
theorem cB_len (l : List UInt8) : (cB l).length = l.length := by simp [cB]
theorem cS_len (l : List ByteArray) : (cS l).length = l.length := by simp [cS]
theorem cI_len (l : List Int) : (cI l).length = l.length := by simp [cI]
theorem cB_at {l : List UInt8} {k : Nat} (h : k < l.length) : (cB l)[k]? = some (.int .u8 (l[k].toNat : Int)) := by simp [cB, h]
theorem cS_at {l : List ByteArray} {k : Nat} (h : k < l.length) : (cS l)[k]? = some (.string l[k]) := by simp [cS, h]
theorem cI_at {l : List Int} {k : Nat} (h : k < l.length) : (cI l)[k]? = some (.int .i64 l[k]) := by simp [cI, h]

def Made (E : TypeId) (size n : Nat) (cs : List Value) (w : World) (e : Ending) (w' : World) : Prop :=
  ∃ v, e = .returned v ∧ w'.ownsRow w.heap.size E size v n cs ∧ Below w.heap.size w w'

theorem Rd.lit (w : World) (cs : List Value) (E : TypeId) (n : Nat) (hn : cs.length = n) (hm : n ≤ maxLen) : Rd (w.alloc (.cells cs.toArray E)) (.slice (some ⟨w.heap.size, 0, none⟩) n n) 1 n cs := by
  have h := World.ownsRow_lit (base := 0) (e := E) (size := 1) w cs.toArray n (Nat.zero_le _) hm (by simp [hn])
  simpa using Rd.of_own h

theorem add_at (b off k : Nat) : (⟨b, off, none⟩ : Addr).add k = ⟨b, off + k, none⟩ := by unfold Addr.add; split <;> simp_all
theorem Rd.front {w : World} {A : Option Addr} {n c size : Nat} {xs : List Value} (h : Rd w (.slice A n c) size n xs) {a c' : Nat} (ha : a ≤ n) (hc : a ≤ c') (hm : c' ≤ maxLen) : Rd w (.slice A a c') size a (xs.take (a * size)) := by
  obtain ⟨h1, A', c0, hv, h2, h3, h4⟩ := h
  injection hv with hA _ _
  subst hA
  have hle : a * size ≤ n * size := Nat.mul_le_mul_right _ ha
  refine ⟨by rw [List.length_take, h1]; omega, A, c', rfl, hc, hm, fun hp => ?_⟩
  rw [List.length_take] at hp
  obtain ⟨b, off, hA, hcell⟩ := h4 (by omega)
  refine ⟨b, off, hA, fun j u hu => hcell j u ?_⟩
  rw [List.getElem?_take] at hu
  split at hu
  · exact hu
  · cases hu
theorem Rd.back {w : World} {A : Option Addr} {n c size : Nat} {xs : List Value} (h : Rd w (.slice A n c) size n xs) {k c' : Nat} (hc : n - k ≤ c') (hm : c' ≤ maxLen) : Rd w (.slice (A.map (·.add (k * size))) (n - k) c') size (n - k) (xs.drop (k * size)) := by
  obtain ⟨h1, A', c0, hv, h2, h3, h4⟩ := h
  injection hv with hA _ _
  subst hA
  refine ⟨by rw [List.length_drop, h1, Nat.sub_mul], _, c', rfl, hc, hm, fun hp => ?_⟩
  rw [List.length_drop] at hp
  obtain ⟨b, off, rfl, hcell⟩ := h4 (by omega)
  refine ⟨b, off + k * size, by rw [Option.map_some, add_at], fun j u hu => ?_⟩
  rw [List.getElem?_drop] at hu
  rw [Nat.add_assoc]
  exact hcell _ u hu
theorem Rd.none_ {w : World} (A : Option Addr) (c size : Nat) (hm : c ≤ maxLen) : Rd w (.slice A 0 c) size 0 [] := ⟨by simp, A, c, rfl, Nat.zero_le _, hm, fun h => absurd h (by simp)⟩
theorem cS_take (l : List ByteArray) (k : Nat) : cS (l.take k) = (cS l).take k := by simp [cS, List.map_take]
theorem cS_drop (l : List ByteArray) (k : Nat) : cS (l.drop k) = (cS l).drop k := by simp [cS, List.map_drop]

end Go.Proofs.YtkjjgpkegihmhaaGreatDoor

namespace Go.Proofs.YtkjjgpkegihmhaaGreatDoor
open Go.RowKit

section
variable {P : Program} (w : World)

theorem run_append_nil_src (base : Nat) (t ty e : TypeId) (i : TypeInfo) (size : Nat) (ht : P.underlying t = some (.slice e)) (hi : P.info? e = some i)
    (v : Value) (n : Nat) (xs : List Value) (hown : w.ownsRow base e size v n xs) (c : Nat) : (Builtin.append_ #[t, t] ty #[v, .slice none 0 c]).run P w = .ok v w := by
  rcases hown.2 with ⟨rfl, rfl⟩ | ⟨g, cap, cur, rfl, _, _, hnc, _⟩
  · simp [Builtin.append_, run_underlying ht, sizeOf, typeInfo, hi, Builtin.lenOf, Builtin.firstCells]
  · simp [Builtin.append_, run_underlying ht, sizeOf, typeInfo, hi, Builtin.lenOf, Builtin.firstCells, hnc, storeCells]

theorem run_append_rd (base : Nat) (t ty e : TypeId) (i : TypeInfo) (z : Value) (size bytes : Nat) (ht : P.underlying t = some (.slice e)) (hi : P.info? e = some i) (hz : i.zero = some z)
    (hsize : i.size = size) (hby : i.bytes = bytes) (hzs : z.cells.size = size) (hsz : 0 < size)
    (v : Value) (n : Nat) (xs : List Value) (hown : w.ownsRow base e size v n xs) (vx : Value) (m : Nat) (news : List Value) (hr : Rd w vx size m news) (h1 : ∀ u ∈ news, u.oneCell' = true)
    (h63 : n + m ≤ maxLen) (hbytes : (n + m) * bytes ≤ 140737488355328) (hbase : base ≤ w.heap.size) :
    ∃ v' w', (Builtin.append_ #[t, t] ty #[v, vx]).run P w = .ok v' w' ∧ w'.ownsRow base e size v' (n + m) (xs ++ news) ∧ w.grownBy w' v.ownBlock ∧
      (v'.ownBlock = v.ownBlock ∨ v'.ownBlock = some w.heap.size) := by
  obtain ⟨hl, A, c, rfl, hmc, hcm, hcell⟩ := hr
  rcases Nat.eq_zero_or_pos m with h0 | h0
  · subst h0
    have hn : news = [] := List.eq_nil_of_length_eq_zero (by simpa using hl)
    subst hn
    cases A with
    | none => exact ⟨v, w, run_append_nil_src w base t ty e i size ht hi v n xs hown c, by simpa using hown, World.grownBy.refl w _, .inl rfl⟩
    | some ad =>
      obtain ⟨v', w', hrun, h2, h3, _, h5⟩ := run_append_own_at (P := P) w base t ty e i z size bytes ht hi hz hsize hby hzs hsz v n xs hown ad 0 c [] (by simp) (by simp) (by simp) h63 hbytes hbase
      exact ⟨v', w', hrun, h2, h3, h5⟩
  · obtain ⟨b, off, rfl, hc⟩ := hcell (by rw [hl]; exact Nat.mul_pos h0 hsz)
    have hcells : ∀ j u, news[j]? = some u → w.cell? ((⟨b, off, none⟩ : Addr).add j) = some u := by
      intro j u hu
      have e : (⟨b, off, none⟩ : Addr).add j = ⟨b, off + j, none⟩ := by unfold Addr.add; split <;> simp_all
      rw [e]; exact hc j u hu
    obtain ⟨v', w', hrun, h2, h3, _, h5⟩ := run_append_own_at (P := P) w base t ty e i z size bytes ht hi hz hsize hby hzs hsz v n xs hown _ m c news hl hcells h1 h63 hbytes hbase
    exact ⟨v', w', hrun, h2, h3, h5⟩

theorem wp_append_rd {o : Oper} {a : Act} {K : Act → World → Prop} {Q : Exit → Act → World → Prop} (s x : Operand) (t : TypeId)
    (ho : o.op = .call { callee := .builtin .append, args := #[s, x], argTypes := #[t, t] })
    (base : Nat) (e : TypeId) (i : TypeInfo) (z : Value) (size bytes : Nat) (ht : P.underlying t = some (.slice e)) (hi : P.info? e = some i) (hz : i.zero = some z)
    (hsize : i.size = size) (hby : i.bytes = bytes) (hzs : z.cells.size = size) (hsz : 0 < size)
    (v : Value) (n : Nat) (xs : List Value) (hs : a.eval s = v) (hown : w.ownsRow base e size v n xs)
    (vx : Value) (m : Nat) (news : List Value) (hx : a.eval x = vx) (hr : Rd w vx size m news) (h1 : ∀ u ∈ news, u.oneCell' = true)
    (h63 : n + m ≤ maxLen) (hbytes : (n + m) * bytes ≤ 140737488355328) (hbase : base ≤ w.heap.size)
    (h : ∀ v' w', w'.ownsRow base e size v' (n + m) (xs ++ news) → w.grownBy w' v.ownBlock → (v'.ownBlock = v.ownBlock ∨ v'.ownBlock = some w.heap.size) → K (a.put o.dst v') w') : o.wp P a w K Q := by
  obtain ⟨v', w', hrun, h2, h3, h4⟩ := run_append_rd (P := P) w base t o.type e i z size bytes ht hi hz hsize hby hzs hsz v n xs hown vx m news hr h1 h63 hbytes hbase
  unfold Oper.wp execOp
  simp only [ho, resolve, invoke, builtin, Sem.run_bind, Sem.run_pure, Result.andThen_ok, List.map_toArray, List.map_cons, List.map_nil, hs, hx, hrun]
  exact h v' w' h2 h3 h4

theorem wpList_append_rd {ops : Array Oper} {rest : List Oper} {o : Oper} {a : Act} {Q : Exit → Act → World → Prop} (hgd : o.guard = none) (s x : Operand) (t : TypeId)
    (ho : o.op = .call { callee := .builtin .append, args := #[s, x], argTypes := #[t, t] })
    (base : Nat) (e : TypeId) (i : TypeInfo) (z : Value) (size bytes : Nat) (ht : P.underlying t = some (.slice e)) (hi : P.info? e = some i) (hz : i.zero = some z)
    (hsize : i.size = size) (hby : i.bytes = bytes) (hzs : z.cells.size = size) (hsz : 0 < size)
    (v : Value) (n : Nat) (xs : List Value) (hs : a.eval s = v) (hown : w.ownsRow base e size v n xs)
    (vx : Value) (m : Nat) (news : List Value) (hx : a.eval x = vx) (hr : Rd w vx size m news) (h1 : ∀ u ∈ news, u.oneCell' = true)
    (h63 : n + m ≤ maxLen) (hbytes : (n + m) * bytes ≤ 140737488355328) (hbase : base ≤ w.heap.size)
    (h : ∀ v' w', w'.ownsRow base e size v' (n + m) (xs ++ news) → w.grownBy w' v.ownBlock → (v'.ownBlock = v.ownBlock ∨ v'.ownBlock = some w.heap.size) → wpList P ops Q rest (a.put o.dst v') w') : wpList P ops Q (o :: rest) a w :=
  wpList_plain hgd fun _ hK => wp_append_rd w s x t ho base e i z size bytes ht hi hz hsize hby hzs hsz v n xs hs hown vx m news hx hr h1 h63 hbytes hbase fun v' w' h2 h3 h4 => hK _ _ (h v' w' h2 h3 h4)

theorem step_append_rd {ops : Array Oper} {o : Oper} {a : Act} {K : Act → World → Prop} {Q : Exit → Act → World → Prop} {E : Prop} (hgd : o.guard = none) (s x : Operand) (t : TypeId)
    (ho : o.op = .call { callee := .builtin .append, args := #[s, x], argTypes := #[t, t] })
    (base : Nat) (e : TypeId) (i : TypeInfo) (z : Value) (size bytes : Nat) (ht : P.underlying t = some (.slice e)) (hi : P.info? e = some i) (hz : i.zero = some z)
    (hsize : i.size = size) (hby : i.bytes = bytes) (hzs : z.cells.size = size) (hsz : 0 < size)
    (v : Value) (n : Nat) (xs : List Value) (hs : a.eval s = v) (hown : w.ownsRow base e size v n xs)
    (vx : Value) (m : Nat) (news : List Value) (hx : a.eval x = vx) (hr : Rd w vx size m news) (h1 : ∀ u ∈ news, u.oneCell' = true)
    (h63 : n + m ≤ maxLen) (hbytes : (n + m) * bytes ≤ 140737488355328) (hbase : base ≤ w.heap.size)
    (h : ∀ v' w', w'.ownsRow base e size v' (n + m) (xs ++ news) → w.grownBy w' v.ownBlock → (v'.ownBlock = v.ownBlock ∨ v'.ownBlock = some w.heap.size) → K (a.put o.dst v') w') :
    if Region.wanted o (yielded ops a.tmps) = true then Oper.wp P o a w K Q else E := by
  have hw : Region.wanted o (yielded ops a.tmps) = true := by simp [Region.wanted, hgd]
  rw [if_pos hw]
  exact wp_append_rd w s x t ho base e i z size bytes ht hi hz hsize hby hzs hsz v n xs hs hown vx m news hx hr h1 h63 hbytes hbase h
end

theorem own_grown_below {B : Nat} {a w w' : World} {base : Nat} {e : TypeId} {size n : Nat} {v : Value} {xs : List Value} (h : Below B a w) (hown : w.ownsRow base e size v n xs) (hg : w.grownBy w' v.ownBlock) (hB : B ≤ w.heap.size) (hb : B ≤ base) : Below B a w' :=
  h.grown hg hB (fun k hk => Nat.le_trans hb (hown.lt k hk).1)

theorem cB_one (l : List UInt8) : ∀ u ∈ cB l, u.oneCell' = true := by
  intro u hu
  obtain ⟨_, _, rfl⟩ := List.mem_map.1 hu
  rfl
theorem cS_one (l : List ByteArray) : ∀ u ∈ cS l, u.oneCell' = true := by
  intro u hu
  obtain ⟨_, _, rfl⟩ := List.mem_map.1 hu
  rfl
theorem cI_one (l : List Int) : ∀ u ∈ cI l, u.oneCell' = true := by
  intro u hu
  obtain ⟨_, _, rfl⟩ := List.mem_map.1 hu
  rfl
theorem cB_append (a b : List UInt8) : cB (a ++ b) = cB a ++ cB b := by simp [cB]
theorem cS_append (a b : List ByteArray) : cS (a ++ b) = cS a ++ cS b := by simp [cS]
theorem cI_append (a b : List Int) : cI (a ++ b) = cI a ++ cI b := by simp [cI]

end Go.Proofs.YtkjjgpkegihmhaaGreatDoor

namespace Go.Proofs.YtkjjgpkegihmhaaGreatDoor
open Go.RowKit

structure RuleD where
  name : ByteArray
  kind : Int
  size : Int
  little : Bool
  bytes : List UInt8
  names : List ByteArray
  tags : List Int
  kids : List Int
  deriving DecidableEq

def ruleCells (r : RuleD) (vb vn vt vk : Value) : List Value := [.string r.name, .int .i64 r.kind, .int .i64 r.size, .bool r.little, vb, vn, vt, vk]

def RdRule (w : World) (cs : List Value) (r : RuleD) : Prop :=
  ∃ vb vn vt vk, cs = ruleCells r vb vn vt vk ∧ Rd w vb 1 r.bytes.length (cB r.bytes) ∧ Rd w vn 1 r.names.length (cS r.names) ∧ Rd w vt 1 r.tags.length (cI r.tags) ∧ Rd w vk 1 r.kids.length (cI r.kids)

def RdRules (w : World) (v : Value) (l : List RuleD) : Prop :=
  ∃ A c, v = .slice A l.length c ∧ l.length ≤ c ∧ c ≤ maxLen ∧ (0 < l.length → ∃ b off, A = some ⟨b, off, none⟩ ∧ ∀ i (h : i < l.length), ∃ cs, RdRule w cs l[i] ∧ w.rangeAt b (off + i * 8) cs)

def RdDesc (w : World) (d : Value) (l : List RuleD) : Prop := ∃ v, d = .agg #[v] ∧ RdRules w v l

section
variable {w w' : World}
theorem RdRule.keep {cs : List Value} {r : RuleD} (h : RdRule w cs r) (hk : ∀ p : Addr, p.block < w.heap.size → w'.cell? p = w.cell? p) : RdRule w' cs r := by
  obtain ⟨vb, vn, vt, vk, e, h1, h2, h3, h4⟩ := h
  exact ⟨vb, vn, vt, vk, e, h1.keep hk, h2.keep hk, h3.keep hk, h4.keep hk⟩
theorem RdRules.keep {v : Value} {l : List RuleD} (h : RdRules w v l) (hk : ∀ p : Addr, p.block < w.heap.size → w'.cell? p = w.cell? p) : RdRules w' v l := by
  obtain ⟨A, c, e, h1, h2, h3⟩ := h
  refine ⟨A, c, e, h1, h2, fun hp => ?_⟩
  obtain ⟨b, off, hA, h4⟩ := h3 hp
  refine ⟨b, off, hA, fun i hi => ?_⟩
  obtain ⟨cs, h5, h6⟩ := h4 i hi
  exact ⟨cs, h5.keep hk, fun j u hu => by rw [hk _ (World.block_lt_of_cell? w _ (h6 j u hu))]; exact h6 j u hu⟩
theorem RdRule.below {cs : List Value} {r : RuleD} (h : RdRule w cs r) (hb : Below w.heap.size w w') : RdRule w' cs r := h.keep fun _ hp => hb.cell hp
theorem RdRules.below {v : Value} {l : List RuleD} (h : RdRules w v l) (hb : Below w.heap.size w w') : RdRules w' v l := h.keep fun _ hp => hb.cell hp
theorem RdRule.len {cs : List Value} {r : RuleD} (h : RdRule w cs r) : cs.length = 8 := by
  obtain ⟨vb, vn, vt, vk, rfl, _⟩ := h
  rfl

def OwnRule (w : World) (lo : Nat) (cs : List Value) (r : RuleD) : Prop :=
  ∃ vb vn vt vk, cs = ruleCells r vb vn vt vk ∧ w.ownsRow lo 5 1 vb r.bytes.length (cB r.bytes) ∧ w.ownsRow lo 9 1 vn r.names.length (cS r.names) ∧
    w.ownsRow lo 3 1 vt r.tags.length (cI r.tags) ∧ w.ownsRow lo 3 1 vk r.kids.length (cI r.kids)

def blocks (cs : List Value) : List Nat := cs.filterMap Value.ownBlock
theorem blocks_append (a b : List Value) : blocks (a ++ b) = blocks a ++ blocks b := List.filterMap_append
theorem blocks_rule (r : RuleD) (vb vn vt vk : Value) : blocks (ruleCells r vb vn vt vk) = blocks [vb, vn, vt, vk] := rfl

theorem OwnRule.rd {lo : Nat} {cs : List Value} {r : RuleD} (h : OwnRule w lo cs r) : RdRule w cs r := by
  obtain ⟨vb, vn, vt, vk, e, h1, h2, h3, h4⟩ := h
  exact ⟨vb, vn, vt, vk, e, Rd.of_own h1, Rd.of_own h2, Rd.of_own h3, Rd.of_own h4⟩
theorem OwnRule.len {lo : Nat} {cs : List Value} {r : RuleD} (h : OwnRule w lo cs r) : cs.length = 8 := h.rd.len
theorem OwnRule.below {lo : Nat} {cs : List Value} {r : RuleD} (h : OwnRule w lo cs r) (hb : Below w.heap.size w w') : OwnRule w' lo cs r := by
  obtain ⟨vb, vn, vt, vk, e, h1, h2, h3, h4⟩ := h
  exact ⟨vb, vn, vt, vk, e, own_below h1 hb, own_below h2 hb, own_below h3 hb, own_below h4 hb⟩
theorem OwnRule.mono {lo lo' : Nat} {cs : List Value} {r : RuleD} (h : OwnRule w lo cs r) (hl : lo' ≤ lo) : OwnRule w lo' cs r := by
  obtain ⟨vb, vn, vt, vk, e, h1, h2, h3, h4⟩ := h
  exact ⟨vb, vn, vt, vk, e, own_mono h1 hl, own_mono h2 hl, own_mono h3 hl, own_mono h4 hl⟩
theorem OwnRule.blocks_lt {lo : Nat} {cs : List Value} {r : RuleD} (h : OwnRule w lo cs r) : ∀ k ∈ blocks cs, lo ≤ k ∧ k < w.heap.size := by
  obtain ⟨vb, vn, vt, vk, rfl, h1, h2, h3, h4⟩ := h
  intro k hk
  rw [blocks_rule] at hk
  simp only [blocks, List.mem_filterMap, List.mem_cons, List.not_mem_nil, or_false] at hk
  obtain ⟨v, hv, e⟩ := hk
  rcases hv with rfl | rfl | rfl | rfl
  · exact h1.lt k e
  · exact h2.lt k e
  · exact h3.lt k e
  · exact h4.lt k e
theorem own_type {lo : Nat} {e e' : TypeId} {size n g : Nat} {v : Value} {xs : List Value} {cs : Array Value} {f : Nat × Nat} (h : w.ownsRow lo e size v n xs) (hg : w.heap[g]? = some (.cells cs e' f)) (hne : e ≠ e') : v.ownBlock ≠ some g := by
  rcases h.2 with ⟨rfl, _⟩ | ⟨g', cap, cur, rfl, _, hh, _⟩
  · simp [Value.ownBlock]
  · intro he
    have : g' = g := by simpa [Value.ownBlock] using he
    subst this
    rw [hh] at hg
    injection hg with hg
    injection hg with _ ht
    exact hne ht
theorem OwnRule.kept {lo g : Nat} {cs : List Value} {r : RuleD} {e' : TypeId} {cur : Array Value} {f : Nat × Nat} (h : OwnRule w lo cs r) (hk : w.grownBy w' (some g)) (hg : w.heap[g]? = some (.cells cur e' f))
    (h1 : 5 ≠ e') (h2 : 9 ≠ e') (h3 : 3 ≠ e') : OwnRule w' lo cs r := by
  obtain ⟨vb, vn, vt, vk, e, k1, k2, k3, k4⟩ := h
  exact ⟨vb, vn, vt, vk, e, k1.kept hk (.inr (own_type k1 hg h1)), k2.kept hk (.inr (own_type k2 hg h2)), k3.kept hk (.inr (own_type k3 hg h3)), k4.kept hk (.inr (own_type k4 hg h3))⟩

def OwnRules (w : World) (lo : Nat) (v : Value) (l : List RuleD) : Prop :=
  ∃ css : List (List Value), css.length = l.length ∧ w.ownsRow lo 30 8 v l.length css.flatten ∧ (∀ (i : Nat) (cs : List Value) (r : RuleD), css[i]? = some cs → l[i]? = some r → OwnRule w lo cs r) ∧ (blocks css.flatten).Nodup
theorem flat_len {css : List (List Value)} (h : ∀ cs ∈ css, cs.length = 8) : css.flatten.length = css.length * 8 := by
  induction css with
  | nil => rfl
  | cons c r ih =>
    have := ih fun cs hc => h cs (List.mem_cons_of_mem _ hc)
    have h0 := h c List.mem_cons_self
    simp only [List.flatten_cons, List.length_append, List.length_cons, this, h0]; omega
theorem flat_at {css : List (List Value)} (h : ∀ cs ∈ css, cs.length = 8) {i : Nat} {cs : List Value} (hi : css[i]? = some cs) (j : Nat) (hj : j < 8) : css.flatten[i * 8 + j]? = cs[j]? := by
  induction css generalizing i with
  | nil => simp at hi
  | cons c r ih =>
    have h0 := h c List.mem_cons_self
    rw [List.flatten_cons]
    cases i with
    | zero =>
      simp at hi; subst hi
      rw [List.getElem?_append_left (by omega)]; simp
    | succ i =>
      rw [List.getElem?_append_right (by omega), show (i + 1) * 8 + j - c.length = i * 8 + j from by omega]
      exact ih (fun cs hc => h cs (List.mem_cons_of_mem _ hc)) (by simpa using hi)
theorem OwnRules.rd {lo : Nat} {v : Value} {l : List RuleD} (h : OwnRules w lo v l) : RdRules w v l := by
  obtain ⟨css, hl, hown, hr, _⟩ := h
  have h8 : ∀ cs ∈ css, cs.length = 8 := by
    intro cs hc
    obtain ⟨i, hi, rfl⟩ := List.getElem_of_mem hc
    exact (hr i css[i] l[i] (List.getElem?_eq_getElem hi) (List.getElem?_eq_getElem (by omega))).len
  have hrd := Rd.of_own hown
  obtain ⟨_, A, c, rfl, h1, h2, h3⟩ := hrd
  refine ⟨A, c, rfl, h1, h2, fun hp => ?_⟩
  obtain ⟨b, off, hA, hc⟩ := h3 (by rw [flat_len h8, hl]; omega)
  refine ⟨b, off, hA, fun i hi => ⟨css[i], (hr i css[i] l[i] (List.getElem?_eq_getElem (by omega)) (List.getElem?_eq_getElem hi)).rd, fun j u hu => ?_⟩⟩
  have hj : j < 8 := by
    have := (List.getElem?_eq_some_iff.1 hu).1
    rwa [h8 _ (List.getElem_mem _)] at this
  rw [Nat.add_assoc]
  exact hc _ u (by rw [flat_at h8 (List.getElem?_eq_getElem (show i < css.length by omega)) j hj]; exact hu)
theorem OwnRules.below {lo : Nat} {v : Value} {l : List RuleD} (h : OwnRules w lo v l) (hb : Below w.heap.size w w') : OwnRules w' lo v l := by
  obtain ⟨css, hl, hown, hr, hn⟩ := h
  exact ⟨css, hl, own_below hown hb, fun i cs r hi hl => (hr i cs r hi hl).below hb, hn⟩
theorem OwnRules.mono {lo lo' : Nat} {v : Value} {l : List RuleD} (h : OwnRules w lo v l) (hlo : lo' ≤ lo) : OwnRules w lo' v l := by
  obtain ⟨css, hl, hown, hr, hn⟩ := h
  exact ⟨css, hl, own_mono hown hlo, fun i cs r hi hl => (hr i cs r hi hl).mono hlo, hn⟩
end

def fits (n : Int) : Prop := -9223372036854775808 ≤ n ∧ n ≤ 9223372036854775807
def RuleFits (r : RuleD) : Prop := r.name.size ≤ maxLen ∧ (∀ x ∈ r.names, x.size ≤ maxLen) ∧ fits r.kind ∧ fits r.size ∧ (∀ x ∈ r.tags, fits x) ∧ ∀ x ∈ r.kids, fits x

end Go.Proofs.YtkjjgpkegihmhaaGreatDoor

namespace Go.Proofs.YtkjjgpkegihmhaaGreatDoor
open Go.RowKit

instance : Inhabited RuleD := ⟨⟨⟨#[]⟩, 0, 0, false, [], [], [], []⟩⟩
def ruleAt (l : List RuleD) (i : Int) : RuleD := (l[i.toNat]?).getD default
theorem ruleAt_eq {l : List RuleD} {k : Nat} (h : k < l.length) : ruleAt l (k : Int) = l[k] := by simp [ruleAt, h]

structure RuleCells (w : World) (b o : Nat) (r : RuleD) (vb vn vt vk : Value) : Prop where
  c0 : w.cell? ⟨b, o, none⟩ = some (.string r.name)
  c1 : w.cell? ⟨b, o + 1, none⟩ = some (.int .i64 r.kind)
  c2 : w.cell? ⟨b, o + 2, none⟩ = some (.int .i64 r.size)
  c3 : w.cell? ⟨b, o + 3, none⟩ = some (.bool r.little)
  c4 : w.cell? ⟨b, o + 4, none⟩ = some vb
  c5 : w.cell? ⟨b, o + 5, none⟩ = some vn
  c6 : w.cell? ⟨b, o + 6, none⟩ = some vt
  c7 : w.cell? ⟨b, o + 7, none⟩ = some vk
  rb : Rd w vb 1 r.bytes.length (cB r.bytes)
  rn : Rd w vn 1 r.names.length (cS r.names)
  rt : Rd w vt 1 r.tags.length (cI r.tags)
  rk : Rd w vk 1 r.kids.length (cI r.kids)
  rng : w.rangeAt b o (ruleCells r vb vn vt vk)

theorem RuleCells.of {w : World} {b o : Nat} {cs : List Value} {r : RuleD} (h : RdRule w cs r) (ha : w.rangeAt b o cs) : ∃ vb vn vt vk, RuleCells w b o r vb vn vt vk := by
  obtain ⟨vb, vn, vt, vk, rfl, h1, h2, h3, h4⟩ := h
  exact ⟨vb, vn, vt, vk, ha 0 _ rfl, ha 1 _ rfl, ha 2 _ rfl, ha 3 _ rfl, ha 4 _ rfl, ha 5 _ rfl, ha 6 _ rfl, ha 7 _ rfl, h1, h2, h3, h4, ha⟩
theorem RuleCells.keep {w w' : World} {b o : Nat} {r : RuleD} {vb vn vt vk : Value} (h : RuleCells w b o r vb vn vt vk) (hk : ∀ p : Addr, p.block < w.heap.size → w'.cell? p = w.cell? p) : RuleCells w' b o r vb vn vt vk := by
  have k : ∀ {j u}, w.cell? ⟨b, j, none⟩ = some u → w'.cell? ⟨b, j, none⟩ = some u := fun hc => by rw [hk _ (World.block_lt_of_cell? w _ hc)]; exact hc
  exact ⟨k h.c0, k h.c1, k h.c2, k h.c3, k h.c4, k h.c5, k h.c6, k h.c7, h.rb.keep hk, h.rn.keep hk, h.rt.keep hk, h.rk.keep hk, fun j u hu => k (h.rng j u hu)⟩
theorem RuleCells.below {w w' : World} {b o : Nat} {r : RuleD} {vb vn vt vk : Value} (h : RuleCells w b o r vb vn vt vk) (hb : Below w.heap.size w w') : RuleCells w' b o r vb vn vt vk := h.keep fun _ hp => hb.cell hp

theorem RuleCells.slices {w : World} {b o : Nat} {r : RuleD} {vb vn vt vk : Value} (h : RuleCells w b o r vb vn vt vk) :
    (∃ A c, vb = .slice A r.bytes.length c) ∧ (∃ A c, vn = .slice A r.names.length c) ∧ (∃ A c, vt = .slice A r.tags.length c) ∧ (∃ A c, vk = .slice A r.kids.length c) := by
  obtain ⟨_, A1, c1, e1, _⟩ := h.rb
  obtain ⟨_, A2, c2, e2, _⟩ := h.rn
  obtain ⟨_, A3, c3, e3, _⟩ := h.rt
  obtain ⟨_, A4, c4, e4, _⟩ := h.rk
  exact ⟨⟨A1, c1, e1⟩, ⟨A2, c2, e2⟩, ⟨A3, c3, e3⟩, ⟨A4, c4, e4⟩⟩

def AllCells (w : World) (A : Option Addr) (l : List RuleD) : Prop :=
  0 < l.length → ∃ b off, A = some ⟨b, off, none⟩ ∧ ∀ i (h : i < l.length), ∃ vb vn vt vk, RuleCells w b (off + i * 8) l[i] vb vn vt vk
theorem RdRules.all {w : World} {v : Value} {l : List RuleD} (h : RdRules w v l) : ∃ A c, v = .slice A l.length c ∧ l.length ≤ c ∧ c ≤ maxLen ∧ AllCells w A l := by
  obtain ⟨A, c, e, h1, h2, h3⟩ := h
  refine ⟨A, c, e, h1, h2, fun hp => ?_⟩
  obtain ⟨b, off, hA, h4⟩ := h3 hp
  refine ⟨b, off, hA, fun i hi => ?_⟩
  obtain ⟨cs, hr, ha⟩ := h4 i hi
  exact RuleCells.of hr ha
theorem AllCells.below {w w' : World} {A : Option Addr} {l : List RuleD} (h : AllCells w A l) (hb : Below w.heap.size w w') : AllCells w' A l := fun hp => by
  obtain ⟨b, off, hA, h4⟩ := h hp
  refine ⟨b, off, hA, fun i hi => ?_⟩
  obtain ⟨vb, vn, vt, vk, hc⟩ := h4 i hi
  exact ⟨vb, vn, vt, vk, hc.below hb⟩

def findL (l : List RuleD) (s : ByteArray) : Int := match l.findIdx? (fun r => decide (r.name = s)) with | some k => (k : Int) | none => -1
theorem findL_none {l : List RuleD} {s : ByteArray} (h : ∀ j (h : j < l.length), l[j].name ≠ s) : findL l s = -1 := by
  have : l.findIdx? (fun r => decide (r.name = s)) = none := by
    rw [List.findIdx?_eq_none_iff]
    intro x hx
    obtain ⟨j, hj, rfl⟩ := List.getElem_of_mem hx
    simpa using h j hj
  simp [findL, this]
theorem findL_at {l : List RuleD} {s : ByteArray} {k : Nat} (hk : k < l.length) (hn : ∀ j (h : j < l.length), j < k → l[j].name ≠ s) (he : l[k].name = s) : findL l s = k := by
  have : l.findIdx? (fun r => decide (r.name = s)) = some k := by
    rw [List.findIdx?_eq_some_iff_getElem]
    exact ⟨hk, by simpa using he, fun j hj => by simpa using hn j (by omega) hj⟩
  simp [findL, this]
theorem findL_range (l : List RuleD) (s : ByteArray) : -1 ≤ findL l s ∧ findL l s < l.length := by
  unfold findL
  split
  · rename_i k h
    have := (List.findIdx?_eq_some_iff_getElem.1 h).1
    omega
  · omega

def hasL (l : List RuleD) (i : Int) : Bool := decide (0 ≤ i) && decide (i < (l.length : Int))
theorem hasL_yes {l : List RuleD} {i : Int} (h0 : 0 ≤ i) (h1 : i < l.length) : hasL l i = true := by simp [hasL, h0, h1]
theorem hasL_no {l : List RuleD} {i : Int} (h : i < 0 ∨ (l.length : Int) ≤ i) : hasL l i = false := by
  simp only [hasL, Bool.and_eq_false_iff, decide_eq_false_iff_not]; omega

def limitOf (s : Int) : Int := if s = 1 then 255 else if s = 2 then 65535 else if s = 3 then 16777215 else if s = 4 then 4294967295 else -1
def limitL (l : List RuleD) (i : Int) : Int := if hasL l i = true ∧ (ruleAt l i).kind = 1 then limitOf (ruleAt l i).size else -1
theorem limitL_range (l : List RuleD) (i : Int) : -1 ≤ limitL l i ∧ limitL l i ≤ 4294967295 := by
  unfold limitL limitOf
  repeat' split
  all_goals omega

def kidL (l : List RuleD) (i k : Int) : ByteArray :=
  if hasL l i = true ∧ 0 ≤ k ∧ k < ((ruleAt l i).kids.length : Int) ∧ hasL l ((ruleAt l i).kids.getD k.toNat 0) = true then (ruleAt l ((ruleAt l i).kids.getD k.toNat 0)).name else ⟨#[]⟩

end Go.Proofs.YtkjjgpkegihmhaaGreatDoor

namespace Go.Proofs.YtkjjgpkegihmhaaGreatDoor
open Go.RowKit

def Box (w : World) (g : Nat) (t : TypeId) (cs : Array Value) : Prop := w.heap[g]? = some (.cells cs t (0, 0))
section
variable {w w' : World} {g : Nat} {t : TypeId} {cs : Array Value}
theorem Box.new (w : World) (t : TypeId) (cs : Array Value) : Box (w.alloc (.cells cs t)) w.heap.size t cs := heap_alloc_new w _
theorem Box.lt (h : Box w g t cs) : g < w.heap.size := (Array.getElem?_eq_some_iff.1 h).1
theorem Box.cell (h : Box w g t cs) (j : Nat) : w.cell? ⟨g, j, none⟩ = cs[j]? := cell_of_row w g j cs t (0, 0) h
theorem Box.frozen (h : Box w g t cs) (j : Nat) : w.frozen? ⟨g, j, none⟩ = false := by
  have h' : w.heap[g]? = some (.cells cs t (0, 0)) := h
  simp [World.frozen?, h']
theorem Box.alloc (h : Box w g t cs) (ob : Obj) : Box (w.alloc ob) g t cs := (Below.heap_alloc _ _ _ h.lt).trans h
theorem Box.below (h : Box w g t cs) (hb : Below w.heap.size w w') : Box w' g t cs := (hb.block _ h.lt).trans h
theorem Box.grown {row : Option Nat} (h : Box w g t cs) (hb : w.grownBy w' row) (hne : some g ≠ row) : Box w' g t cs := (hb.block _ h.lt hne).trans h
theorem Box.drewN (h : Box w g t cs) (n : Nat) : Box (w.drewN n) g t cs := h
theorem Box.setOther (h : Box w g t cs) (p : Addr) (hp : g ≠ p.block) (u : Value) : Box (w.setCell p u) g t cs := (heap_setCell_other w p g u hp).trans h
theorem Box.set (h : Box w g t cs) (j : Nat) (u : Value) : Box (w.setCell ⟨g, j, none⟩ u) g t (cs.setIfInBounds j u) := by
  have h' : w.heap[g]? = some (.cells cs t (0, 0)) := h
  show (w.setCell ⟨g, j, none⟩ u).heap[g]? = _
  simp [World.setCell, Array.getElem?_modify, h']
end
theorem below_set {w0 w : World} {B g j : Nat} (h : Below B w0 w) (hg : B ≤ g) (u : Value) : Below B w0 (w.setCell ⟨g, j, none⟩ u) := h.setCell (p := ⟨g, j, none⟩) hg u

end Go.Proofs.YtkjjgpkegihmhaaGreatDoor

namespace Go.Proofs.YtkjjgpkegihmhaaGreatDoor
open Go.RowKit

def mkS (l : List UInt8) : ByteArray := ⟨l.toArray⟩
theorem mkS_list (l : List UInt8) : (mkS l).data.toList = l := rfl
theorem mkS_size (l : List UInt8) : (mkS l).size = l.length := rfl
theorem mkS_append (a b : List UInt8) : mkS a ++ mkS b = mkS (a ++ b) := by
  apply ByteArray.ext; simp [mkS, ByteArray.data_append]
theorem mkS_inj {a b : List UInt8} (h : mkS a = mkS b) : a = b := by
  have := congrArg (fun s : ByteArray => s.data.toList) h
  simpa [mkS] using this
theorem mkS_of (s : ByteArray) : mkS s.data.toList = s := by cases s; simp [mkS]
theorem len_of (s : ByteArray) : s.data.toList.length = s.size := by cases s; simp [ByteArray.size]
theorem bytes_ext {s t : ByteArray} (h : s.data.toList = t.data.toList) : s = t := by rw [← mkS_of s, ← mkS_of t, h]
theorem extract_mk (s : ByteArray) (a b : Nat) : s.extract a b = mkS ((s.data.toList.drop a).take (b - a)) := Lib.extract_eq s a b
theorem extract_end (s : ByteArray) (a : Nat) : s.extract a s.size = mkS (s.data.toList.drop a) := by
  apply bytes_ext; rw [Lib.extract_to_end]; rfl
theorem extract_front (s : ByteArray) (b : Nat) : s.extract 0 b = mkS (s.data.toList.take b) := by
  rw [extract_mk]; simp
theorem get_list (s : ByteArray) (k : Nat) (h : k < s.size) : s.data.toList[k]? = some s[k] := by
  have : k < s.data.toList.length := by rw [len_of]; exact h
  rw [List.getElem?_eq_getElem this]; rfl

theorem u8_toNat (c : Int) (h : 0 ≤ c ∧ c ≤ 255) : (c.toNat.toUInt8.toNat : Int) = c := by
  have : c.toNat < 256 := by omega
  simp [Nat.toUInt8, UInt8.toNat_ofNat', Nat.mod_eq_of_lt this]; omega
theorem u8_eq_iff (x : UInt8) (c : Int) (h : 0 ≤ c ∧ c ≤ 255) : ((x.toNat : Int) == c) = (x == c.toNat.toUInt8) := by
  rw [Bool.eq_iff_iff, beq_iff_eq, beq_iff_eq]
  constructor
  · intro e
    apply UInt8.toNat_inj.1
    have := u8_toNat c h
    omega
  · intro e
    rw [e]; exact u8_toNat c h

def cutIdx : List UInt8 → UInt8 → Option Nat
  | [], _ => none
  | x :: r, c => if x = c then some 0 else (cutIdx r c).map (· + 1)

theorem indexByte_cut (l : List UInt8) (c : UInt8) : Lib.indexByte l c = match cutIdx l c with | some k => (k : Int) | none => -1 := by
  induction l with
  | nil => rfl
  | cons x r ih =>
    unfold Lib.indexByte cutIdx
    by_cases h : x = c
    · simp [h]
    · rw [ih]
      cases cutIdx r c with
      | none => simp [h]
      | some k => simp [h]

theorem cutIdx_lt {l : List UInt8} {c : UInt8} {k : Nat} (h : cutIdx l c = some k) : k < l.length ∧ l[k]? = some c ∧ ∀ j : Nat, j < k → l[j]? ≠ some c := by
  induction l generalizing k with
  | nil => simp [cutIdx] at h
  | cons x r ih =>
    unfold cutIdx at h
    by_cases hx : x = c
    · simp [hx] at h; subst h; simp [hx]
    · simp [hx] at h
      obtain ⟨j, hj, rfl⟩ := h
      obtain ⟨h1, h2, h3⟩ := ih hj
      refine ⟨by simp; omega, by simpa using h2, ?_⟩
      intro i hi
      cases i with
      | zero => simpa using hx
      | succ i => simpa using h3 i (by omega)

theorem cutIdx_none {l : List UInt8} {c : UInt8} (h : cutIdx l c = none) : ∀ j : Nat, l[j]? ≠ some c := by
  induction l with
  | nil => simp
  | cons x r ih =>
    unfold cutIdx at h
    by_cases hx : x = c
    · simp [hx] at h
    · simp [hx] at h
      intro j
      cases j with
      | zero => simpa using hx
      | succ j => simpa using ih h j

theorem cutIdx_of {l : List UInt8} {c : UInt8} {k : Nat} (h : l[k]? = some c) (hn : ∀ j : Nat, j < k → l[j]? ≠ some c) : cutIdx l c = some k := by
  cases e : cutIdx l c with
  | none => exact absurd h (cutIdx_none e k)
  | some j =>
    obtain ⟨h1, h2, h3⟩ := cutIdx_lt e
    rcases Nat.lt_trichotomy j k with hj | hj | hj
    · exact absurd h2 (hn j hj)
    · rw [hj]
    · exact absurd h (h3 k hj)

theorem cutIdx_of_none {l : List UInt8} {c : UInt8} (hn : ∀ j : Nat, j < l.length → l[j]? ≠ some c) : cutIdx l c = none := by
  cases e : cutIdx l c with
  | none => rfl
  | some j => obtain ⟨h1, h2, _⟩ := cutIdx_lt e; exact absurd h2 (hn j h1)

def cutLeft (l : List UInt8) (c : UInt8) : List UInt8 := match cutIdx l c with | some k => l.take k | none => l
def cutRight (l : List UInt8) (c : UInt8) : List UInt8 := match cutIdx l c with | some k => l.drop (k + 1) | none => []
def cutOk (l : List UInt8) (c : UInt8) : Bool := (cutIdx l c).isSome

end Go.Proofs.YtkjjgpkegihmhaaGreatDoor

namespace Go.Proofs.YtkjjgpkegihmhaaGreatDoor
open Go.RowKit

def hexD (n : Nat) : UInt8 := if n < 10 then (48 + n).toUInt8 else (87 + n).toUInt8
def hexS : ByteArray := ⟨#[48, 49, 50, 51, 52, 53, 54, 55, 56, 57, 97, 98, 99, 100, 101, 102]⟩
theorem hexS_size : hexS.size = 16 := rfl
theorem hexS_at {n : Nat} (h : n < 16) : hexS.data.toList[n]? = some (hexD n) := by
  have hd : ∀ n < 16, hexS.data.toList[n]? = some (hexD n) := by decide
  exact hd n h
theorem hexS_get {n : Nat} (h : n < hexS.size) : hexS[n] = hexD n := by
  have h1 := get_list hexS n h
  rw [hexS_at (by rwa [hexS_size] at h)] at h1
  exact (Option.some.inj h1).symm
def hexPair (b : UInt8) : List UInt8 := [hexD (b.toNat / 16), hexD (b.toNat % 16)]
def hexL (l : List UInt8) : List UInt8 := l.flatMap hexPair
theorem hexL_snoc (l : List UInt8) (b : UInt8) : hexL (l ++ [b]) = hexL l ++ hexPair b := by simp [hexL]
theorem hexL_len (l : List UInt8) : (hexL l).length = 2 * l.length := by
  induction l with
  | nil => rfl
  | cons x r ih => simp [hexL, hexPair] at ih ⊢; omega
theorem hexL_step {l : List UInt8} {k : Nat} (h : k < l.length) : hexL (l.take (k + 1)) = hexL (l.take k) ++ hexPair l[k] := by
  rw [List.take_succ_eq_append_getElem h, hexL_snoc]

def unhex (x : UInt8) : Option Nat := if 48 ≤ x.toNat ∧ x.toNat ≤ 57 then some (x.toNat - 48) else if 97 ≤ x.toNat ∧ x.toNat ≤ 102 then some (x.toNat - 87) else none
def unhexI (x : UInt8) : Int := match unhex x with | some n => n | none => -1
def byteOf (a b : Nat) : UInt8 := (a * 16 + b).toUInt8
def parseHex : List UInt8 → Option (List UInt8)
  | [] => some []
  | [_] => none
  | a :: b :: r => match unhex a, unhex b, parseHex r with
    | some x, some y, some t => some (byteOf x y :: t)
    | _, _, _ => none

theorem parse_append (n : Nat) : ∀ (a b : List UInt8), a.length = 2 * n → parseHex (a ++ b) = (parseHex a).bind fun s => (parseHex b).map (s ++ ·) := by
  induction n with
  | zero => intro a b h; have : a = [] := List.eq_nil_of_length_eq_zero (by simpa using h)
            subst this; simp [parseHex]
  | succ n ih =>
    intro a b h
    match a, h with
    | x :: y :: r, h =>
      have hr : r.length = 2 * n := by simp at h; omega
      simp only [List.cons_append, parseHex, ih r b hr]
      cases unhex x <;> cases unhex y <;> cases parseHex r <;> cases parseHex b <;> simp
    | [_], h => simp at h; omega
    | [], h => simp at h
theorem parse_odd : ∀ (n : Nat) (a : List UInt8), a.length = 2 * n + 1 → parseHex a = none := by
  intro n
  induction n with
  | zero => intro a h; match a, h with
            | [_], _ => rfl
  | succ n ih =>
    intro a h
    match a, h with
    | x :: y :: r, h =>
      have := ih r (by simp at h; omega)
      simp only [parseHex, this]
      cases unhex x <;> cases unhex y <;> rfl
theorem drop_two {l : List UInt8} {k : Nat} {x y : UInt8} (hx : l[k]? = some x) (hy : l[k + 1]? = some y) : l = l.take k ++ (x :: y :: l.drop (k + 2)) := by
  have h1 : k < l.length := (List.getElem?_eq_some_iff.1 hx).1
  have h2 : k + 1 < l.length := (List.getElem?_eq_some_iff.1 hy).1
  have e1 : l.drop k = x :: l.drop (k + 1) := by
    rw [List.drop_eq_getElem_cons h1]; rw [List.getElem?_eq_getElem h1] at hx; rw [Option.some.inj hx]
  have e2 : l.drop (k + 1) = y :: l.drop (k + 2) := by
    rw [List.drop_eq_getElem_cons h2]; rw [List.getElem?_eq_getElem h2] at hy; rw [Option.some.inj hy]
  rw [← e2, ← e1, List.take_append_drop]
theorem parse_bad {l : List UInt8} {k : Nat} {x y : UInt8} (hk : k ≤ l.length) (he : k % 2 = 0) (hx : l[k]? = some x) (hy : l[k + 1]? = some y) (h : unhex x = none ∨ unhex y = none) : parseHex l = none := by
  rw [drop_two hx hy, parse_append (k / 2) _ _ (by rw [List.length_take]; omega)]
  have : parseHex (x :: y :: l.drop (k + 2)) = none := by
    simp only [parseHex]
    rcases h with h | h
    · rw [h]
    · rw [h]; cases unhex x <;> rfl
  rw [this]
  cases parseHex (l.take k) <;> rfl
theorem take_one {l : List UInt8} {k : Nat} {x : UInt8} (hx : l[k]? = some x) : l.take (k + 1) = l.take k ++ [x] := by
  rw [List.take_add_one, hx]; rfl
theorem take_two {l : List UInt8} {k : Nat} {x y : UInt8} (hx : l[k]? = some x) (hy : l[k + 1]? = some y) : l.take (k + 2) = l.take k ++ [x, y] := by
  rw [show k + 2 = (k + 1) + 1 from rfl, take_one hy, take_one hx]; simp
theorem parse_good {l t : List UInt8} {k : Nat} {x y : UInt8} {a b : Nat} (he : k % 2 = 0) (hx : l[k]? = some x) (hy : l[k + 1]? = some y) (ha : unhex x = some a) (hb : unhex y = some b) (ht : parseHex (l.take k) = some t) :
    parseHex (l.take (k + 2)) = some (t ++ [byteOf a b]) := by
  have hk : k < l.length := (List.getElem?_eq_some_iff.1 hx).1
  rw [take_two hx hy, parse_append (k / 2) _ _ (by rw [List.length_take]; omega), ht]
  simp [parseHex, ha, hb]
theorem unhex_lt {x : UInt8} {a : Nat} (h : unhex x = some a) : a < 16 := by
  unfold unhex at h
  split at h
  · injection h; omega
  · split at h
    · injection h; omega
    · cases h
def parseB (l : List UInt8) : List UInt8 := (parseHex l).getD []
def parseBOk (l : List UInt8) : Bool := (parseHex l).isSome
end Go.Proofs.YtkjjgpkegihmhaaGreatDoor
namespace Go.Proofs.YtkjjgpkegihmhaaGreatDoor
open Go.RowKit
def digit (d : Nat) : UInt8 := (48 + d).toUInt8
theorem digit_toNat {d : Nat} (h : d < 10) : (digit d).toNat = 48 + d := by
  unfold digit
  simp [Nat.toUInt8, UInt8.toNat_ofNat']
  omega

def dec (n : Nat) : List UInt8 := if n = 0 then [] else dec (n / 10) ++ [digit (n % 10)]
termination_by n
decreasing_by omega

theorem dec_zero : dec 0 = [] := by rw [dec, if_pos rfl]
theorem dec_pos {n : Nat} (h : n ≠ 0) : dec n = dec (n / 10) ++ [digit (n % 10)] := by rw [dec, if_neg h]

theorem dec_len (k : Nat) : ∀ n, n < 10 ^ k → (dec n).length ≤ k := by
  induction k with
  | zero => intro n h; have : n = 0 := by simpa using h
            subst this; simp [dec_zero]
  | succ k ih =>
    intro n h
    by_cases h0 : n = 0
    · subst h0; simp [dec_zero]
    · rw [dec_pos h0, List.length_append]
      have := ih (n / 10) (by rw [Nat.pow_succ] at h; omega)
      simp; omega

def fmtInt (n : Int) : List UInt8 := if n = 0 then [48] else if n < 0 then 45 :: dec n.natAbs else dec n.natAbs

theorem fmtInt_len {n : Int} (h : -9223372036854775808 ≤ n ∧ n ≤ 9223372036854775807) : (fmtInt n).length ≤ 20 := by
  have : (dec n.natAbs).length ≤ 19 := dec_len 19 _ (by omega)
  unfold fmtInt
  split
  · simp
  · split <;> simp <;> omega

theorem dec_step {x : Int} (h : x ≠ 0) (t : List UInt8) : dec x.natAbs ++ t = dec (x.tdiv 10).natAbs ++ (digit (x.natAbs % 10) :: t) := by
  have e : (x.tdiv 10).natAbs = x.natAbs / 10 := by rw [Int.natAbs_tdiv]; rfl
  rw [dec_pos (by omega : x.natAbs ≠ 0), e]
  simp

theorem digit_of (d : Int) (k : Nat) (h : d = 48 + (k : Int)) : UInt8.ofNat d.toNat = digit k := by
  subst h
  unfold digit Nat.toUInt8
  congr 1
theorem tmod_ten_neg {q : Int} (h : q < 0) : q.tmod 10 = -((q.natAbs % 10 : Nat) : Int) ∧ q.tdiv 10 = -((q.natAbs / 10 : Nat) : Int) := by
  obtain ⟨m, rfl⟩ : ∃ m : Nat, q = -(m : Int) := ⟨q.natAbs, by omega⟩
  rw [Int.neg_tmod, Int.neg_tdiv, Int.natAbs_neg, Int.natAbs_natCast]
  constructor
  · rw [Int.tmod_eq_emod_of_nonneg (by omega)]; simp
  · rw [Int.tdiv_eq_ediv_of_nonneg (by omega)]; simp

def isDigit (x : UInt8) : Bool := decide (48 ≤ x.toNat) && decide (x.toNat ≤ 57)
def val (l : List UInt8) : Nat := l.foldl (fun n x => 10 * n + (x.toNat - 48)) 0

theorem val_snoc (l : List UInt8) (x : UInt8) : val (l ++ [x]) = 10 * val l + (x.toNat - 48) := by simp [val]
theorem fold_lt (l : List UInt8) (h : l.all isDigit = true) : ∀ a, l.foldl (fun n x => 10 * n + (x.toNat - 48)) a < (a + 1) * 10 ^ l.length := by
  induction l with
  | nil => intro a; simp
  | cons x r ih =>
    intro a
    simp only [List.all_cons, Bool.and_eq_true] at h
    have hx : x.toNat - 48 ≤ 9 := by have := h.1; simp [isDigit] at this; omega
    have := ih h.2 (10 * a + (x.toNat - 48))
    simp only [List.foldl_cons, List.length_cons]
    refine Nat.lt_of_lt_of_le this ?_
    rw [Nat.pow_succ, ← Nat.mul_assoc, Nat.mul_right_comm]
    exact Nat.mul_le_mul_right _ (by omega)
theorem val_lt {l : List UInt8} (h : l.all isDigit = true) : val l < 10 ^ l.length := by
  have := fold_lt l h 0
  simpa [val] using this

theorem digit_val {x : UInt8} (h : isDigit x = true) : digit (x.toNat - 48) = x := by
  simp [isDigit] at h
  apply UInt8.toNat_inj.1
  rw [digit_toNat (by omega)]
  omega

theorem val_pos {l : List UInt8} (hd : l.all isDigit = true) {x : UInt8} (hx : l[0]? = some x) (h : x ≠ 48) : 0 < val l := by
  induction hn : l.length generalizing l with
  | zero => have : l = [] := List.eq_nil_of_length_eq_zero hn
            subst this; simp at hx
  | succ n ih =>
    rcases List.eq_nil_or_concat l with rfl | ⟨r, y, rfl⟩
    · simp at hx
    · rw [List.concat_eq_append] at *
      rw [val_snoc]
      simp only [List.all_append, Bool.and_eq_true, List.all_cons, List.all_nil, Bool.and_true] at hd
      cases r with
      | nil =>
        simp at hx
        subst hx
        have h1 := hd.2
        simp [isDigit] at h1
        have : y.toNat ≠ 48 := fun e => h (UInt8.toNat_inj.1 e)
        omega
      | cons z r' =>
        have := ih (l := z :: r') hd.1 (by simpa using hx) (by simpa using hn)
        omega

theorem dec_val {l : List UInt8} (hd : l.all isDigit = true) (h : ∀ x, l[0]? = some x → x ≠ 48) : dec (val l) = l := by
  induction hn : l.length generalizing l with
  | zero => have : l = [] := List.eq_nil_of_length_eq_zero hn
            subst this; simp [val, dec_zero]
  | succ n ih =>
    rcases List.eq_nil_or_concat l with rfl | ⟨r, y, rfl⟩
    · simp at hn
    · rw [List.concat_eq_append] at *
      have hpos : 0 < val (r ++ [y]) := by
        cases r with
        | nil => exact val_pos hd (x := y) (by simp) (h y (by simp))
        | cons z r' => exact val_pos hd (x := z) (by simp) (h z (by simp))
      rw [dec_pos (by omega), val_snoc]
      simp only [List.all_append, Bool.and_eq_true, List.all_cons, List.all_nil, Bool.and_true] at hd
      have hy := hd.2
      have hdv := digit_val hy
      simp [isDigit] at hy
      rw [show (10 * val r + (y.toNat - 48)) / 10 = val r from by omega, show (10 * val r + (y.toNat - 48)) % 10 = y.toNat - 48 from by omega, hdv]
      rw [ih hd.1 (by
        intro x hx
        cases r with
        | nil => simp at hx
        | cons z r' => exact h x (by simpa using hx)) (by simpa using hn)]

def parseOk (l : List UInt8) : Bool := decide (1 ≤ l.length) && decide (l.length ≤ 13) && l.all isDigit && decide (val l ≤ 1000000000000) && (decide (l.length = 1) || decide (l[0]? ≠ some 48))
def parseNum (l : List UInt8) : Int := if parseOk l then val l else 0

theorem val_zero_head {r : List UInt8} : val (48 :: r) = val r := by
  simp [val]

theorem fmt_val {l : List UInt8} (h1 : 1 ≤ l.length) (hd : l.all isDigit = true) : fmtInt (val l) = l ↔ (l.length = 1 ∨ l[0]? ≠ some 48) := by
  have hnn : ¬ ((val l : Nat) : Int) < 0 := by omega
  constructor
  · intro h
    rcases Nat.lt_or_ge 1 l.length with hl | hl
    · right
      intro h0
      cases l with
      | nil => simp at h1
      | cons x r =>
        simp at h0
        subst h0
        simp only [List.all_cons, Bool.and_eq_true] at hd
        rw [val_zero_head] at h
        have hv := val_lt hd.2
        have hlen := congrArg List.length h
        unfold fmtInt at hlen
        split at hlen
        · simp only [List.length_cons, List.length_nil] at hlen hl; omega
        · rw [if_neg (show ¬ ((val r : Nat) : Int) < 0 by omega)] at hlen
          have := dec_len r.length (val r) hv
          simp at hlen
          omega
    · left; omega
  · intro h
    unfold fmtInt
    rw [if_neg hnn, Int.natAbs_natCast]
    by_cases h0 : val l = 0
    · rw [if_pos (by omega)]
      rcases h with h | h
      · match l, h with
        | [x], _ =>
          simp [isDigit] at hd
          simp [val] at h0
          have : x.toNat = 48 := by omega
          rw [show x = 48 from UInt8.toNat_inj.1 this]
      · cases l with
        | nil => simp at h1
        | cons x r =>
          have := val_pos hd (x := x) (by simp) (by simpa using h)
          omega
    · rw [if_neg (by omega)]
      refine dec_val hd fun x hx hx48 => ?_
      subst hx48
      rcases h with h | h
      · match l, h with
        | [y], _ => simp at hx; subst hx; simp [val] at h0
      · exact h hx

theorem parseOk_of {l : List UInt8} (h1 : 1 ≤ l.length) (h2 : l.length ≤ 13) (hd : l.all isDigit = true) (hv : val l ≤ 1000000000000) (h : l.length = 1 ∨ l[0]? ≠ some 48) : parseOk l = true := by
  unfold parseOk
  simp only [Bool.and_eq_true, decide_eq_true_eq, Bool.or_eq_true]
  exact ⟨⟨⟨⟨h1, h2⟩, hd⟩, hv⟩, h⟩
theorem parseOk_not {l : List UInt8} (h : l.length < 1 ∨ 13 < l.length ∨ l.all isDigit = false ∨ 1000000000000 < val l ∨ (1 < l.length ∧ l[0]? = some 48)) : parseOk l = false := by
  cases e : parseOk l with
  | false => rfl
  | true =>
    unfold parseOk at e
    simp only [Bool.and_eq_true, decide_eq_true_eq, Bool.or_eq_true] at e
    obtain ⟨⟨⟨⟨h1, h2⟩, hd⟩, hv⟩, h0⟩ := e
    rcases h with h | h | h | h | ⟨h, h'⟩
    · omega
    · omega
    · rw [hd] at h; cases h
    · omega
    · rcases h0 with h0 | h0
      · omega
      · exact absurd h' h0
theorem all_bad {l : List UInt8} {k : Nat} {x : UInt8} (hx : l[k]? = some x) (h : isDigit x = false) : l.all isDigit = false := by
  cases e : l.all isDigit with
  | false => rfl
  | true =>
    have := List.all_eq_true.1 e x (List.mem_of_getElem? hx)
    rw [h] at this; cases this
theorem take_step {l : List UInt8} {k : Nat} {x : UInt8} (hx : l[k]? = some x) : l.take (k + 1) = l.take k ++ [x] := by
  rw [List.take_add_one, hx]; rfl

end Go.Proofs.YtkjjgpkegihmhaaGreatDoor

namespace Go.Proofs.YtkjjgpkegihmhaaGreatDoor
open Go.RowKit

def splitA (c : UInt8) : List UInt8 → List UInt8 → List (List UInt8)
  | acc, [] => [acc]
  | acc, x :: r => if x = c then acc :: splitA c [] r else splitA c (acc ++ [x]) r
def splitL (l : List UInt8) (c : UInt8) : List (List UInt8) := splitA c [] l

theorem splitA_form (c : UInt8) (l : List UInt8) : ∃ h t, ∀ acc, splitA c acc l = (acc ++ h) :: t := by
  induction l with
  | nil => exact ⟨[], [], fun acc => by simp [splitA]⟩
  | cons x r ih =>
    by_cases hx : x = c
    · exact ⟨[], splitA c [] r, fun acc => by simp [splitA, hx]⟩
    · obtain ⟨h, t, e⟩ := ih
      exact ⟨x :: h, t, fun acc => by rw [splitA, if_neg hx, e]; simp⟩
theorem splitL_nil (c : UInt8) : splitL [] c = [[]] := rfl
theorem splitL_hit {x c : UInt8} (r : List UInt8) (h : x = c) : splitL (x :: r) c = [] :: splitL r c := by
  unfold splitL; rw [splitA, if_pos h]
theorem splitL_miss {x c : UInt8} (r : List UInt8) (h : x ≠ c) : ∃ a t, splitL r c = a :: t ∧ splitL (x :: r) c = (x :: a) :: t := by
  obtain ⟨a, t, e⟩ := splitA_form c r
  refine ⟨a, t, by unfold splitL; rw [e]; rfl, ?_⟩
  unfold splitL; rw [splitA, if_neg h, e]; rfl
theorem splitL_cons (l : List UInt8) (c : UInt8) : ∃ a t, splitL l c = a :: t := by
  obtain ⟨a, t, e⟩ := splitA_form c l
  exact ⟨a, t, by unfold splitL; rw [e]; rfl⟩
theorem splitL_pos (l : List UInt8) (c : UInt8) : 0 < (splitL l c).length := by
  obtain ⟨a, t, e⟩ := splitL_cons l c; rw [e]; simp

def SplitInv (l : List UInt8) (c : UInt8) (k : Nat) (p : List (List UInt8)) (f : Nat) : Prop :=
  f ≤ k ∧ p.length ≤ f ∧ p ++ splitA c ((l.drop f).take (k - f)) (l.drop k) = splitL l c
theorem SplitInv.zero (l : List UInt8) (c : UInt8) : SplitInv l c 0 [] 0 := ⟨Nat.le_refl _, by simp, by simp [splitL]⟩
theorem drop_at {l : List UInt8} {k : Nat} {x : UInt8} (h : l[k]? = some x) : l.drop k = x :: l.drop (k + 1) := by
  obtain ⟨hk, rfl⟩ := List.getElem?_eq_some_iff.1 h
  exact List.drop_eq_getElem_cons hk
theorem SplitInv.hit {l : List UInt8} {c : UInt8} {k f : Nat} {p : List (List UInt8)} (h : SplitInv l c k p f) (hx : l[k]? = some c) : SplitInv l c (k + 1) (p ++ [(l.drop f).take (k - f)]) (k + 1) := by
  obtain ⟨h1, h2, h3⟩ := h
  refine ⟨Nat.le_refl _, by simp; omega, ?_⟩
  rw [← h3, drop_at hx, splitA, if_pos rfl]
  simp
theorem SplitInv.miss {l : List UInt8} {c x : UInt8} {k f : Nat} {p : List (List UInt8)} (h : SplitInv l c k p f) (hx : l[k]? = some x) (hn : x ≠ c) : SplitInv l c (k + 1) p f := by
  obtain ⟨h1, h2, h3⟩ := h
  refine ⟨by omega, h2, ?_⟩
  rw [← h3, drop_at hx, splitA, if_neg hn, show k + 1 - f = (k - f) + 1 from by omega, List.take_add_one, List.getElem?_drop, show f + (k - f) = k from by omega, hx]
  rfl
theorem SplitInv.done {l : List UInt8} {c : UInt8} {k f : Nat} {p : List (List UInt8)} (h : SplitInv l c k p f) (hk : k = l.length) : p ++ [l.drop f] = splitL l c := by
  obtain ⟨h1, h2, h3⟩ := h
  subst hk
  rw [← h3, List.drop_length, splitA, List.take_of_length_le (by simp)]

theorem splitL_len (l : List UInt8) (c : UInt8) : (splitL l c).length ≤ l.length + 1 := by
  induction l with
  | nil => simp [splitL_nil]
  | cons x r ih =>
    by_cases hx : x = c
    · rw [splitL_hit r hx]; simp; omega
    · obtain ⟨a, t, e, e'⟩ := splitL_miss r hx
      rw [e'] ; rw [e] at ih; simp at ih ⊢; omega
theorem splitL_mem {l : List UInt8} {c : UInt8} {p : List UInt8} (h : p ∈ splitL l c) : p.length ≤ l.length ∧ c ∉ p := by
  induction l generalizing p with
  | nil => rw [splitL_nil] at h; simp at h; subst h; simp
  | cons x r ih =>
    by_cases hx : x = c
    · rw [splitL_hit r hx] at h
      rcases List.mem_cons.1 h with rfl | h
      · simp
      · have := ih h; exact ⟨by simp; omega, this.2⟩
    · obtain ⟨a, t, e, e'⟩ := splitL_miss r hx
      rw [e'] at h
      rcases List.mem_cons.1 h with rfl | h
      · have := ih (p := a) (by rw [e]; simp)
        exact ⟨by simp; omega, by simp only [List.mem_cons, not_or]; exact ⟨fun e => hx e.symm, this.2⟩⟩
      · have := ih (p := p) (by rw [e]; simp [h])
        exact ⟨by simp; omega, this.2⟩
theorem join_cons2 (x y : List UInt8) (r : List (List UInt8)) (sep : List UInt8) : Lib.join (x :: y :: r) sep = x ++ sep ++ Lib.join (y :: r) sep := by
  rw [Lib.join_cons, Lib.join_cons]; simp [Lib.joinTail]
theorem split_none {l : List UInt8} {c : UInt8} (h : c ∉ l) : splitL l c = [l] := by
  induction l with
  | nil => rfl
  | cons x r ih =>
    simp only [List.mem_cons, not_or] at h
    obtain ⟨a, t, e, e'⟩ := splitL_miss (c := c) r (fun e => h.1 e.symm)
    rw [ih h.2] at e
    injection e with e1 e2
    rw [e', ← e1, ← e2]

def wordsL (l : List UInt8) : List (List UInt8) := (splitL l 32).filter fun p => !p.isEmpty
def linesL (l : List UInt8) : List (List UInt8) := if (splitL l 10).getLast? = some [] then (splitL l 10).dropLast else splitL l 10
def isCommentL (l : List UInt8) : Bool := match wordsL l with | [] => true | p :: _ => decide (p[0]? = some 35)
def countLn (l : List UInt8) : Nat := ((linesL l).filter fun p => !isCommentL p).length

theorem wordsL_mem {l p : List UInt8} (h : p ∈ wordsL l) : p.length ≤ l.length ∧ (32 : UInt8) ∉ p ∧ p ≠ [] := by
  obtain ⟨h1, h2⟩ := List.mem_filter.1 h
  obtain ⟨h3, h4⟩ := splitL_mem h1
  exact ⟨h3, h4, by simpa using h2⟩
theorem wordsL_len (l : List UInt8) : (wordsL l).length ≤ l.length + 1 := Nat.le_trans (List.length_filter_le _ _) (splitL_len l 32)
theorem linesL_len (l : List UInt8) : (linesL l).length ≤ l.length + 1 := by
  unfold linesL
  have := splitL_len l 10
  split
  · simp; omega
  · exact this
theorem linesL_mem {l p : List UInt8} (h : p ∈ linesL l) : p.length ≤ l.length ∧ (10 : UInt8) ∉ p := by
  unfold linesL at h
  split at h
  · exact splitL_mem ((List.dropLast_sublist _).subset h)
  · exact splitL_mem h

def tS (ps : List (List UInt8)) : List ByteArray := ps.map mkS
theorem tS_len (ps : List (List UInt8)) : (tS ps).length = ps.length := by simp [tS]
theorem tS_append (a b : List (List UInt8)) : tS (a ++ b) = tS a ++ tS b := by simp [tS]
theorem tS_data (ps : List (List UInt8)) : (tS ps).map (·.data.toList) = ps := by simp [tS, mkS_list, Function.comp_def]
theorem tS_at {ps : List (List UInt8)} {k : Nat} (h : k < ps.length) : (cS (tS ps))[k]? = some (.string (mkS ps[k])) := by simp [cS, tS, h]

theorem cutLeft_cons (x c : UInt8) (r : List UInt8) : cutLeft (x :: r) c = if x = c then [] else x :: cutLeft r c := by
  unfold cutLeft
  rw [cutIdx]
  by_cases h : x = c
  · simp [h]
  · cases e : cutIdx r c <;> simp [h]
theorem cutRight_cons (x c : UInt8) (r : List UInt8) : cutRight (x :: r) c = if x = c then r else cutRight r c := by
  unfold cutRight
  rw [cutIdx]
  by_cases h : x = c
  · simp [h]
  · cases e : cutIdx r c <;> simp [h]
theorem cutOk_cons (x c : UInt8) (r : List UInt8) : cutOk (x :: r) c = (decide (x = c) || cutOk r c) := by
  unfold cutOk
  rw [cutIdx]
  by_cases h : x = c
  · simp [h]
  · cases e : cutIdx r c <;> simp [h]
theorem join_snoc (p : List (List UInt8)) (x sep : List UInt8) (h : p ≠ []) : Lib.join (p ++ [x]) sep = Lib.join p sep ++ sep ++ x := by
  induction p with
  | nil => exact absurd rfl h
  | cons y t ih =>
    cases t with
    | nil => rw [List.cons_append, List.nil_append, join_cons2, Lib.join_one, Lib.join_one]
    | cons z t =>
      have := ih (by simp)
      rw [List.cons_append, List.cons_append, join_cons2, ← List.cons_append, this, join_cons2]
      simp
end Go.Proofs.YtkjjgpkegihmhaaGreatDoor
namespace Go.Proofs.YtkjjgpkegihmhaaGreatDoor
open Go.RowKit
structure Later (w0 : World) where
  world : World
  below : Below w0.heap.size w0 world

instance (w0 : World) : Nonempty (Later w0) := ⟨⟨w0, Below.refl _ _⟩⟩

theorem cell_after {w0 w1 : World} {p : Addr} {u : Value} (h : w0.cell? p = some u) (hb : Below w0.heap.size w0 w1) : w1.cell? p = some u := (hb.cell (World.block_lt_of_cell? w0 _ h)).trans h
theorem later_cell {w0 : World} {p : Addr} {u : Value} (h : w0.cell? p = some u) : ∀ x : Later w0, x.world.cell? p = some u := fun x => cell_after h x.below

theorem wp_region_later {P : Program} {id : Nat} {Q : Exit → Act → World → Prop} {a : Act} {w : World} {l : List Oper} (hm : P.follows .mixedOrders = true) (hB : Region.lexB .any l.toArray = true)
    (h : wpQuiet P l.toArray (fun w' => ∃ x : Later w, w' = x.world) (fun a' => ∀ w', Below w.heap.size w w' → Q .normal a' w') l a) : (Code.region id l.toArray true).wp P Q a w := by
  refine wp_region_quiet (C := fun w' => ∃ x : Later w, w' = x.world) hm hB ⟨⟨_, (Below.refl w.heap.size w).drew⟩, rfl⟩ ?_
  have e : (fun a' => ∀ w', (∃ x : Later w, w' = x.world) → Q .normal a' w') = (fun a' => ∀ w', Below w.heap.size w w' → Q .normal a' w') := by
    funext a'
    apply propext
    constructor
    · intro h w' hb
      exact h w' ⟨⟨w', hb⟩, rfl⟩
    · rintro h w' ⟨x, rfl⟩
      exact h _ x.below
  rw [e]
  simpa using h

theorem Calls.later {P : Program} {f : FuncId} {args : Array Value} {w0 : World} {x : Later w0} {v : Value} (h : Calls P f args x.world fun e w' => e = .returned v ∧ Below x.world.heap.size x.world w') :
    Calls P f args x.world fun e w'' => e = .returned v ∧ ∃ y : Later w0, w'' = y.world :=
  h.mono fun _ w' ⟨he, hb⟩ => ⟨he, ⟨w', Below.then_ x.below hb (Nat.le_refl _)⟩, rfl⟩
theorem Calls.later_same {P : Program} {f : FuncId} {args : Array Value} {w0 : World} {x : Later w0} {v : Value} (h : Calls P f args x.world fun e w' => e = .returned v ∧ x.world = w') :
    Calls P f args x.world fun e w'' => e = .returned v ∧ ∃ y : Later w0, w'' = y.world :=
  h.mono fun _ _ ⟨he, hb⟩ => ⟨he, x, hb.symm⟩

end Go.Proofs.YtkjjgpkegihmhaaGreatDoor

namespace Go.Proofs.YtkjjgpkegihmhaaGreatDoor
open Go.RowKit

def inR (n a b : Int) : Bool := decide (a ≤ n) && decide (n ≤ b)
theorem inR_yes {n a b : Int} (h1 : a ≤ n) (h2 : n ≤ b) : inR n a b = true := by simp [inR, h1, h2]
theorem inR_no {n a b : Int} (h : n < a ∨ b < n) : inR n a b = false := by
  simp only [inR, Bool.and_eq_false_iff, decide_eq_false_iff_not]; omega
theorem inR_iff {n a b : Int} : inR n a b = true ↔ a ≤ n ∧ n ≤ b := by simp [inR]

set_option maxHeartbeats 400000 in
theorem i_In (n a b : Int) (w : World) :
    Calls Tryz.prog 97 #[.int .i64 n, .int .i64 a, .int .i64 b] w fun e w' => e = .returned (.bool (inR n a b)) ∧ w = w' := by
  unfold inR
  go_enter Tryz.func97, Tryz.ntmps97
  go_wp2
  all_goals (go_ret; exact ⟨by simp; omega, rfl⟩)

set_option maxHeartbeats 400000 in
theorem s_In (n a b : Int) (w : World) :
    Calls Tryz.prog 68 #[.int .i64 n, .int .i64 a, .int .i64 b] w fun e w' => e = .returned (.bool (inR n a b)) ∧ w = w' := by
  unfold inR
  go_enter Tryz.func68, Tryz.ntmps68
  go_wp2
  all_goals (go_ret; exact ⟨by simp; omega, rfl⟩)

end Go.Proofs.YtkjjgpkegihmhaaGreatDoor

namespace Go.Proofs.YtkjjgpkegihmhaaGreatDoor
open Go.RowKit

def okAt (x : UInt8) (k : Nat) : Bool := (decide (97 ≤ x.toNat) && decide (x.toNat ≤ 122)) || ((decide (48 ≤ x.toNat) && decide (x.toNat ≤ 57)) && k != 0)
def nameFrom : Nat → List UInt8 → Bool
  | _, [] => true
  | k, x :: r => okAt x k && nameFrom (k + 1) r
def isName (l : List UInt8) : Bool := decide (1 ≤ l.length) && decide (l.length ≤ 12) && nameFrom 0 l

theorem nameFrom_iff (l : List UInt8) : ∀ k, nameFrom k l = true ↔ ∀ j x, l[j]? = some x → okAt x (k + j) = true := by
  induction l with
  | nil => intro k; simp [nameFrom]
  | cons y r ih =>
    intro k
    simp only [nameFrom, Bool.and_eq_true, ih]
    constructor
    · rintro ⟨h0, h⟩ j x hx
      cases j with
      | zero => simp at hx; subst hx; exact h0
      | succ j => have := h j x (by simpa using hx); rwa [show k + 1 + j = k + (j + 1) from by omega] at this
    · intro h
      refine ⟨by have := h 0 y (by simp); simpa using this, fun j x hx => ?_⟩
      have := h (j + 1) x (by simpa using hx)
      rwa [show k + (j + 1) = k + 1 + j from by omega] at this

theorem isName_all {l : List UInt8} (h1 : 1 ≤ l.length) (h2 : l.length ≤ 12) (h : ∀ j x, l[j]? = some x → okAt x j = true) : isName l = true := by
  unfold isName
  rw [(nameFrom_iff l 0).2 (by simpa using h)]
  simp [h1, h2]
theorem isName_bad {l : List UInt8} {k : Nat} {x : UInt8} (hx : l[k]? = some x) (h : okAt x k = false) : isName l = false := by
  unfold isName
  cases e : nameFrom 0 l with
  | false => simp
  | true =>
    have := (nameFrom_iff l 0).1 e k x hx
    simp [h] at this
theorem isName_long {l : List UInt8} (h : l.length < 1 ∨ 12 < l.length) : isName l = false := by
  unfold isName
  rcases h with h | h
  · simp [show ¬ 1 ≤ l.length from by omega]
  · simp [show ¬ l.length ≤ 12 from by omega]

def NameInv (s : ByteArray) (k : Nat) : Prop := ∀ j x, j < k → s.data.toList[j]? = some x → okAt x j = true
theorem NameInv.step {s : ByteArray} {k : Nat} (h : NameInv s k) (hlt : k < s.size) (hok : okAt s[k] k = true) : NameInv s (k + 1) := by
  intro j x hj hx
  rcases Nat.lt_or_ge j k with hjk | hjk
  · exact h j x hjk hx
  · obtain rfl : j = k := by omega
    rw [get_list s j hlt] at hx
    cases hx
    exact hok
theorem NameInv.done {s : ByteArray} (h : NameInv s s.size) : ∀ j x, s.data.toList[j]? = some x → okAt x j = true := by
  intro j x hx
  refine h j x ?_ hx
  have := (List.getElem?_eq_some_iff.1 hx).1
  rwa [len_of] at this

theorem byte_kinds (n : Nat) : n < 48 ∨ (48 ≤ n ∧ n ≤ 57) ∨ (57 < n ∧ n < 97) ∨ (97 ≤ n ∧ n ≤ 122) ∨ 122 < n := by omega

set_option maxHeartbeats 2000000 in
theorem s_IsName (s : ByteArray) (hs : s.size ≤ maxLen) (w : World) :
    Calls Tryz.prog 109 #[.string s] w fun e w' => e = .returned (.bool (isName s.data.toList)) ∧ w = w' := by
  unfold maxLen at hs
  go_enter Tryz.func109, Tryz.ntmps109
  go_wp2_with fail
  go_loop [3, 4, 5] (fun i _ _ => ∃ k : Nat, k ≤ s.size ∧ i = .int .i64 k ∧ NameInv s k) (fun i _ _ => s.size - (intOf i).toNat)
  case atStart => exact ⟨0, Nat.zero_le _, rfl, fun j x h => absurd h (Nat.not_lt_zero _)⟩
  case round =>
    obtain ⟨k, hk, rfl, hno⟩ := hrel
    by_cases hlt : k < s.size
    · have Hg := Lib.hid (get_list s k hlt)
      have hb := byte_kinds s[k].toNat
      by_cases hgood : okAt s[k] k = true
      · have Hok := Lib.hid hgood
        simp only [okAt, Bool.or_eq_true, Bool.and_eq_true, decide_eq_true_eq, bne_iff_ne, ne_eq] at hgood
        rcases hgood with ⟨h1, h2⟩ | ⟨⟨h1, h2⟩, h3⟩
        · clear hb
          go_wp2_with fail
          go_round
          case rel => exact ⟨k + 1, by omega, by go_num, hno.step hlt Hok.out⟩
          case measure => simp [intOf]; omega
        · have h4 : ((k : Int) == 0) = false := by simp; omega
          clear hb h3
          go_wp2_with fail
          all_goals
            go_round
            case rel => exact ⟨k + 1, by omega, by go_num, hno.step hlt Hok.out⟩
            case measure => simp [intOf]; omega
      · have hbad : okAt s[k] k = false := by simpa using hgood
        have hfin : Hid (isName s.data.toList = false) := isName_bad Hg.out hbad
        simp only [okAt, Bool.or_eq_true, Bool.and_eq_true, decide_eq_true_eq, bne_iff_ne, ne_eq] at hgood
        clear hbad
        rcases hb with h | ⟨h, h'⟩ | ⟨h, h'⟩ | ⟨h, h'⟩ | h
        · clear hgood
          go_wp2_with fail
          go_ret
          exact ⟨ret_bool hfin.out.symm, rfl⟩
        · have hk0 : ((k : Int) == 0) = true := by simp; omega
          clear hgood
          go_wp2_with fail
          go_ret
          exact ⟨ret_bool hfin.out.symm, rfl⟩
        · clear hgood
          go_wp2_with fail
          go_ret
          exact ⟨ret_bool hfin.out.symm, rfl⟩
        · exact absurd (Or.inl ⟨h, h'⟩) hgood
        · have hd : decide (((s[k].toNat : Nat) : Int) ≤ 122) = false := by simp; omega
          have hd2 : decide (((s[k].toNat : Nat) : Int) ≤ 57) = false := by simp; omega
          clear hgood
          go_wp2_with fail
          go_ret
          exact ⟨ret_bool hfin.out.symm, rfl⟩
    · obtain rfl : k = s.size := by omega
      have Hall := Lib.hid hno.done; clear hno
      by_cases h1 : 1 ≤ s.size
      · by_cases h2 : s.size ≤ 12
        · have hfin : Hid (isName s.data.toList = true) := isName_all (by rw [len_of]; exact h1) (by rw [len_of]; exact h2) Hall.out
          have hd : decide ((s.size : Int) ≤ 12) = true := by simp; omega
          go_wp2
          go_ret
          exact ⟨ret_bool hfin.out.symm, rfl⟩
        · have hfin : Hid (isName s.data.toList = false) := isName_long (by rw [len_of]; omega)
          have hd : decide ((s.size : Int) ≤ 12) = false := by simp; omega
          go_wp2
          go_ret
          exact ⟨ret_bool hfin.out.symm, rfl⟩
      · have hfin : Hid (isName s.data.toList = false) := isName_long (by rw [len_of]; omega)
        have hd : decide (1 ≤ (s.size : Int)) = false := by simp; omega
        go_wp2
        go_ret
        exact ⟨ret_bool hfin.out.symm, rfl⟩

set_option maxHeartbeats 2000000 in
theorem i_IsName (s : ByteArray) (w : World) :
    Calls Tryz.prog 118 #[.string s] w fun e w' => e = .returned (.bool (isName s.data.toList)) ∧ Below w.heap.size w w' := by
  by_cases h1 : 1 ≤ s.size
  · by_cases h2 : s.size ≤ 12
    · have hd1 : decide ((s.size : Int) < 1) = false := by simp; omega
      have hd2 : decide (12 < (s.size : Int)) = false := by simp; omega
      go_enter Tryz.func118, Tryz.ntmps118
      go_wp2_with fail
      go_loopw [3, 4, 5, 6] (fun _ _ _ _ wr => ∃ k : Nat, k ≤ s.size ∧ wr = w.iter s k ∧ NameInv s k) (fun _ _ _ _ wr => s.size - wr.iterPos w.heap.size)
      case atStart => exact ⟨0, Nat.zero_le _, rfl, fun j x h => absurd h (Nat.not_lt_zero _)⟩
      case round =>
        obtain ⟨k, hk, rfl, hno⟩ := hrel
        by_cases hlt : k < s.size
        · have Hg := Lib.hid (get_list s k hlt)
          have hb := byte_kinds s[k].toNat
          by_cases hhi : 128 ≤ s[k].toNat
          · have hfin : Hid (isName s.data.toList = false) := isName_bad Hg.out (by simp [okAt]; omega)
            have hdec := (decode_high s k hlt hhi).1
            obtain ⟨r, hr⟩ : ∃ r, r = (Utf8.decode s k).1 := ⟨_, rfl⟩
            have hnx := fun ty => run_next_any (P := Tryz.prog) w s k ty hlt
            rw [← hr] at hdec
            simp only [← hr] at hnx
            have hd : decide ((r : Int) ≤ 122) = false := by simp; omega
            have hd2 : decide ((r : Int) ≤ 57) = false := by simp; omega
            clear hr hb
            go_wp2_with fail
            go_ret
            exact ⟨ret_bool hfin.out.symm, (Below.refl _ _).alloc (Nat.le_refl _) _⟩
          · have hnx := fun ty => run_next_ascii (P := Tryz.prog) w s k ty hlt (by omega)
            by_cases hgood : okAt s[k] k = true
            · have Hok := Lib.hid hgood
              simp only [okAt, Bool.or_eq_true, Bool.and_eq_true, decide_eq_true_eq, bne_iff_ne, ne_eq] at hgood
              rcases hgood with ⟨h1, h2⟩ | ⟨⟨h1, h2⟩, h3⟩
              · clear hb
                go_wp2_with fail
                all_goals
                  go_roundw
                  case rel => exact ⟨k + 1, by omega, rfl, hno.step hlt Hok.out⟩
                  case measure => simp; omega
              · have h4 : ((k : Int) == 0) = false := by simp; omega
                clear hb h3
                go_wp2_with fail
                all_goals
                  go_roundw
                  case rel => exact ⟨k + 1, by omega, rfl, hno.step hlt Hok.out⟩
                  case measure => simp; omega
            · have hbad : okAt s[k] k = false := by simpa using hgood
              have hfin : Hid (isName s.data.toList = false) := isName_bad Hg.out hbad
              simp only [okAt, Bool.or_eq_true, Bool.and_eq_true, decide_eq_true_eq, bne_iff_ne, ne_eq] at hgood
              clear hbad
              rcases hb with h | ⟨h, h'⟩ | ⟨h, h'⟩ | ⟨h, h'⟩ | h
              · clear hgood
                go_wp2_with fail
                go_ret
                exact ⟨ret_bool hfin.out.symm, (Below.refl _ _).alloc (Nat.le_refl _) _⟩
              · have hk0 : ((k : Int) == 0) = true := by simp; omega
                clear hgood
                go_wp2_with fail
                go_ret
                exact ⟨ret_bool hfin.out.symm, (Below.refl _ _).alloc (Nat.le_refl _) _⟩
              · clear hgood
                go_wp2_with fail
                go_ret
                exact ⟨ret_bool hfin.out.symm, (Below.refl _ _).alloc (Nat.le_refl _) _⟩
              · exact absurd (Or.inl ⟨h, h'⟩) hgood
              · have hd : decide (((s[k].toNat : Nat) : Int) ≤ 122) = false := by simp; omega
                have hd2 : decide (((s[k].toNat : Nat) : Int) ≤ 57) = false := by simp; omega
                clear hgood
                go_wp2_with fail
                go_ret
                exact ⟨ret_bool hfin.out.symm, (Below.refl _ _).alloc (Nat.le_refl _) _⟩
        · obtain rfl : k = s.size := by omega
          have hfin : Hid (isName s.data.toList = true) := isName_all (by rw [len_of]; exact h1) (by rw [len_of]; exact h2) hno.done
          have hnx := fun ty => run_next_end (P := Tryz.prog) w s s.size ty (by omega)
          clear hno
          go_wp2_with fail
          go_ret
          exact ⟨ret_bool hfin.out.symm, (Below.refl _ _).alloc (Nat.le_refl _) _⟩
    · have hfin : Hid (isName s.data.toList = false) := isName_long (by rw [len_of]; omega)
      have hd1 : decide ((s.size : Int) < 1) = false := by simp; omega
      have hd2 : decide (12 < (s.size : Int)) = true := by simp; omega
      go_enter Tryz.func118, Tryz.ntmps118
      go_wp2_with fail
      go_ret
      exact ⟨ret_bool hfin.out.symm, Below.refl _ _⟩
  · have hfin : Hid (isName s.data.toList = false) := isName_long (by rw [len_of]; omega)
    have hd1 : decide ((s.size : Int) < 1) = true := by simp; omega
    go_enter Tryz.func118, Tryz.ntmps118
    go_wp2_with fail
    go_ret
    exact ⟨ret_bool hfin.out.symm, Below.refl _ _⟩

end Go.Proofs.YtkjjgpkegihmhaaGreatDoor

namespace Go.Proofs.YtkjjgpkegihmhaaGreatDoor
open Go.RowKit

def hasText (l : List ByteArray) (s : ByteArray) : Bool := l.any fun x => decide (x = s)
theorem hasText_iff {l : List ByteArray} {s : ByteArray} : hasText l s = true ↔ s ∈ l := by
  simp [hasText]
theorem hasText_at {l : List ByteArray} {s : ByteArray} {k : Nat} (h : k < l.length) (hx : l[k] = s) : hasText l s = true :=
  hasText_iff.2 (hx ▸ List.getElem_mem h)
theorem hasText_step {l : List ByteArray} {s : ByteArray} {k : Nat} (h : k < l.length) (hn : hasText (l.take k) s = false) (hx : l[k] ≠ s) : hasText (l.take (k + 1)) s = false := by
  rw [List.take_succ_eq_append_getElem h]
  unfold hasText at hn ⊢
  rw [List.any_append, hn]
  simpa using hx

set_option maxHeartbeats 1000000 in
theorem s_ContainsText (v : Value) (l : List ByteArray) (s : ByteArray) (w : World) (h : Rd w v 1 l.length (cS l)) :
    Calls Tryz.prog 147 #[v, .string s] w fun e w' => e = .returned (.bool (hasText l s)) ∧ w = w' := by
  obtain ⟨hl, A, c, rfl, hnc, hcm, hcell⟩ := h
  unfold maxLen at hcm
  clear hl
  have HC := Lib.hid hcell; clear hcell
  go_enter Tryz.func147, Tryz.ntmps147
  go_wp2_with fail
  go_loop [5] (fun i => ∃ k : Nat, k ≤ l.length ∧ i = .int .i64 k ∧ hasText (l.take k) s = false) (fun i => l.length - (intOf i).toNat)
  case atStart => exact ⟨0, Nat.zero_le _, rfl, by simp [hasText]⟩
  case round =>
    obtain ⟨k, hk, rfl, hno⟩ := hrel
    have HN := Lib.hid hno; clear hno
    by_cases hlt : k < l.length
    · obtain ⟨b, off, rfl, hc⟩ := HC.out (by rw [cS_len]; omega)
      have hck : w.cell? ⟨b, off + k, none⟩ = some (.string l[k]) := hc k _ (cS_at hlt)
      clear hc
      by_cases hx : l[k] = s
      · have hfin : Hid (hasText l s = true) := hasText_at hlt hx
        have hq : (l[k].toList == s.toList) = true := by rw [hx]; simp
        clear hx
        go_wp2_with fail
        go_ret
        exact ⟨ret_bool hfin.out.symm, rfl⟩
      · have hq : (l[k].toList == s.toList) = false := str_ne hx
        have HX := Lib.hid hx
        clear hx
        go_wp2_with fail
        go_round
        case rel => exact ⟨k + 1, by omega, by go_num, hasText_step hlt HN.out HX.out⟩
        case measure => simp [intOf]; omega
    · obtain rfl : k = l.length := by omega
      have hfin : Hid (hasText l s = false) := by show _ = _; rw [← HN.out, List.take_length]
      go_wp2_with fail
      go_ret
      exact ⟨ret_bool hfin.out.symm, rfl⟩

set_option maxHeartbeats 1000000 in
theorem i_ContainsText (v : Value) (l : List ByteArray) (s : ByteArray) (w : World) (h : Rd w v 1 l.length (cS l)) :
    Calls Tryz.prog 149 #[v, .string s] w fun e w' => e = .returned (.bool (hasText l s)) ∧ w = w' := by
  obtain ⟨hl, A, c, rfl, hnc, hcm, hcell⟩ := h
  unfold maxLen at hcm
  clear hl
  have HC := Lib.hid hcell; clear hcell
  go_enter Tryz.func149, Tryz.ntmps149
  go_wp2_with fail
  go_loop [9] (fun i => ∃ k : Nat, k ≤ l.length ∧ i = .int .i64 k ∧ hasText (l.take k) s = false) (fun i => l.length - (intOf i).toNat)
  case atStart => exact ⟨0, Nat.zero_le _, rfl, by simp [hasText]⟩
  case round =>
    obtain ⟨k, hk, rfl, hno⟩ := hrel
    have HN := Lib.hid hno; clear hno
    by_cases hlt : k < l.length
    · obtain ⟨b, off, rfl, hc⟩ := HC.out (by rw [cS_len]; omega)
      have hck : w.cell? ⟨b, off + k, none⟩ = some (.string l[k]) := hc k _ (cS_at hlt)
      clear hc
      by_cases hx : l[k] = s
      · have hfin : Hid (hasText l s = true) := hasText_at hlt hx
        have hq : (l[k].toList == s.toList) = true := by rw [hx]; simp
        clear hx
        go_wp2_with fail
        go_ret
        exact ⟨ret_bool hfin.out.symm, rfl⟩
      · have hq : (l[k].toList == s.toList) = false := str_ne hx
        have HX := Lib.hid hx
        clear hx
        go_wp2_with fail
        go_round
        case rel => exact ⟨k + 1, by omega, by go_num, hasText_step hlt HN.out HX.out⟩
        case measure => simp [intOf]; omega
    · obtain rfl : k = l.length := by omega
      have hfin : Hid (hasText l s = false) := by show _ = _; rw [← HN.out, List.take_length]
      go_wp2_with fail
      go_ret
      exact ⟨ret_bool hfin.out.symm, rfl⟩

end Go.Proofs.YtkjjgpkegihmhaaGreatDoor

namespace Go.Proofs.YtkjjgpkegihmhaaGreatDoor
open Go.RowKit

def kindNat : Nat → ByteArray
  | 1 => ⟨#[105, 110, 116, 101, 103, 101, 114]⟩
  | 2 => ⟨#[99, 111, 110, 115, 116]⟩
  | 3 => ⟨#[102, 105, 120, 101, 100]⟩
  | 4 => ⟨#[115, 105, 122, 101, 100]⟩
  | 5 => ⟨#[97, 114, 114, 97, 121]⟩
  | 6 => ⟨#[115, 101, 113, 117, 101, 110, 99, 101]⟩
  | 7 => ⟨#[99, 104, 111, 105, 99, 101]⟩
  | 8 => ⟨#[111, 112, 116, 105, 111, 110]⟩
  | 9 => ⟨#[99, 104, 101, 99, 107, 101, 100]⟩
  | 10 => ⟨#[116, 101, 114, 109, 105, 110, 97, 116, 101, 100]⟩
  | _ => ⟨#[]⟩
def kindName (k : Int) : ByteArray := kindNat k.toNat
theorem kindName_out {k : Int} (h : k < 1 ∨ 10 < k) : kindName k = ⟨#[]⟩ := by
  unfold kindName
  rcases (by omega : k.toNat = 0 ∨ 10 < k.toNat) with h | h
  · rw [h]; rfl
  · unfold kindNat
    split <;> first | rfl | omega

set_option maxHeartbeats 2000000 in
theorem s_KindName (k : Int) (w : World) :
    Calls Tryz.prog 32 #[.int .i64 k] w fun e w' => e = .returned (.string (kindName k)) ∧ Below w.heap.size w w' := by
  by_cases h : 1 ≤ k ∧ k ≤ 10
  · obtain ⟨h1, h2⟩ := h
    rcases (by omega : k = 1 ∨ k = 2 ∨ k = 3 ∨ k = 4 ∨ k = 5 ∨ k = 6 ∨ k = 7 ∨ k = 8 ∨ k = 9 ∨ k = 10) with rfl | rfl | rfl | rfl | rfl | rfl | rfl | rfl | rfl | rfl
    all_goals
      clear h1 h2
      go_enter Tryz.func32, Tryz.ntmps32
      go_wp2
      go_ret
      exact ⟨rfl, (Below.refl _ _).alloc (Nat.le_refl _) _⟩
  · by_cases h1 : 1 ≤ k
    · have h2 : 10 < k := by omega
      have hd : decide (k ≤ 10) = false := by simp; omega
      clear h
      have hn : Hid (kindName k = ⟨#[]⟩) := kindName_out (by omega)
      go_enter Tryz.func32, Tryz.ntmps32
      go_wp2
      go_ret
      exact ⟨ret_str hn.out.symm, (Below.refl _ _).alloc (Nat.le_refl _) _⟩
    · have h2 : k < 1 := by omega
      have hd : decide (1 ≤ k) = false := by simp; omega
      clear h h1
      have hn : Hid (kindName k = ⟨#[]⟩) := kindName_out (by omega)
      go_enter Tryz.func32, Tryz.ntmps32
      go_wp2
      go_ret
      exact ⟨ret_str hn.out.symm, (Below.refl _ _).alloc (Nat.le_refl _) _⟩

set_option maxHeartbeats 2000000 in
theorem i_KindName (k : Int) (w : World) :
    Calls Tryz.prog 81 #[.int .i64 k] w fun e w' => e = .returned (.string (kindName k)) ∧ Below w.heap.size w w' := by
  by_cases h : 1 ≤ k ∧ k ≤ 10
  · obtain ⟨h1, h2⟩ := h
    rcases (by omega : k = 1 ∨ k = 2 ∨ k = 3 ∨ k = 4 ∨ k = 5 ∨ k = 6 ∨ k = 7 ∨ k = 8 ∨ k = 9 ∨ k = 10) with rfl | rfl | rfl | rfl | rfl | rfl | rfl | rfl | rfl | rfl
    all_goals
      clear h1 h2
      go_enter Tryz.func81, Tryz.ntmps81
      go_wp2
      go_ret
      exact ⟨rfl, (Below.refl _ _).alloc (Nat.le_refl _) _⟩
  · by_cases h1 : 1 ≤ k
    · have h2 : 10 < k := by omega
      have hd : decide (k ≤ 10) = false := by simp; omega
      clear h
      have hn : Hid (kindName k = ⟨#[]⟩) := kindName_out (by omega)
      go_enter Tryz.func81, Tryz.ntmps81
      go_wp2
      go_ret
      exact ⟨ret_str hn.out.symm, Below.refl _ _⟩
    · have h2 : k < 1 := by omega
      have hd : decide (1 ≤ k) = false := by simp; omega
      clear h h1
      have hn : Hid (kindName k = ⟨#[]⟩) := kindName_out (by omega)
      go_enter Tryz.func81, Tryz.ntmps81
      go_wp2
      go_ret
      exact ⟨ret_str hn.out.symm, Below.refl _ _⟩

end Go.Proofs.YtkjjgpkegihmhaaGreatDoor

namespace Go.Proofs.YtkjjgpkegihmhaaGreatDoor
open Go.RowKit
set_option maxRecDepth 100000

theorem conv_one (w : World) (d : Int) :
    (convert 26 9 (.slice (some ⟨w.heap.size, 0, none⟩) 1 1)).run Tryz.prog (w.alloc (.cells #[.int .u8 d] 5)) = .ok (.string (mkS [UInt8.ofNat d.toNat])) (w.alloc (.cells #[.int .u8 d] 5)) := by
  have h := run_convert_bytes_arg (P := Tryz.prog) (w.alloc (.cells #[.int .u8 d] 5)) 26 5 Tryz.underlying26 Tryz.underlying5 w.heap.size 0 1 1 [d] rfl (by
    intro i hi
    obtain rfl : i = 0 := by omega
    simp [World.cell?_alloc_new]) 9 Tryz.underlying9
  exact h

theorem conv_own {w : World} {base : Nat} {v : Value} {n : Nat} {l : List UInt8} (h : w.ownsRow base 5 1 v n (cB l)) :
    (convert 26 9 v).run Tryz.prog w = .ok (.string (mkS l)) w := by
  rcases h.2 with ⟨rfl, rfl⟩ | ⟨g, cap, cur, rfl, _, hg, hnc, hcm, _, htake⟩
  · have hl : l = [] := List.eq_nil_of_length_eq_zero (by have := h.1; rw [cB_len] at this; omega)
    subst hl
    exact run_convert_bytes_nil (P := Tryz.prog) w 26 5 Tryz.underlying26 Tryz.underlying5 0 0 9 Tryz.underlying9
  · have hlen : l.length = n := by have := h.1; rw [cB_len] at this; omega
    have hr := run_convert_bytes_arg (P := Tryz.prog) w 26 5 Tryz.underlying26 Tryz.underlying5 g 0 n cap (l.map fun b => (b.toNat : Int)) (by simpa using hlen) (by
      intro i hi
      have := h.cells (g := g) rfl i _ (cB_at (l := l) (k := i) (by omega))
      have hadd : (⟨g, 0, none⟩ : Addr).add i = ⟨g, 0 + i, none⟩ := by unfold Addr.add; split <;> simp_all
      rw [hadd] at this
      rw [this]
      simp [List.getD, show i < l.length by omega]) 9 Tryz.underlying9
    rw [hr]
    have e : strOfNums (l.map fun b => (b.toNat : Int)) = mkS l := by
      unfold strOfNums mkS
      congr 2
      rw [List.map_map]
      apply List.ext_getElem?
      intro i
      rw [List.getElem?_map]
      cases l[i]? with
      | none => rfl
      | some b => simp
    rw [e]

theorem conv_rd {w : World} {v : Value} {n : Nat} {l : List UInt8} (h : Rd w v 1 n (cB l)) :
    (convert 26 9 v).run Tryz.prog w = .ok (.string (mkS l)) w := by
  obtain ⟨hl, A, c, rfl, hnc, hcm, hcell⟩ := h
  have hlen : l.length = n := by rw [cB_len] at hl; omega
  rcases Nat.eq_zero_or_pos n with h0 | h0
  · subst h0
    have hl0 : l = [] := List.eq_nil_of_length_eq_zero hlen
    subst hl0
    rw [run_convert_bytes_string w 26 9 5 A 0 c Tryz.underlying26 Tryz.underlying5 Tryz.underlying9]
    cases A with
    | none => simp [Conv.bytesToString, mkS]; rfl
    | some a =>
      rw [run_bytesToString w a 0 c [] (by simp [loadCells, loadCellsFrom])]
      rfl
  · obtain ⟨b, off, rfl, hc⟩ := hcell (by rw [hl]; omega)
    have hr := run_convert_bytes_arg (P := Tryz.prog) w 26 5 Tryz.underlying26 Tryz.underlying5 b off n c (l.map fun b => (b.toNat : Int)) (by simpa using hlen) (by
      intro i hi
      rw [hc i _ (cB_at (l := l) (k := i) (by omega))]
      simp [List.getD, show i < l.length by omega]) 9 Tryz.underlying9
    rw [hr]
    have e : strOfNums (l.map fun b => (b.toNat : Int)) = mkS l := by
      unfold strOfNums mkS
      congr 2
      rw [List.map_map]
      apply List.ext_getElem?
      intro i
      rw [List.getElem?_map]
      cases l[i]? with
      | none => rfl
      | some b => simp
    rw [e]

end Go.Proofs.YtkjjgpkegihmhaaGreatDoor

namespace Go.Proofs.YtkjjgpkegihmhaaGreatDoor
open Go.RowKit

set_option maxHeartbeats 400000 in
theorem s_Max2 (a b : Int) (w : World) :
    Calls Tryz.prog 131 #[.int .i64 a, .int .i64 b] w fun e w' => e = .returned (.int .i64 (max a b)) ∧ w = w' := by
  go_enter Tryz.func131, Tryz.ntmps131
  go_wp2
  all_goals (go_ret; exact ⟨ret_int (by omega), rfl⟩)

end Go.Proofs.YtkjjgpkegihmhaaGreatDoor

namespace Go.Proofs.YtkjjgpkegihmhaaGreatDoor
open Go.RowKit

end Go.Proofs.YtkjjgpkegihmhaaGreatDoor

namespace Go.Proofs.YtkjjgpkegihmhaaGreatDoor
open Go.RowKit

theorem info_String : (Tryz.prog.info? 9).map (fun i => (i.zero, i.size, i.bytes)) = some (some (.string ⟨#[]⟩), 1, 16) := by kernel_rfl

end Go.Proofs.YtkjjgpkegihmhaaGreatDoor
namespace Go.Proofs.YtkjjgpkegihmhaaGreatDoor
open Go.RowKit
theorem info_Byte : (Tryz.prog.info? 5).map (fun i => (i.zero, i.size, i.bytes)) = some (some (.int .u8 0), 1, 1) := by kernel_rfl

end Go.Proofs.YtkjjgpkegihmhaaGreatDoor
namespace Go.Proofs.YtkjjgpkegihmhaaGreatDoor
open Go.RowKit
theorem info_Int : (Tryz.prog.info? 3).map (fun i => (i.zero, i.size, i.bytes)) = some (some (.int .i64 0), 1, 8) := by kernel_rfl

end Go.Proofs.YtkjjgpkegihmhaaGreatDoor
namespace Go.Proofs.YtkjjgpkegihmhaaGreatDoor
open Go.RowKit Go.ChangeShapes Go.WideShapes Go.ChangeAt
theorem rd_of_cells {w : World} {a : Addr} {n c : Nat} {xs : List Value} (hl : xs.length = n) (hnc : n ≤ c) (hm : c ≤ maxLen) (h : ∀ i u, xs[i]? = some u → w.cell? (a.add i) = some u) :
    Rd w (.slice (some a) n c) 1 n xs := by
  refine ⟨by omega, some a, c, rfl, hnc, hm, fun hp => ?_⟩
  obtain ⟨b, off, spot⟩ := a
  have h0 := h 0 _ (List.getElem?_eq_getElem hp)
  have hs : spot = none := by simpa [Addr.add] using World.cell?_spot h0
  subst hs
  refine ⟨b, off, rfl, fun j u hu => ?_⟩
  have := h j u hu
  have e : (⟨b, off, none⟩ : Addr).add j = ⟨b, off + j, none⟩ := by unfold Addr.add; split <;> simp_all
  rwa [e] at this

section
variable {H : Type} {enc : TypeId × Value → H} {P : Program} {W : World} {t e : TypeId} {v : Value} {d : DataW H} {ps : List MemPlace}

theorem open_bytes (ht : P.underlying t = some (.slice e)) (he : P.underlying e = some (.int .u8)) (hc : P.cellsOf e = 1) (hv : ∃ a len cap, v = .slice a len cap)
    (hd : DataW.Trod enc P W 0 (fun _ => true) true t v d ps) : ∃ l : List UInt8, Rd W v 1 l.length (cB l) := by
  obtain ⟨a, len, cap, rfl⟩ := hv
  obtain ⟨fuel, hf⟩ := hd
  rcases open_ints ht he hc hf with ⟨hcs, _⟩ | ⟨x, l, c, zs, hcs, _, hl, hm, hz, _, hcell, hws⟩
  · simp [Value.cells] at hcs
    obtain ⟨rfl, rfl, rfl⟩ := hcs
    exact ⟨[], ⟨by simp [cB], none, 0, rfl, Nat.le_refl _, Nat.zero_le _, fun h => by simp [cB] at h⟩⟩
  · simp [Value.cells] at hcs
    obtain ⟨rfl, rfl, rfl⟩ := hcs
    simp only [if_true] at hz
    have hlen : ((zs.take len).map fun n => n.toNat.toUInt8).length = len := by simp; omega
    refine ⟨(zs.take len).map fun n => n.toNat.toUInt8, ?_⟩
    rw [hlen]
    refine rd_of_cells (by rw [cB_len, hlen]) hl hm fun i u hu => ?_
    have hi : i < len := by
      have := (List.getElem?_eq_some_iff.1 hu).1
      rwa [cB_len, hlen] at this
    have hi' : i < zs.length := by omega
    rw [hcell i hi']
    have hb := wf_u8 (hws zs[i] (List.getElem_mem hi'))
    have hz' : ((zs[i].toNat.toUInt8.toNat : Nat) : Int) = zs[i] := by
      have : zs[i].toNat < 256 := by omega
      simp [Nat.toUInt8, UInt8.toNat_ofNat', Nat.mod_eq_of_lt this]; omega
    simp [cB, hi, hi'] at hu
    rw [← hu]
    simp [hi']
    simpa using hz'.symm
end

end Go.Proofs.YtkjjgpkegihmhaaGreatDoor
