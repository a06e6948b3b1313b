/-
  How slices read in memory: 'Rd' (a slice value that reads as a list of cells, wherever it lies); what the call itself made: 'ownsRow'. Small steps on both.
-/
import Derived.Below
import Derived.WalkKit
import Derived.Laws.OwnMore
namespace Go.Proofs.Ytfdjamobfhoeiaa
open Go.RowKit

/-- The slice value v of n elements of 'size' cells each reads as the cells xs. -/
def Rd (w : World) (v : Value) (size n : Nat) (xs : List Value) : Prop :=
  xs.length = n * size ∧ ∃ A c, v = .slice A n c ∧ n ≤ c ∧ c ≤ maxLen ∧ (0 < xs.length → ∃ b off, A = some ⟨b, off, none⟩ ∧ ∀ j u, xs[j]? = some u → w.cell? ⟨b, off + j, none⟩ = some u)

section
variable {w w' : World} {v : Value} {size n : Nat} {xs : List Value}

theorem Rd.keep (h : Rd w v size n xs) (hk : ∀ p : Addr, p.block < w.heap.size → w'.cell? p = w.cell? p) : Rd w' v size n xs := by
  obtain ⟨h1, A, c, rfl, h2, h3, h4⟩ := h
  refine ⟨h1, A, c, rfl, h2, h3, fun hp => ?_⟩
  obtain ⟨b, off, rfl, hc⟩ := h4 hp
  exact ⟨b, off, rfl, fun j u hu => by rw [hk _ (World.block_lt_of_cell? w _ (hc j u hu))]; exact hc j u hu⟩
theorem Rd.below (h : Rd w v size n xs) (hb : Below w.heap.size w w') : Rd w' v size n xs := h.keep fun _ hp => hb.cell hp

theorem Rd.of_own {base : Nat} {e : TypeId} (h : w.ownsRow base e size v n xs) : Rd w v size n xs := by
  refine ⟨h.1, ?_⟩
  rcases h.2 with ⟨rfl, rfl⟩ | ⟨g, cap, cur, rfl, _, hg, hnc, hcm, _, htake⟩
  · exact ⟨none, 0, rfl, Nat.le_refl _, Nat.zero_le _, fun hp => by have := h.1; omega⟩
  · refine ⟨_, cap, rfl, hnc, hcm, fun _ => ⟨g, 0, rfl, fun j u hu => ?_⟩⟩
    have := h.cells (g := g) rfl j u hu
    have hadd : (⟨g, 0, none⟩ : Addr).add j = ⟨g, 0 + j, none⟩ := by unfold Addr.add; split <;> simp_all
    rwa [hadd] at this

/-- What is owned stays owned while only blocks that were not there, or lie below the base, are written. -/
theorem own_below {base : Nat} {e : TypeId} (h : w.ownsRow base e size v n xs) (hb : Below w.heap.size w w') : w'.ownsRow base e size v n xs :=
  h.kept (row := none) ⟨hb.os, hb.tape, hb.output, hb.size, fun k hk _ => hb.block k hk⟩ (by cases v.ownBlock <;> simp)

theorem own_mono {base base' : Nat} {e : TypeId} (h : w.ownsRow base e size v n xs) (hb : base' ≤ base) : w.ownsRow base' e size v n xs := by
  refine ⟨h.1, ?_⟩
  rcases h.2 with h2 | ⟨g, cap, cur, hv, hg, r⟩
  · exact .inl h2
  · exact .inr ⟨g, cap, cur, hv, Nat.le_trans hb hg, r⟩

/-- Below, and then below again in a later world. -/
theorem Below.then_ {w1 w2 : World} {B : Nat} (h : Below B w w1) (h' : Below w1.heap.size w1 w2) (hB : B ≤ w.heap.size) : Below B w w2 :=
  h.trans (h'.mono (Nat.le_trans hB h.size))
end

theorem take_set {α : Type} (xs zs : List α) (k : Nat) (u : α) (h : k < xs.length) (hz : zs.length = xs.length) (hu : xs[k]? = some u) :
    (xs.take k ++ zs.drop k).set k u = xs.take (k + 1) ++ zs.drop (k + 1) := by
  apply List.ext_getElem?
  intro j
  have hk : xs[k] = u := by rw [List.getElem?_eq_getElem h] at hu; simpa using hu
  by_cases hj : j < k
  · rw [List.getElem?_set_ne (by omega), List.getElem?_append_left (by simp; omega), List.getElem?_append_left (by simp; omega), List.getElem?_take, List.getElem?_take, if_pos hj, if_pos (by omega)]
  · by_cases hjk : j = k
    · subst hjk
      rw [List.getElem?_set_self (by simp; omega), List.getElem?_append_left (by simp; omega), List.getElem?_take, if_pos (by omega), List.getElem?_eq_getElem h, hk]
    · rw [List.getElem?_set_ne (by omega), List.getElem?_append_right (by simp; omega), List.getElem?_append_right (by simp; omega), List.getElem?_drop, List.getElem?_drop]
      congr 1
      simp
      omega

/-- Cells of bytes, of strings, of numbers. -/
def cB (l : List UInt8) : List Value := l.map fun b => .int .u8 (b.toNat : Int)
def cS (l : List ByteArray) : List Value := l.map .string
def cI (l : List Int) : List Value := l.map (.int .i64)
theorem cB_len (l : List UInt8) : (cB l).length = l.length := by simp [cB]
theorem cS_len (l : List ByteArray) : (cS l).length = l.length := by simp [cS]
theorem cI_len (l : List Int) : (cI l).length = l.length := by simp [cI]
theorem cB_at {l : List UInt8} {k : Nat} (h : k < l.length) : (cB l)[k]? = some (.int .u8 (l[k].toNat : Int)) := by simp [cB, h]
theorem cS_at {l : List ByteArray} {k : Nat} (h : k < l.length) : (cS l)[k]? = some (.string l[k]) := by simp [cS, h]
theorem cI_at {l : List Int} {k : Nat} (h : k < l.length) : (cI l)[k]? = some (.int .i64 l[k]) := by simp [cI, h]

/-- What a call leaves that makes one slice: the slice is the call's own, and nothing that was there has changed. -/
def Made (E : TypeId) (size n : Nat) (cs : List Value) (w : World) (e : Ending) (w' : World) : Prop :=
  ∃ v, e = .returned v ∧ w'.ownsRow w.heap.size E size v n cs ∧ Below w.heap.size w w'

/-- A slice literal that has just been laid. -/
theorem Rd.lit (w : World) (cs : List Value) (E : TypeId) (n : Nat) (hn : cs.length = n) (hm : n ≤ maxLen) : Rd (w.alloc (.cells cs.toArray E)) (.slice (some ⟨w.heap.size, 0, none⟩) n n) 1 n cs := by
  have h := World.ownsRow_lit (base := 0) (e := E) (size := 1) w cs.toArray n (Nat.zero_le _) hm (by simp [hn])
  simpa using Rd.of_own h

theorem grown_trans' {a b c : World} {g : Option Nat} (h : a.grownBy b g) (k : b.grownBy c g) : a.grownBy c g :=
  ⟨k.os.trans h.os, k.tape.trans h.tape, k.output.trans h.output, Nat.le_trans h.size k.size, fun i hi hne => (k.block i (Nat.lt_of_lt_of_le hi h.size) hne).trans (h.block i hi hne)⟩
/-- What reads elsewhere reads on while one row of the call's own is written. -/
theorem Rd.grown {w w' : World} {v : Value} {size n : Nat} {xs : List Value} {row : Option Nat} (h : Rd w v size n xs) (hg : w.grownBy w' row) (hne : ∀ A c b off, v = .slice A n c → A = some ⟨b, off, none⟩ → 0 < xs.length → some b ≠ row) : Rd w' v size n xs := by
  obtain ⟨h1, A, c, rfl, h2, h3, h4⟩ := h
  refine ⟨h1, A, c, rfl, h2, h3, fun hp => ?_⟩
  obtain ⟨b, off, rfl, hc⟩ := h4 hp
  exact ⟨b, off, rfl, fun j u hu => hg.cell (hc j u hu) (hne _ _ b off rfl rfl hp)⟩

/-- A row that lies below B is kept while a row from B on is written. -/
theorem own_apart {w w' : World} {base B : Nat} {e : TypeId} {size n : Nat} {v : Value} {xs : List Value} {row : Option Nat} (h : w.ownsRow base e size v n xs) (hg : w.grownBy w' row)
    (hlt : ∀ k, v.ownBlock = some k → k < B) (hge : ∀ k, row = some k → B ≤ k) : w'.ownsRow base e size v n xs := by
  refine h.kept hg ?_
  cases hv : v.ownBlock with
  | none => exact .inl rfl
  | some k =>
    right
    intro e'
    have h1 := hlt k hv
    have h2 := hge k e'.symm
    omega

theorem add_at (b off k : Nat) : (⟨b, off, none⟩ : Addr).add k = ⟨b, off + k, none⟩ := by unfold Addr.add; split <;> simp_all
theorem Rd.front {w : World} {A : Option Addr} {n c size : Nat} {xs : List Value} (h : Rd w (.slice A n c) size n xs) {a c' : Nat} (ha : a ≤ n) (hc : a ≤ c') (hm : c' ≤ maxLen) : Rd w (.slice A a c') size a (xs.take (a * size)) := by
  obtain ⟨h1, A', c0, hv, h2, h3, h4⟩ := h
  injection hv with hA _ _
  subst hA
  have hle : a * size ≤ n * size := Nat.mul_le_mul_right _ ha
  refine ⟨by rw [List.length_take, h1]; omega, A, c', rfl, hc, hm, fun hp => ?_⟩
  rw [List.length_take] at hp
  obtain ⟨b, off, hA, hcell⟩ := h4 (by omega)
  refine ⟨b, off, hA, fun j u hu => hcell j u ?_⟩
  rw [List.getElem?_take] at hu
  split at hu
  · exact hu
  · cases hu
theorem Rd.back {w : World} {A : Option Addr} {n c size : Nat} {xs : List Value} (h : Rd w (.slice A n c) size n xs) {k c' : Nat} (hc : n - k ≤ c') (hm : c' ≤ maxLen) : Rd w (.slice (A.map (·.add (k * size))) (n - k) c') size (n - k) (xs.drop (k * size)) := by
  obtain ⟨h1, A', c0, hv, h2, h3, h4⟩ := h
  injection hv with hA _ _
  subst hA
  refine ⟨by rw [List.length_drop, h1, Nat.sub_mul], _, c', rfl, hc, hm, fun hp => ?_⟩
  rw [List.length_drop] at hp
  obtain ⟨b, off, rfl, hcell⟩ := h4 (by omega)
  refine ⟨b, off + k * size, by rw [Option.map_some, add_at], fun j u hu => ?_⟩
  rw [List.getElem?_drop] at hu
  rw [Nat.add_assoc]
  exact hcell _ u hu
theorem Rd.none_ {w : World} (A : Option Addr) (c size : Nat) (hm : c ≤ maxLen) : Rd w (.slice A 0 c) size 0 [] := ⟨by simp, A, c, rfl, Nat.zero_le _, hm, fun h => absurd h (by simp)⟩
theorem cB_take (l : List UInt8) (k : Nat) : cB (l.take k) = (cB l).take k := by simp [cB, List.map_take]
theorem cB_drop (l : List UInt8) (k : Nat) : cB (l.drop k) = (cB l).drop k := by simp [cB, List.map_drop]
theorem cS_take (l : List ByteArray) (k : Nat) : cS (l.take k) = (cS l).take k := by simp [cS, List.map_take]
theorem cS_drop (l : List ByteArray) (k : Nat) : cS (l.drop k) = (cS l).drop k := by simp [cS, List.map_drop]

end Go.Proofs.Ytfdjamobfhoeiaa
