/-
  Arguments that came in, opened: a slice of bytes, a slice of strings.
-/
import Derived.Test.YtfdjamobfhoeiaaBase
import Derived.Test.YtfdjamobfhoeiaaRep
import Derived.ProofKit
import Derived.OpenShut
import Derived.SliceStrings
namespace Go.Proofs.Ytfdjamobfhoeiaa
open Go.RowKit Go.ChangeShapes Go.WideShapes Go.ChangeAt

theorem rd_of_cells {w : World} {a : Addr} {n c : Nat} {xs : List Value} (hl : xs.length = n) (hnc : n ≤ c) (hm : c ≤ maxLen) (h : ∀ i u, xs[i]? = some u → w.cell? (a.add i) = some u) :
    Rd w (.slice (some a) n c) 1 n xs := by
  refine ⟨by omega, some a, c, rfl, hnc, hm, fun hp => ?_⟩
  obtain ⟨b, off, spot⟩ := a
  have h0 := h 0 _ (List.getElem?_eq_getElem hp)
  have hs : spot = none := by simpa [Addr.add] using World.cell?_spot h0
  subst hs
  refine ⟨b, off, rfl, fun j u hu => ?_⟩
  have := h j u hu
  have e : (⟨b, off, none⟩ : Addr).add j = ⟨b, off + j, none⟩ := by unfold Addr.add; split <;> simp_all
  rwa [e] at this

section
variable {H : Type} {enc : TypeId × Value → H} {P : Program} {W : World} {t e : TypeId} {v : Value} {d : DataW H} {ps : List MemPlace}

theorem open_texts (ht : P.underlying t = some (.slice e)) (he : P.underlying e = some .string) (hc : P.cellsOf e = 1) (hv : ∃ a len cap, v = .slice a len cap)
    (hd : DataW.Trod enc P W 0 (fun _ => true) true t v d ps) : ∃ l : List ByteArray, Rd W v 1 l.length (cS l) ∧ ∀ x ∈ l, x.size ≤ maxLen := by
  obtain ⟨a, len, cap, rfl⟩ := hv
  obtain ⟨fuel, hf⟩ := hd
  rcases open_strings ht he hc hf with ⟨hcs, _⟩ | ⟨x, l, c, ss, hcs, _, hl, hm, hz, _, hcell, hws⟩
  · simp [Value.cells] at hcs
    obtain ⟨rfl, rfl, rfl⟩ := hcs
    exact ⟨[], ⟨by simp [cS], none, 0, rfl, Nat.le_refl _, Nat.zero_le _, fun h => by simp [cS] at h⟩, by simp⟩
  · simp [Value.cells] at hcs
    obtain ⟨rfl, rfl, rfl⟩ := hcs
    simp only [if_true] at hz
    have hlen : (ss.take len).length = len := by simp; omega
    refine ⟨ss.take len, ?_, fun y hy => hws y (List.mem_of_mem_take hy)⟩
    rw [hlen]
    refine rd_of_cells (by rw [cS_len, hlen]) hl hm fun i u hu => ?_
    have hi : i < len := by
      have := (List.getElem?_eq_some_iff.1 hu).1
      rwa [cS_len, hlen] at this
    have hi' : i < ss.length := by omega
    rw [hcell i hi']
    simp [cS, hi, hi'] at hu
    simp [hi', hu]

theorem open_bytes (ht : P.underlying t = some (.slice e)) (he : P.underlying e = some (.int .u8)) (hc : P.cellsOf e = 1) (hv : ∃ a len cap, v = .slice a len cap)
    (hd : DataW.Trod enc P W 0 (fun _ => true) true t v d ps) : ∃ l : List UInt8, Rd W v 1 l.length (cB l) := by
  obtain ⟨a, len, cap, rfl⟩ := hv
  obtain ⟨fuel, hf⟩ := hd
  rcases open_ints ht he hc hf with ⟨hcs, _⟩ | ⟨x, l, c, zs, hcs, _, hl, hm, hz, _, hcell, hws⟩
  · simp [Value.cells] at hcs
    obtain ⟨rfl, rfl, rfl⟩ := hcs
    exact ⟨[], ⟨by simp [cB], none, 0, rfl, Nat.le_refl _, Nat.zero_le _, fun h => by simp [cB] at h⟩⟩
  · simp [Value.cells] at hcs
    obtain ⟨rfl, rfl, rfl⟩ := hcs
    simp only [if_true] at hz
    have hlen : ((zs.take len).map fun n => n.toNat.toUInt8).length = len := by simp; omega
    refine ⟨(zs.take len).map fun n => n.toNat.toUInt8, ?_⟩
    rw [hlen]
    refine rd_of_cells (by rw [cB_len, hlen]) hl hm fun i u hu => ?_
    have hi : i < len := by
      have := (List.getElem?_eq_some_iff.1 hu).1
      rwa [cB_len, hlen] at this
    have hi' : i < zs.length := by omega
    rw [hcell i hi']
    have hb := wf_u8 (hws zs[i] (List.getElem_mem hi'))
    have hz' : ((zs[i].toNat.toUInt8.toNat : Nat) : Int) = zs[i] := by
      have : zs[i].toNat < 256 := by omega
      simp [Nat.toUInt8, UInt8.toNat_ofNat', Nat.mod_eq_of_lt this]; omega
    simp [cB, hi, hi'] at hu
    rw [← hu]
    simp [hi']
    simpa using hz'.symm
end

end Go.Proofs.Ytfdjamobfhoeiaa
