/-
  A description among the arguments, opened: its rules as a list.
-/
import Derived.Test.YtcegbilfcblhfaaProg
import Derived.Test.YtcegbilfcblhfaaOpen
import Derived.Test.YtcegbilfcblhfaaRule
import Derived.Deep.Slices
namespace Go.Proofs.Ytcegbilfcblhfaa
open Go.RowKit Go.ChangeShapes Go.WideShapes Go.ChangeAt

section
variable {H : Type} {enc : TypeId × Value → H} {P : Program} {W : World} {t e : TypeId} {x : DataW H × List MemPlace} {cs : List Value} {fuel : Nat}

theorem cells_texts (ht : P.underlying t = some (.slice e)) (he : P.underlying e = some .string) (hc : P.cellsOf e = 1)
    (hf : DataW.trod enc P W 0 (fun _ => true) true fuel t cs = some x) : ∃ (v : Value) (l : List ByteArray), cs = [v] ∧ Rd W v 1 l.length (cS l) ∧ ∀ x ∈ l, x.size ≤ maxLen := by
  rcases open_strings ht he hc hf with ⟨hcs, _⟩ | ⟨x, len, c, ss, hcs, _, hl, hm, hz, _, hcell, hws⟩
  · exact ⟨_, [], hcs, ⟨by simp [cS], none, 0, rfl, Nat.le_refl _, Nat.zero_le _, fun h => by simp [cS] at h⟩, by simp⟩
  · simp only [if_true] at hz
    have hlen : (ss.take len).length = len := by simp; omega
    refine ⟨_, ss.take len, hcs, ?_, fun y hy => hws y (List.mem_of_mem_take hy)⟩
    rw [hlen]
    refine rd_of_cells (by rw [cS_len, hlen]) hl hm fun i u hu => ?_
    have hi : i < len := by
      have := (List.getElem?_eq_some_iff.1 hu).1
      rwa [cS_len, hlen] at this
    have hi' : i < ss.length := by omega
    rw [hcell i hi']
    simp [cS, hi, hi'] at hu
    simp [hi', hu]

theorem cells_nums (ht : P.underlying t = some (.slice e)) (he : P.underlying e = some (.int .i64)) (hc : P.cellsOf e = 1)
    (hf : DataW.trod enc P W 0 (fun _ => true) true fuel t cs = some x) : ∃ (v : Value) (l : List Int), cs = [v] ∧ Rd W v 1 l.length (cI l) ∧ ∀ x ∈ l, fits x := by
  rcases open_ints ht he hc hf with ⟨hcs, _⟩ | ⟨x, len, c, ss, hcs, _, hl, hm, hz, _, hcell, hws⟩
  · exact ⟨_, [], hcs, ⟨by simp [cI], none, 0, rfl, Nat.le_refl _, Nat.zero_le _, fun h => by simp [cI] at h⟩, by simp⟩
  · simp only [if_true] at hz
    have hlen : (ss.take len).length = len := by simp; omega
    refine ⟨_, ss.take len, hcs, ?_, fun y hy => wf_int (hws y (List.mem_of_mem_take hy))⟩
    rw [hlen]
    refine rd_of_cells (by rw [cI_len, hlen]) hl hm fun i u hu => ?_
    have hi : i < len := by
      have := (List.getElem?_eq_some_iff.1 hu).1
      rwa [cI_len, hlen] at this
    have hi' : i < ss.length := by omega
    rw [hcell i hi']
    simp [cI, hi, hi'] at hu
    simp [hi', hu]

theorem cells_bytes (ht : P.underlying t = some (.slice e)) (he : P.underlying e = some (.int .u8)) (hc : P.cellsOf e = 1)
    (hf : DataW.trod enc P W 0 (fun _ => true) true fuel t cs = some x) : ∃ (v : Value) (l : List UInt8), cs = [v] ∧ Rd W v 1 l.length (cB l) := by
  rcases open_ints ht he hc hf with ⟨hcs, _⟩ | ⟨x, len, c, zs, hcs, _, hl, hm, hz, _, hcell, hws⟩
  · exact ⟨_, [], hcs, ⟨by simp [cB], none, 0, rfl, Nat.le_refl _, Nat.zero_le _, fun h => by simp [cB] at h⟩⟩
  · simp only [if_true] at hz
    have hlen : ((zs.take len).map fun n => n.toNat.toUInt8).length = len := by simp; omega
    refine ⟨_, (zs.take len).map fun n => n.toNat.toUInt8, hcs, ?_⟩
    rw [hlen]
    refine rd_of_cells (by rw [cB_len, hlen]) hl hm fun i u hu => ?_
    have hi : i < len := by
      have := (List.getElem?_eq_some_iff.1 hu).1
      rwa [cB_len, hlen] at this
    have hi' : i < zs.length := by omega
    rw [hcell i hi']
    have hb := wf_u8 (hws zs[i] (List.getElem_mem hi'))
    have hz' : ((zs[i].toNat.toUInt8.toNat : Nat) : Int) = zs[i] := by
      have : zs[i].toNat < 256 := by omega
      simp [Nat.toUInt8, UInt8.toNat_ofNat', Nat.mod_eq_of_lt this]; omega
    simp [cB, hi, hi'] at hu
    rw [← hu]
    simp [hi']
    simpa using hz'.symm
end

section
variable {H : Type} {enc : TypeId × Value → H} {W : World} {x : DataW H × List MemPlace} {cs : List Value} {fuel : Nat}

theorem cells_cut {i j : Nat} {cs ds : List Value} (h : (cs.drop i).take j = ds) (k : Nat) (hk : k < j) : cs[i + k]? = ds[k]? := by
  subst h
  rw [List.getElem?_take, if_pos hk, List.getElem?_drop]

theorem open_rule (hf : DataW.trod enc Try.prog W 0 (fun _ => true) true fuel 70 cs = some x) : ∃ r, RdRule W cs r ∧ RuleFits r := by
  obtain ⟨xs, n, _, _, hl, hxl, h⟩ := DataW.trod_struct Try.underlying70 hf
  have hc8 : Try.prog.cellsOf 70 = 8 := by kernel_rfl
  have cs1 : Try.prog.cellsOf 9 = 1 := by kernel_rfl
  have ci1 : Try.prog.cellsOf 3 = 1 := by kernel_rfl
  have cb1 : Try.prog.cellsOf 4 = 1 := by kernel_rfl
  have cB1 : Try.prog.cellsOf 53 = 1 := by kernel_rfl
  have cS1 : Try.prog.cellsOf 41 = 1 := by kernel_rfl
  have cI1 : Try.prog.cellsOf 54 = 1 := by kernel_rfl
  have cu1 : Try.prog.cellsOf 5 = 1 := by kernel_rfl
  rw [hc8] at hl
  have hx8 : xs.length = 8 := hxl
  have at_ : ∀ i, i < 8 → ∃ y, xs[i]? = some y := fun i hi => ⟨_, List.getElem?_eq_getElem (by omega)⟩
  obtain ⟨y0, e0⟩ := at_ 0 (by omega)
  obtain ⟨y1, e1⟩ := at_ 1 (by omega)
  obtain ⟨y2, e2⟩ := at_ 2 (by omega)
  obtain ⟨y3, e3⟩ := at_ 3 (by omega)
  obtain ⟨y4, e4⟩ := at_ 4 (by omega)
  obtain ⟨y5, e5⟩ := at_ 5 (by omega)
  obtain ⟨y6, e6⟩ := at_ 6 (by omega)
  obtain ⟨y7, e7⟩ := at_ 7 (by omega)
  have f0 : DataW.trod enc Try.prog W 0 (fun _ => true) true n 9 ((cs.drop 0).take (Try.prog.cellsOf 9)) = some y0 := (h 0 _ rfl).trans e0
  have f1 : DataW.trod enc Try.prog W 0 (fun _ => true) true n 3 ((cs.drop 1).take (Try.prog.cellsOf 3)) = some y1 := (h 1 _ rfl).trans e1
  have f2 : DataW.trod enc Try.prog W 0 (fun _ => true) true n 3 ((cs.drop 2).take (Try.prog.cellsOf 3)) = some y2 := (h 2 _ rfl).trans e2
  have f3 : DataW.trod enc Try.prog W 0 (fun _ => true) true n 4 ((cs.drop 3).take (Try.prog.cellsOf 4)) = some y3 := (h 3 _ rfl).trans e3
  have f4 : DataW.trod enc Try.prog W 0 (fun _ => true) true n 53 ((cs.drop 4).take (Try.prog.cellsOf 53)) = some y4 := (h 4 _ rfl).trans e4
  have f5 : DataW.trod enc Try.prog W 0 (fun _ => true) true n 41 ((cs.drop 5).take (Try.prog.cellsOf 41)) = some y5 := (h 5 _ rfl).trans e5
  have f6 : DataW.trod enc Try.prog W 0 (fun _ => true) true n 54 ((cs.drop 6).take (Try.prog.cellsOf 54)) = some y6 := (h 6 _ rfl).trans e6
  have f7 : DataW.trod enc Try.prog W 0 (fun _ => true) true n 54 ((cs.drop 7).take (Try.prog.cellsOf 54)) = some y7 := (h 7 _ rfl).trans e7
  obtain ⟨nm, c0, _, z0⟩ := DataW.trod_string Try.underlying9 f0
  obtain ⟨kd, c1, _, z1⟩ := DataW.trod_int Try.underlying3 f1
  obtain ⟨sz, c2, _, z2⟩ := DataW.trod_int Try.underlying3 f2
  obtain ⟨lt, c3, _⟩ := DataW.trod_bool Try.underlying4 f3
  obtain ⟨vb, lb, c4, r4⟩ := cells_bytes Try.underlying53 Try.underlying5 cu1 f4
  obtain ⟨vn, ln, c5, r5, z5⟩ := cells_texts Try.underlying41 Try.underlying9 cs1 f5
  obtain ⟨vt, lt', c6, r6, z6⟩ := cells_nums Try.underlying54 Try.underlying3 ci1 f6
  obtain ⟨vk, lk, c7, r7, z7⟩ := cells_nums Try.underlying54 Try.underlying3 ci1 f7
  refine ⟨⟨nm, kd, sz, lt, lb, ln, lt', lk⟩, ⟨vb, vn, vt, vk, ?_, r4, r5, r6, r7⟩, ⟨z0, z5, wf_int z1, wf_int z2, z6, z7⟩⟩
  rw [cs1] at c0
  rw [ci1] at c1 c2
  rw [cb1] at c3
  rw [cB1] at c4
  rw [cS1] at c5
  rw [cI1] at c6 c7
  have g0 := cells_cut c0 0 (by omega)
  have g1 := cells_cut c1 0 (by omega)
  have g2 := cells_cut c2 0 (by omega)
  have g3 := cells_cut c3 0 (by omega)
  have g4 := cells_cut c4 0 (by omega)
  have g5 := cells_cut c5 0 (by omega)
  have g6 := cells_cut c6 0 (by omega)
  have g7 := cells_cut c7 0 (by omega)
  clear h f0 f1 f2 f3 f4 f5 f6 f7 c0 c1 c2 c3 c4 c5 c6 c7
  apply List.ext_getElem?
  intro i
  match i with
  | 0 => exact g0
  | 1 => exact g1
  | 2 => exact g2
  | 3 => exact g3
  | 4 => exact g4
  | 5 => exact g5
  | 6 => exact g6
  | 7 => exact g7
  | i + 8 => rw [List.getElem?_eq_none (by omega), List.getElem?_eq_none (by simp [ruleCells])]

theorem open_rules (hf : DataW.trod enc Try.prog W 0 (fun _ => true) true fuel 22 cs = some x) : ∃ (v : Value) (l : List RuleD), cs = [v] ∧ RdRules W v l ∧ ∀ r ∈ l, RuleFits r := by
  have hc8 : Try.prog.cellsOf 70 = 8 := by kernel_rfl
  rcases Go.Deep.open_slice Try.underlying22 hf with ⟨hcs, _⟩ | ⟨a, len, cap, m, n, D, Pl, rfl, _, hl, hm, hmm, _, hx⟩
  · exact ⟨_, [], hcs, ⟨none, 0, rfl, Nat.le_refl _, Nat.zero_le _, fun h => by simp at h⟩, by simp⟩
  · simp only [if_true] at hmm
    subst hmm
    rw [hc8] at hx
    have one : ∀ i, i < len → ∃ q : RuleD, ∃ cs, RdRule W cs q ∧ RuleFits q ∧ (∀ j u, cs[j]? = some u → W.cell? (a.add (i * 8 + j)) = some u) := by
      intro i hi
      obtain ⟨cs', h1, h2⟩ := hx i (by omega)
      obtain ⟨r, hr, hfit⟩ := open_rule h2
      refine ⟨r, cs', hr, hfit, fun j u hu => ?_⟩
      obtain ⟨_, hlen, hcell⟩ := World.cells?_some h1
      have hj : j < 8 := by
        have := (List.getElem?_eq_some_iff.1 hu).1
        omega
      rw [← Go.Deep.add_add, hcell j hj, hu]
    have nonempty : Inhabited RuleD := ⟨⟨⟨#[]⟩, 0, 0, false, [], [], [], []⟩⟩
    obtain ⟨F, hF⟩ := Go.Deep.choose_lt one
    refine ⟨_, (List.range len).map F, rfl, ?_, ?_⟩
    · have hll : ((List.range len).map F).length = len := by simp
      refine ⟨some a, m, by rw [hll], by rw [hll]; exact hl, hm, fun hp => ?_⟩
      rw [hll] at hp
      obtain ⟨b, off, spot⟩ := a
      have hsp : spot = none := by
        obtain ⟨cs', h1, _, h3⟩ := hF 0 hp
        obtain ⟨_, _, _, _, rfl, _⟩ := h1
        have h0 := h3 0 _ rfl
        simpa [Addr.add] using World.cell?_spot h0
      subst hsp
      refine ⟨b, off, rfl, fun i hi => ?_⟩
      rw [hll] at hi
      obtain ⟨cs', h1, _, h3⟩ := hF i hi
      refine ⟨cs', by simpa using h1, fun j u hu => ?_⟩
      have := h3 j u hu
      rw [add_at] at this
      rwa [Nat.add_assoc]
    · intro r hr
      obtain ⟨i, hi, rfl⟩ := List.mem_map.1 hr
      exact (hF i (List.mem_range.1 hi)).choose_spec.2.1

theorem open_desc {r : Reach} {base : Nat} {v : Value} {d : DataW H} {ps : List MemPlace} (hv : Value.okWide Try.prog W r base 24 v)
    (hd : DataW.Trod enc Try.prog W 0 (fun _ => true) true 24 v d ps) : ∃ l : List RuleD, RdDesc W v l ∧ ∀ r ∈ l, RuleFits r := by
  obtain ⟨cs, rfl, hsz⟩ := okWide_struct Try.underlying24 hv
  have hc1 : Try.prog.cellsOf 24 = 1 := by kernel_rfl
  have hr1 : Try.prog.cellsOf 22 = 1 := by kernel_rfl
  rw [hc1] at hsz
  obtain ⟨fuel, hf⟩ := hd
  obtain ⟨xs, n, _, _, hl, hxl, h⟩ := DataW.trod_struct Try.underlying24 hf
  have hx1 : xs.length = 1 := hxl
  have f0 : DataW.trod enc Try.prog W 0 (fun _ => true) true n 22 (((Value.agg cs).cells.toList.drop 0).take (Try.prog.cellsOf 22)) = some (xs[0]'(by omega)) := (h 0 _ rfl).trans (List.getElem?_eq_getElem (by omega))
  obtain ⟨u, l, hu, hr, hfit⟩ := open_rules f0
  refine ⟨l, ⟨u, ?_, hr⟩, hfit⟩
  rw [hr1] at hu
  obtain ⟨cs⟩ := cs
  match cs, hsz with
  | [c], _ =>
    have : [c] = [u] := by simpa [Value.cells] using hu
    rw [List.cons.inj this |>.1]
end

end Go.Proofs.Ytcegbilfcblhfaa
