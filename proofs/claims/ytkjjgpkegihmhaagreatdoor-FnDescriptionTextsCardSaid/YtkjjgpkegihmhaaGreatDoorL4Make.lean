/-
  l4Make of the draws: one more rule, kind by kind; not the kinds with loops.
-/
import Derived.Test.YtkjjgpkegihmhaaGreatDoorL4Int
import Derived.Test.YtkjjgpkegihmhaaGreatDoorGD
import Derived.BigGuard
namespace Go.Proofs.YtkjjgpkegihmhaaGreatDoor
open Go.RowKit
set_option linter.unusedVariables false

set_option maxRecDepth 100000 in
set_option maxHeartbeats 8000000 in
theorem s_l4Make3 (g : Nat) (v : Value) (l : List RuleD) (lo : Nat) (hdr : Drawn l) (h10 : l.length ≤ 9) (w : World) (hc : Cur w g) (ho : OwnRules w lo v l) :
    Calls Tryz.prog 95 #[.pointer (some ⟨g, 0, none⟩), .agg #[v], .int .i64 3] w (DrewR 3 l g w) := by
  obtain ⟨A, c, rfl⟩ : ∃ A c, v = .slice A l.length c := by
    obtain ⟨A, c, h, _⟩ := ho.rd
    exact ⟨A, c, h⟩
  have hglt := hc.lt
  have DR := Lib.hid hdr
  have HO := Lib.hid ho
  have HC := Lib.hid hc
  obtain ⟨w1, hw1⟩ : ∃ w1, w1 = ((w.alloc (.cells #[.slice A l.length c] 35)).alloc (.cells #[.string ⟨#[]⟩, .int .i64 0, .int .i64 0, .bool false, .slice none 0 0, .slice none 0 0, .slice none 0 0, .slice none 0 0] 30)) := ⟨_, rfl⟩
  have B1 := Lib.hid (show Below w.heap.size w w1 by rw [hw1]; exact ((Below.refl _ _).alloc (Nat.le_refl _) _).alloc (by simp) _)
  have D1 := Lib.hid (show Box w1 w.heap.size 35 #[.slice A l.length c] by rw [hw1]; exact (Box.new w _ _).alloc _)
  have Z1 := Lib.hid (show Box w1 (w.heap.size + 1) 30 #[.string ⟨#[]⟩, .int .i64 0, .int .i64 0, .bool false, .slice none 0 0, .slice none 0 0, .slice none 0 0, .slice none 0 0] by rw [hw1]; exact box_new1 w _ _ _)
  have W1 := Lib.hid hw1
  have e1s : w1.heap.size = w.heap.size + 1 + 1 := by rw [hw1]; simp
  have ES1 := Lib.hid e1s
  have hnl := s_FormatInt (l.length : Int) ⟨by omega, by omega⟩
  obtain ⟨s2, hs2⟩ : ∃ s2, s2 = mkS (fmtInt (l.length : Int)) := ⟨_, rfl⟩
  have hsz2 : s2.size ≤ 20 := by rw [hs2, mkS_size]; exact fmtInt_len ⟨by omega, by omega⟩
  rw [← hs2] at hnl
  have FI := Lib.hid hnl
  have HS2 := Lib.hid hs2
  clear hdr hc ho hw1 e1s hnl hs2
  go_enter Tryz.func95, Tryz.ntmps95
  go_wp2_with fail
  rw [← W1.out, ← ES1.out]
  have hrd := Rd.lit w1 (cS makeNames) 9 5 rfl (by unfold maxLen; omega)
  refine (s_l1Str g _ makeNames (by decide) (by decide) _ ((HC.out.below B1.out).below ((Below.refl _ _).alloc (Nat.le_refl _) _)) hrd (by simp [Value.ownBlock]; have := B1.out.size; omega)).mono ?_
  rintro e w2 ⟨nm0, rfl, hmem, hc2, hg2⟩
  have hg12 : w1.grownBy w2 (some g) := grown_trans (grown_alloc (World.grownBy.refl w1 _) _) hg2
  have D2 := Lib.hid (D1.out.drawn hg12 (by omega))
  have Z2 := Lib.hid (Z1.out.drawn hg12 (by omega))
  have G2 := Lib.hid (grown_trans (grown_of_below B1.out) hg12)
  have C2 := Lib.hid hc2
  have hs12 := hg12.size
  obtain ⟨hnm, hsz0⟩ := name_of hmem HS2.out
  have NM := Lib.hid hnm
  clear hmem hc2 hg2 hg12 hnm hrd
  go_wp2_with fail
  refine (FI.out _).mono ?_
  rintro e w3 ⟨rfl, hb3⟩
  have D3 := Lib.hid (D2.out.below hb3)
  have Z3 := Lib.hid (Z2.out.below hb3)
  have G3 := Lib.hid (grown_then G2.out hb3)
  have C3 := Lib.hid (C2.out.below hb3)
  have hs23 := hb3.size
  have hlt3 : w.heap.size + 1 < w3.heap.size := Z3.out.lt
  have hov : ¬ (9223372036854775807 < nm0.size + s2.size) := by omega
  obtain ⟨w4, hw4⟩ : ∃ w4, w4 = w3.alloc (.cells #[.string (nm0 ++ s2), .int .i64 3, .int .i64 0, .bool false, .slice none 0 0, .slice none 0 0, .slice none 0 0, .slice none 0 0] 30) := ⟨_, rfl⟩
  obtain ⟨gr, hgr⟩ : ∃ gr, gr = w3.heap.size := ⟨_, rfl⟩
  have R4 := Lib.hid (show Box w4 gr 30 #[.string (nm0 ++ s2), .int .i64 3, .int .i64 0, .bool false, .slice none 0 0, .slice none 0 0, .slice none 0 0, .slice none 0 0] by rw [hw4, hgr]; exact Box.new _ _ _)
  have D4 := Lib.hid (show Box w4 w.heap.size 35 #[.slice A l.length c] by rw [hw4]; exact D3.out.alloc _)
  have Z4 := Lib.hid (show Box w4 (w.heap.size + 1) 30 #[.string ⟨#[]⟩, .int .i64 0, .int .i64 0, .bool false, .slice none 0 0, .slice none 0 0, .slice none 0 0, .slice none 0 0] by rw [hw4]; exact Z3.out.alloc _)
  have G4 := Lib.hid (show w.grownBy w4 (some g) by rw [hw4]; exact grown_alloc G3.out _)
  have C4 := Lib.hid (show Cur w4 g by rw [hw4]; exact C3.out.below ((Below.refl _ _).alloc (Nat.le_refl _) _))
  have hgl : w.heap.size + 1 < gr := by rw [hgr]; exact hlt3
  obtain ⟨nm, hnm⟩ : ∃ nm, nm = nm0 ++ s2 := ⟨_, rfl⟩
  have NM' := Lib.hid (show NameN l.length nm by rw [hnm]; exact NM.out)
  rw [← hnm] at R4 hw4
  have W4 := Lib.hid hw4
  have ES4 := Lib.hid (show w4.heap.size = gr + 1 by rw [hw4, hgr]; simp)
  have xr : (w3.alloc (.cells #[.string (nm0 ++ s2), .int .i64 3, .int .i64 0, .bool false, .slice none 0 0, .slice none 0 0, .slice none 0 0, .slice none 0 0] 30)).cell? ⟨w.heap.size, 0, none⟩ = some (.slice A l.length c) := (D3.out.alloc _).cell 0
  have HGR := Lib.hid hgr
  have HNM := Lib.hid hnm
  have x4 : w4.cell? ⟨w.heap.size, 0, none⟩ = some (.slice A l.length c) := D4.out.cell 0
  have y0 : w4.cell? ⟨gr, 0, none⟩ = some (.string nm) := R4.out.cell 0
  have f0 : w4.frozen? ⟨gr, 0, none⟩ = false := R4.out.frozen 0
  have y1 : w4.cell? ⟨gr, 1, none⟩ = some (.int .i64 3) := R4.out.cell 1
  have f1 : w4.frozen? ⟨gr, 1, none⟩ = false := R4.out.frozen 1
  have y2 : w4.cell? ⟨gr, 2, none⟩ = some (.int .i64 0) := R4.out.cell 2
  have f2 : w4.frozen? ⟨gr, 2, none⟩ = false := R4.out.frozen 2
  have y3 : w4.cell? ⟨gr, 3, none⟩ = some (.bool false) := R4.out.cell 3
  have f3 : w4.frozen? ⟨gr, 3, none⟩ = false := R4.out.frozen 3
  have y4 : w4.cell? ⟨gr, 4, none⟩ = some (.slice none 0 0) := R4.out.cell 4
  have f4 : w4.frozen? ⟨gr, 4, none⟩ = false := R4.out.frozen 4
  have y5 : w4.cell? ⟨gr, 5, none⟩ = some (.slice none 0 0) := R4.out.cell 5
  have f5 : w4.frozen? ⟨gr, 5, none⟩ = false := R4.out.frozen 5
  have y6 : w4.cell? ⟨gr, 6, none⟩ = some (.slice none 0 0) := R4.out.cell 6
  have f6 : w4.frozen? ⟨gr, 6, none⟩ = false := R4.out.frozen 6
  have y7 : w4.cell? ⟨gr, 7, none⟩ = some (.slice none 0 0) := R4.out.cell 7
  have f7 : w4.frozen? ⟨gr, 7, none⟩ = false := R4.out.frozen 7
  clear hb3 hgr hw4 hs12 hs23 hnm
  go_wp2_with fail
  rw [← HNM.out, ← W4.out, ← HGR.out]
  clear xr
  refine (s_l1Below g 4 (by omega) _ C4.out).mono ?_
  rintro e w5 ⟨x, rfl, ⟨hx1, hx2, _⟩, hc5, hg5⟩
  have hx3 := hx2 (by omega)
  have C5 := Lib.hid hc5
  have D5 := Lib.hid (D4.out.drawn hg5 (by omega))
  have R5 := Lib.hid (R4.out.drawn hg5 (by omega))
  have Z5 := Lib.hid (Z4.out.drawn hg5 (by omega))
  have G5 := Lib.hid (grown_trans G4.out hg5)
  have y0 : w5.cell? ⟨gr, 0, none⟩ = some (.string nm) := R5.out.cell 0
  have f0 : w5.frozen? ⟨gr, 0, none⟩ = false := R5.out.frozen 0
  have y1 : w5.cell? ⟨gr, 1, none⟩ = some (.int .i64 3) := R5.out.cell 1
  have f1 : w5.frozen? ⟨gr, 1, none⟩ = false := R5.out.frozen 1
  have y2 : w5.cell? ⟨gr, 2, none⟩ = some (.int .i64 0) := R5.out.cell 2
  have f2 : w5.frozen? ⟨gr, 2, none⟩ = false := R5.out.frozen 2
  have y3 : w5.cell? ⟨gr, 3, none⟩ = some (.bool false) := R5.out.cell 3
  have f3 : w5.frozen? ⟨gr, 3, none⟩ = false := R5.out.frozen 3
  have y4 : w5.cell? ⟨gr, 4, none⟩ = some (.slice none 0 0) := R5.out.cell 4
  have f4 : w5.frozen? ⟨gr, 4, none⟩ = false := R5.out.frozen 4
  have y5 : w5.cell? ⟨gr, 5, none⟩ = some (.slice none 0 0) := R5.out.cell 5
  have f5 : w5.frozen? ⟨gr, 5, none⟩ = false := R5.out.frozen 5
  have y6 : w5.cell? ⟨gr, 6, none⟩ = some (.slice none 0 0) := R5.out.cell 6
  have f6 : w5.frozen? ⟨gr, 6, none⟩ = false := R5.out.frozen 6
  have y7 : w5.cell? ⟨gr, 7, none⟩ = some (.slice none 0 0) := R5.out.cell 7
  have f7 : w5.frozen? ⟨gr, 7, none⟩ = false := R5.out.frozen 7
  clear hx2 hc5 hg5 x4
  have z0 : w5.cell? ⟨w.heap.size + 1, 0, none⟩ = some (.string ⟨#[]⟩) := Z5.out.cell 0
  have q0 : w5.frozen? ⟨w.heap.size + 1, 0, none⟩ = false := Z5.out.frozen 0
  have z1 : w5.cell? ⟨w.heap.size + 1, 1, none⟩ = some (.int .i64 0) := Z5.out.cell 1
  have q1 : w5.frozen? ⟨w.heap.size + 1, 1, none⟩ = false := Z5.out.frozen 1
  have z2 : w5.cell? ⟨w.heap.size + 1, 2, none⟩ = some (.int .i64 0) := Z5.out.cell 2
  have q2 : w5.frozen? ⟨w.heap.size + 1, 2, none⟩ = false := Z5.out.frozen 2
  have z3 : w5.cell? ⟨w.heap.size + 1, 3, none⟩ = some (.bool false) := Z5.out.cell 3
  have q3 : w5.frozen? ⟨w.heap.size + 1, 3, none⟩ = false := Z5.out.frozen 3
  have z4 : w5.cell? ⟨w.heap.size + 1, 4, none⟩ = some (.slice none 0 0) := Z5.out.cell 4
  have q4 : w5.frozen? ⟨w.heap.size + 1, 4, none⟩ = false := Z5.out.frozen 4
  have z5 : w5.cell? ⟨w.heap.size + 1, 5, none⟩ = some (.slice none 0 0) := Z5.out.cell 5
  have q5 : w5.frozen? ⟨w.heap.size + 1, 5, none⟩ = false := Z5.out.frozen 5
  have z6 : w5.cell? ⟨w.heap.size + 1, 6, none⟩ = some (.slice none 0 0) := Z5.out.cell 6
  have q6 : w5.frozen? ⟨w.heap.size + 1, 6, none⟩ = false := Z5.out.frozen 6
  have z7 : w5.cell? ⟨w.heap.size + 1, 7, none⟩ = some (.slice none 0 0) := Z5.out.cell 7
  have q7 : w5.frozen? ⟨w.heap.size + 1, 7, none⟩ = false := Z5.out.frozen 7
  go_wp2_with fail
  refine bodyPost_ret (v := .agg #[.string nm, .int .i64 3, .int .i64 (1 + x), .bool false, .slice none 0 0, .slice none 0 0, .slice none 0 0, .slice none 0 0]) (by simp [results, Tryz.results95, go_sem, z0, z1, z2, z3, z4, z5, z6, z7]) rfl ?_
  exact DrewR.mk_ (r := ⟨nm, 3, (1 + x), false, [], [], [], []⟩) (((Rows4.nil w5 w.heap.size (r := ⟨nm, 3, (1 + x), false, [], [], [], []⟩) rfl rfl rfl rfl).setBox (j := 2) (u := .int .i64 (1 + x)) R5.out).all8 (Z5.out.setOther ⟨gr, 2, none⟩ (by show w.heap.size + 1 ≠ gr; omega) (.int .i64 (1 + x)))) (drawn3 NM'.out ⟨by omega, by omega⟩) (Cur.all8 (Cur.new (j := 2) (u := .int .i64 (1 + x)) C5.out (by omega)) (by omega)) (grown_all8 (grown_new (j := 2) (u := .int .i64 (1 + x)) G5.out (by omega)) (by omega))

set_option maxRecDepth 100000 in
set_option maxHeartbeats 8000000 in
theorem s_l4Make1 (g : Nat) (v : Value) (l : List RuleD) (lo : Nat) (hdr : Drawn l) (h10 : l.length ≤ 9) (w : World) (hc : Cur w g) (ho : OwnRules w lo v l) :
    Calls Tryz.prog 95 #[.pointer (some ⟨g, 0, none⟩), .agg #[v], .int .i64 1] w (DrewR 1 l g w) := by
  obtain ⟨A, c, rfl⟩ : ∃ A c, v = .slice A l.length c := by
    obtain ⟨A, c, h, _⟩ := ho.rd
    exact ⟨A, c, h⟩
  have hglt := hc.lt
  have DR := Lib.hid hdr
  have HO := Lib.hid ho
  have HC := Lib.hid hc
  obtain ⟨w1, hw1⟩ : ∃ w1, w1 = ((w.alloc (.cells #[.slice A l.length c] 35)).alloc (.cells #[.string ⟨#[]⟩, .int .i64 0, .int .i64 0, .bool false, .slice none 0 0, .slice none 0 0, .slice none 0 0, .slice none 0 0] 30)) := ⟨_, rfl⟩
  have B1 := Lib.hid (show Below w.heap.size w w1 by rw [hw1]; exact ((Below.refl _ _).alloc (Nat.le_refl _) _).alloc (by simp) _)
  have D1 := Lib.hid (show Box w1 w.heap.size 35 #[.slice A l.length c] by rw [hw1]; exact (Box.new w _ _).alloc _)
  have Z1 := Lib.hid (show Box w1 (w.heap.size + 1) 30 #[.string ⟨#[]⟩, .int .i64 0, .int .i64 0, .bool false, .slice none 0 0, .slice none 0 0, .slice none 0 0, .slice none 0 0] by rw [hw1]; exact box_new1 w _ _ _)
  have W1 := Lib.hid hw1
  have e1s : w1.heap.size = w.heap.size + 1 + 1 := by rw [hw1]; simp
  have ES1 := Lib.hid e1s
  have hnl := s_FormatInt (l.length : Int) ⟨by omega, by omega⟩
  obtain ⟨s2, hs2⟩ : ∃ s2, s2 = mkS (fmtInt (l.length : Int)) := ⟨_, rfl⟩
  have hsz2 : s2.size ≤ 20 := by rw [hs2, mkS_size]; exact fmtInt_len ⟨by omega, by omega⟩
  rw [← hs2] at hnl
  have FI := Lib.hid hnl
  have HS2 := Lib.hid hs2
  clear hdr hc ho hw1 e1s hnl hs2
  go_enter Tryz.func95, Tryz.ntmps95
  go_wp2_with fail
  rw [← W1.out, ← ES1.out]
  have hrd := Rd.lit w1 (cS makeNames) 9 5 rfl (by unfold maxLen; omega)
  refine (s_l1Str g _ makeNames (by decide) (by decide) _ ((HC.out.below B1.out).below ((Below.refl _ _).alloc (Nat.le_refl _) _)) hrd (by simp [Value.ownBlock]; have := B1.out.size; omega)).mono ?_
  rintro e w2 ⟨nm0, rfl, hmem, hc2, hg2⟩
  have hg12 : w1.grownBy w2 (some g) := grown_trans (grown_alloc (World.grownBy.refl w1 _) _) hg2
  have D2 := Lib.hid (D1.out.drawn hg12 (by omega))
  have Z2 := Lib.hid (Z1.out.drawn hg12 (by omega))
  have G2 := Lib.hid (grown_trans (grown_of_below B1.out) hg12)
  have C2 := Lib.hid hc2
  have hs12 := hg12.size
  obtain ⟨hnm, hsz0⟩ := name_of hmem HS2.out
  have NM := Lib.hid hnm
  clear hmem hc2 hg2 hg12 hnm hrd
  go_wp2_with fail
  refine (FI.out _).mono ?_
  rintro e w3 ⟨rfl, hb3⟩
  have D3 := Lib.hid (D2.out.below hb3)
  have Z3 := Lib.hid (Z2.out.below hb3)
  have G3 := Lib.hid (grown_then G2.out hb3)
  have C3 := Lib.hid (C2.out.below hb3)
  have hs23 := hb3.size
  have hlt3 : w.heap.size + 1 < w3.heap.size := Z3.out.lt
  have hov : ¬ (9223372036854775807 < nm0.size + s2.size) := by omega
  obtain ⟨w4, hw4⟩ : ∃ w4, w4 = w3.alloc (.cells #[.string (nm0 ++ s2), .int .i64 1, .int .i64 0, .bool false, .slice none 0 0, .slice none 0 0, .slice none 0 0, .slice none 0 0] 30) := ⟨_, rfl⟩
  obtain ⟨gr, hgr⟩ : ∃ gr, gr = w3.heap.size := ⟨_, rfl⟩
  have R4 := Lib.hid (show Box w4 gr 30 #[.string (nm0 ++ s2), .int .i64 1, .int .i64 0, .bool false, .slice none 0 0, .slice none 0 0, .slice none 0 0, .slice none 0 0] by rw [hw4, hgr]; exact Box.new _ _ _)
  have D4 := Lib.hid (show Box w4 w.heap.size 35 #[.slice A l.length c] by rw [hw4]; exact D3.out.alloc _)
  have Z4 := Lib.hid (show Box w4 (w.heap.size + 1) 30 #[.string ⟨#[]⟩, .int .i64 0, .int .i64 0, .bool false, .slice none 0 0, .slice none 0 0, .slice none 0 0, .slice none 0 0] by rw [hw4]; exact Z3.out.alloc _)
  have G4 := Lib.hid (show w.grownBy w4 (some g) by rw [hw4]; exact grown_alloc G3.out _)
  have C4 := Lib.hid (show Cur w4 g by rw [hw4]; exact C3.out.below ((Below.refl _ _).alloc (Nat.le_refl _) _))
  have hgl : w.heap.size + 1 < gr := by rw [hgr]; exact hlt3
  obtain ⟨nm, hnm⟩ : ∃ nm, nm = nm0 ++ s2 := ⟨_, rfl⟩
  have NM' := Lib.hid (show NameN l.length nm by rw [hnm]; exact NM.out)
  rw [← hnm] at R4 hw4
  have W4 := Lib.hid hw4
  have ES4 := Lib.hid (show w4.heap.size = gr + 1 by rw [hw4, hgr]; simp)
  have xr : (w3.alloc (.cells #[.string (nm0 ++ s2), .int .i64 1, .int .i64 0, .bool false, .slice none 0 0, .slice none 0 0, .slice none 0 0, .slice none 0 0] 30)).cell? ⟨w.heap.size, 0, none⟩ = some (.slice A l.length c) := (D3.out.alloc _).cell 0
  have HGR := Lib.hid hgr
  have HNM := Lib.hid hnm
  have x4 : w4.cell? ⟨w.heap.size, 0, none⟩ = some (.slice A l.length c) := D4.out.cell 0
  have y0 : w4.cell? ⟨gr, 0, none⟩ = some (.string nm) := R4.out.cell 0
  have f0 : w4.frozen? ⟨gr, 0, none⟩ = false := R4.out.frozen 0
  have y1 : w4.cell? ⟨gr, 1, none⟩ = some (.int .i64 1) := R4.out.cell 1
  have f1 : w4.frozen? ⟨gr, 1, none⟩ = false := R4.out.frozen 1
  have y2 : w4.cell? ⟨gr, 2, none⟩ = some (.int .i64 0) := R4.out.cell 2
  have f2 : w4.frozen? ⟨gr, 2, none⟩ = false := R4.out.frozen 2
  have y3 : w4.cell? ⟨gr, 3, none⟩ = some (.bool false) := R4.out.cell 3
  have f3 : w4.frozen? ⟨gr, 3, none⟩ = false := R4.out.frozen 3
  have y4 : w4.cell? ⟨gr, 4, none⟩ = some (.slice none 0 0) := R4.out.cell 4
  have f4 : w4.frozen? ⟨gr, 4, none⟩ = false := R4.out.frozen 4
  have y5 : w4.cell? ⟨gr, 5, none⟩ = some (.slice none 0 0) := R4.out.cell 5
  have f5 : w4.frozen? ⟨gr, 5, none⟩ = false := R4.out.frozen 5
  have y6 : w4.cell? ⟨gr, 6, none⟩ = some (.slice none 0 0) := R4.out.cell 6
  have f6 : w4.frozen? ⟨gr, 6, none⟩ = false := R4.out.frozen 6
  have y7 : w4.cell? ⟨gr, 7, none⟩ = some (.slice none 0 0) := R4.out.cell 7
  have f7 : w4.frozen? ⟨gr, 7, none⟩ = false := R4.out.frozen 7
  clear hb3 hgr hw4 hs12 hs23 hnm
  go_wp2_with fail
  rw [← HNM.out, ← W4.out, ← HGR.out]
  clear xr
  refine (s_l1Below g 3 (by omega) _ C4.out).mono ?_
  rintro e w5 ⟨x, rfl, ⟨hx1, hx2, _⟩, hc5, hg5⟩
  have hx3 := hx2 (by omega)
  have C5 := Lib.hid hc5
  have D5 := Lib.hid (D4.out.drawn hg5 (by omega))
  have R5 := Lib.hid (R4.out.drawn hg5 (by omega))
  have Z5 := Lib.hid (Z4.out.drawn hg5 (by omega))
  have G5 := Lib.hid (grown_trans G4.out hg5)
  have y0 : w5.cell? ⟨gr, 0, none⟩ = some (.string nm) := R5.out.cell 0
  have f0 : w5.frozen? ⟨gr, 0, none⟩ = false := R5.out.frozen 0
  have y1 : w5.cell? ⟨gr, 1, none⟩ = some (.int .i64 1) := R5.out.cell 1
  have f1 : w5.frozen? ⟨gr, 1, none⟩ = false := R5.out.frozen 1
  have y2 : w5.cell? ⟨gr, 2, none⟩ = some (.int .i64 0) := R5.out.cell 2
  have f2 : w5.frozen? ⟨gr, 2, none⟩ = false := R5.out.frozen 2
  have y3 : w5.cell? ⟨gr, 3, none⟩ = some (.bool false) := R5.out.cell 3
  have f3 : w5.frozen? ⟨gr, 3, none⟩ = false := R5.out.frozen 3
  have y4 : w5.cell? ⟨gr, 4, none⟩ = some (.slice none 0 0) := R5.out.cell 4
  have f4 : w5.frozen? ⟨gr, 4, none⟩ = false := R5.out.frozen 4
  have y5 : w5.cell? ⟨gr, 5, none⟩ = some (.slice none 0 0) := R5.out.cell 5
  have f5 : w5.frozen? ⟨gr, 5, none⟩ = false := R5.out.frozen 5
  have y6 : w5.cell? ⟨gr, 6, none⟩ = some (.slice none 0 0) := R5.out.cell 6
  have f6 : w5.frozen? ⟨gr, 6, none⟩ = false := R5.out.frozen 6
  have y7 : w5.cell? ⟨gr, 7, none⟩ = some (.slice none 0 0) := R5.out.cell 7
  have f7 : w5.frozen? ⟨gr, 7, none⟩ = false := R5.out.frozen 7
  clear hx2 hc5 hg5 x4
  by_cases h0 : x = 0
  · subst h0
    have z0 : w5.cell? ⟨w.heap.size + 1, 0, none⟩ = some (.string ⟨#[]⟩) := Z5.out.cell 0
    have q0 : w5.frozen? ⟨w.heap.size + 1, 0, none⟩ = false := Z5.out.frozen 0
    have z1 : w5.cell? ⟨w.heap.size + 1, 1, none⟩ = some (.int .i64 0) := Z5.out.cell 1
    have q1 : w5.frozen? ⟨w.heap.size + 1, 1, none⟩ = false := Z5.out.frozen 1
    have z2 : w5.cell? ⟨w.heap.size + 1, 2, none⟩ = some (.int .i64 0) := Z5.out.cell 2
    have q2 : w5.frozen? ⟨w.heap.size + 1, 2, none⟩ = false := Z5.out.frozen 2
    have z3 : w5.cell? ⟨w.heap.size + 1, 3, none⟩ = some (.bool false) := Z5.out.cell 3
    have q3 : w5.frozen? ⟨w.heap.size + 1, 3, none⟩ = false := Z5.out.frozen 3
    have z4 : w5.cell? ⟨w.heap.size + 1, 4, none⟩ = some (.slice none 0 0) := Z5.out.cell 4
    have q4 : w5.frozen? ⟨w.heap.size + 1, 4, none⟩ = false := Z5.out.frozen 4
    have z5 : w5.cell? ⟨w.heap.size + 1, 5, none⟩ = some (.slice none 0 0) := Z5.out.cell 5
    have q5 : w5.frozen? ⟨w.heap.size + 1, 5, none⟩ = false := Z5.out.frozen 5
    have z6 : w5.cell? ⟨w.heap.size + 1, 6, none⟩ = some (.slice none 0 0) := Z5.out.cell 6
    have q6 : w5.frozen? ⟨w.heap.size + 1, 6, none⟩ = false := Z5.out.frozen 6
    have z7 : w5.cell? ⟨w.heap.size + 1, 7, none⟩ = some (.slice none 0 0) := Z5.out.cell 7
    have q7 : w5.frozen? ⟨w.heap.size + 1, 7, none⟩ = false := Z5.out.frozen 7
    go_wp2_with fail
    refine bodyPost_ret (v := .agg #[.string nm, .int .i64 1, .int .i64 1, .bool false, .slice none 0 0, .slice none 0 0, .slice none 0 0, .slice none 0 0]) (by simp [results, Tryz.results95, go_sem, z0, z1, z2, z3, z4, z5, z6, z7]) rfl ?_
    exact DrewR.mk_ (r := ⟨nm, 1, 1, false, [], [], [], []⟩) ((((Rows4.nil w5 w.heap.size (r := ⟨nm, 1, 1, false, [], [], [], []⟩) rfl rfl rfl rfl).setBox (j := 2) (u := .int .i64 1) R5.out).setBox (j := 3) (u := .bool false) (R5.out.set 2 (.int .i64 1))).all8 ((Z5.out.setOther ⟨gr, 2, none⟩ (by show w.heap.size + 1 ≠ gr; omega) (.int .i64 1)).setOther ⟨gr, 3, none⟩ (by show w.heap.size + 1 ≠ gr; omega) (.bool false))) (drawn1 NM'.out ⟨by omega, by omega⟩ (fun h => by cases h)) (Cur.all8 (Cur.new (j := 3) (u := .bool false) (Cur.new (j := 2) (u := .int .i64 1) C5.out (by omega)) (by omega)) (by omega)) (grown_all8 (grown_new (j := 3) (u := .bool false) (grown_new (j := 2) (u := .int .i64 1) G5.out (by omega)) (by omega)) (by omega))
  · have d1 : decide ((1 : Int) < 1 + x) = true := by simp; omega
    have d2 : (1 : Int) < 1 + x := by omega
    have S6 := Lib.hid (show Box (w5.setCell ⟨gr, 2, none⟩ (.int .i64 (1 + x))) gr 30 #[.string nm, .int .i64 1, .int .i64 (1 + x), .bool false, .slice none 0 0, .slice none 0 0, .slice none 0 0, .slice none 0 0] from R5.out.set 2 _)
    have hc6 := C5.out.new (b := gr) (j := 2) (u := .int .i64 (1 + x)) (by omega)
    have G6 := Lib.hid (grown_new (j := 2) (u := .int .i64 (1 + x)) G5.out (show w.heap.size ≤ gr by omega))
    have Z6 := Lib.hid (Z5.out.setOther ⟨gr, 2, none⟩ (by show w.heap.size + 1 ≠ gr; omega) (.int .i64 (1 + x)))
    go_wp2_with fail
    refine (s_l1Once g 2 (by omega) _ hc6).mono ?_
    rintro e w7 ⟨li, rfl, hc7, hg7⟩
    have C7 := Lib.hid hc7
    have R7 := Lib.hid (S6.out.drawn hg7 (by omega))
    have Z7 := Lib.hid (Z6.out.drawn hg7 (by omega))
    have G7 := Lib.hid (grown_trans G6.out hg7)
    clear hc6 hc7 hg7 y0 f0 y1 f1 y2 f2 y3 f3 y4 f4 y5 f5 y6 f6 y7 f7
    have y0 : w7.cell? ⟨gr, 0, none⟩ = some (.string nm) := R7.out.cell 0
    have f0 : w7.frozen? ⟨gr, 0, none⟩ = false := R7.out.frozen 0
    have y1 : w7.cell? ⟨gr, 1, none⟩ = some (.int .i64 1) := R7.out.cell 1
    have f1 : w7.frozen? ⟨gr, 1, none⟩ = false := R7.out.frozen 1
    have y2 : w7.cell? ⟨gr, 2, none⟩ = some (.int .i64 (1 + x)) := R7.out.cell 2
    have f2 : w7.frozen? ⟨gr, 2, none⟩ = false := R7.out.frozen 2
    have y3 : w7.cell? ⟨gr, 3, none⟩ = some (.bool false) := R7.out.cell 3
    have f3 : w7.frozen? ⟨gr, 3, none⟩ = false := R7.out.frozen 3
    have y4 : w7.cell? ⟨gr, 4, none⟩ = some (.slice none 0 0) := R7.out.cell 4
    have f4 : w7.frozen? ⟨gr, 4, none⟩ = false := R7.out.frozen 4
    have y5 : w7.cell? ⟨gr, 5, none⟩ = some (.slice none 0 0) := R7.out.cell 5
    have f5 : w7.frozen? ⟨gr, 5, none⟩ = false := R7.out.frozen 5
    have y6 : w7.cell? ⟨gr, 6, none⟩ = some (.slice none 0 0) := R7.out.cell 6
    have f6 : w7.frozen? ⟨gr, 6, none⟩ = false := R7.out.frozen 6
    have y7 : w7.cell? ⟨gr, 7, none⟩ = some (.slice none 0 0) := R7.out.cell 7
    have f7 : w7.frozen? ⟨gr, 7, none⟩ = false := R7.out.frozen 7
    have z0 : w7.cell? ⟨w.heap.size + 1, 0, none⟩ = some (.string ⟨#[]⟩) := Z7.out.cell 0
    have q0 : w7.frozen? ⟨w.heap.size + 1, 0, none⟩ = false := Z7.out.frozen 0
    have z1 : w7.cell? ⟨w.heap.size + 1, 1, none⟩ = some (.int .i64 0) := Z7.out.cell 1
    have q1 : w7.frozen? ⟨w.heap.size + 1, 1, none⟩ = false := Z7.out.frozen 1
    have z2 : w7.cell? ⟨w.heap.size + 1, 2, none⟩ = some (.int .i64 0) := Z7.out.cell 2
    have q2 : w7.frozen? ⟨w.heap.size + 1, 2, none⟩ = false := Z7.out.frozen 2
    have z3 : w7.cell? ⟨w.heap.size + 1, 3, none⟩ = some (.bool false) := Z7.out.cell 3
    have q3 : w7.frozen? ⟨w.heap.size + 1, 3, none⟩ = false := Z7.out.frozen 3
    have z4 : w7.cell? ⟨w.heap.size + 1, 4, none⟩ = some (.slice none 0 0) := Z7.out.cell 4
    have q4 : w7.frozen? ⟨w.heap.size + 1, 4, none⟩ = false := Z7.out.frozen 4
    have z5 : w7.cell? ⟨w.heap.size + 1, 5, none⟩ = some (.slice none 0 0) := Z7.out.cell 5
    have q5 : w7.frozen? ⟨w.heap.size + 1, 5, none⟩ = false := Z7.out.frozen 5
    have z6 : w7.cell? ⟨w.heap.size + 1, 6, none⟩ = some (.slice none 0 0) := Z7.out.cell 6
    have q6 : w7.frozen? ⟨w.heap.size + 1, 6, none⟩ = false := Z7.out.frozen 6
    have z7 : w7.cell? ⟨w.heap.size + 1, 7, none⟩ = some (.slice none 0 0) := Z7.out.cell 7
    have q7 : w7.frozen? ⟨w.heap.size + 1, 7, none⟩ = false := Z7.out.frozen 7
    go_wp2_with fail
    refine bodyPost_ret (v := .agg #[.string nm, .int .i64 1, .int .i64 (1 + x), .bool li, .slice none 0 0, .slice none 0 0, .slice none 0 0, .slice none 0 0]) (by simp [results, Tryz.results95, go_sem, z0, z1, z2, z3, z4, z5, z6, z7]) rfl ?_
    exact DrewR.mk_ (r := ⟨nm, 1, (1 + x), li, [], [], [], []⟩) (((Rows4.nil w7 w.heap.size (r := ⟨nm, 1, (1 + x), li, [], [], [], []⟩) rfl rfl rfl rfl).setBox (j := 3) (u := .bool li) R7.out).all8 (Z7.out.setOther ⟨gr, 3, none⟩ (by show w.heap.size + 1 ≠ gr; omega) (.bool li))) (drawn1 NM'.out ⟨by omega, by omega⟩ (fun _ => by omega)) (Cur.all8 (Cur.new (j := 3) (u := .bool li) C7.out (by omega)) (by omega)) (grown_all8 (grown_new (j := 3) (u := .bool li) G7.out (by omega)) (by omega))

set_option maxRecDepth 100000 in
set_option maxHeartbeats 8000000 in
theorem s_l4Make2 (g : Nat) (v : Value) (l : List RuleD) (lo : Nat) (hdr : Drawn l) (h10 : l.length ≤ 9) (w : World) (hc : Cur w g) (ho : OwnRules w lo v l) :
    Calls Tryz.prog 95 #[.pointer (some ⟨g, 0, none⟩), .agg #[v], .int .i64 2] w (DrewR 2 l g w) := by
  obtain ⟨A, c, rfl⟩ : ∃ A c, v = .slice A l.length c := by
    obtain ⟨A, c, h, _⟩ := ho.rd
    exact ⟨A, c, h⟩
  have hglt := hc.lt
  have DR := Lib.hid hdr
  have HO := Lib.hid ho
  have HC := Lib.hid hc
  obtain ⟨w1, hw1⟩ : ∃ w1, w1 = ((w.alloc (.cells #[.slice A l.length c] 35)).alloc (.cells #[.string ⟨#[]⟩, .int .i64 0, .int .i64 0, .bool false, .slice none 0 0, .slice none 0 0, .slice none 0 0, .slice none 0 0] 30)) := ⟨_, rfl⟩
  have B1 := Lib.hid (show Below w.heap.size w w1 by rw [hw1]; exact ((Below.refl _ _).alloc (Nat.le_refl _) _).alloc (by simp) _)
  have D1 := Lib.hid (show Box w1 w.heap.size 35 #[.slice A l.length c] by rw [hw1]; exact (Box.new w _ _).alloc _)
  have Z1 := Lib.hid (show Box w1 (w.heap.size + 1) 30 #[.string ⟨#[]⟩, .int .i64 0, .int .i64 0, .bool false, .slice none 0 0, .slice none 0 0, .slice none 0 0, .slice none 0 0] by rw [hw1]; exact box_new1 w _ _ _)
  have W1 := Lib.hid hw1
  have e1s : w1.heap.size = w.heap.size + 1 + 1 := by rw [hw1]; simp
  have ES1 := Lib.hid e1s
  have hnl := s_FormatInt (l.length : Int) ⟨by omega, by omega⟩
  obtain ⟨s2, hs2⟩ : ∃ s2, s2 = mkS (fmtInt (l.length : Int)) := ⟨_, rfl⟩
  have hsz2 : s2.size ≤ 20 := by rw [hs2, mkS_size]; exact fmtInt_len ⟨by omega, by omega⟩
  rw [← hs2] at hnl
  have FI := Lib.hid hnl
  have HS2 := Lib.hid hs2
  clear hdr hc ho hw1 e1s hnl hs2
  go_enter Tryz.func95, Tryz.ntmps95
  go_wp2_with fail
  rw [← W1.out, ← ES1.out]
  have hrd := Rd.lit w1 (cS makeNames) 9 5 rfl (by unfold maxLen; omega)
  refine (s_l1Str g _ makeNames (by decide) (by decide) _ ((HC.out.below B1.out).below ((Below.refl _ _).alloc (Nat.le_refl _) _)) hrd (by simp [Value.ownBlock]; have := B1.out.size; omega)).mono ?_
  rintro e w2 ⟨nm0, rfl, hmem, hc2, hg2⟩
  have hg12 : w1.grownBy w2 (some g) := grown_trans (grown_alloc (World.grownBy.refl w1 _) _) hg2
  have D2 := Lib.hid (D1.out.drawn hg12 (by omega))
  have Z2 := Lib.hid (Z1.out.drawn hg12 (by omega))
  have G2 := Lib.hid (grown_trans (grown_of_below B1.out) hg12)
  have C2 := Lib.hid hc2
  have hs12 := hg12.size
  obtain ⟨hnm, hsz0⟩ := name_of hmem HS2.out
  have NM := Lib.hid hnm
  clear hmem hc2 hg2 hg12 hnm hrd
  go_wp2_with fail
  refine (FI.out _).mono ?_
  rintro e w3 ⟨rfl, hb3⟩
  have D3 := Lib.hid (D2.out.below hb3)
  have Z3 := Lib.hid (Z2.out.below hb3)
  have G3 := Lib.hid (grown_then G2.out hb3)
  have C3 := Lib.hid (C2.out.below hb3)
  have hs23 := hb3.size
  have hlt3 : w.heap.size + 1 < w3.heap.size := Z3.out.lt
  have hov : ¬ (9223372036854775807 < nm0.size + s2.size) := by omega
  obtain ⟨w4, hw4⟩ : ∃ w4, w4 = w3.alloc (.cells #[.string (nm0 ++ s2), .int .i64 2, .int .i64 0, .bool false, .slice none 0 0, .slice none 0 0, .slice none 0 0, .slice none 0 0] 30) := ⟨_, rfl⟩
  obtain ⟨gr, hgr⟩ : ∃ gr, gr = w3.heap.size := ⟨_, rfl⟩
  have R4 := Lib.hid (show Box w4 gr 30 #[.string (nm0 ++ s2), .int .i64 2, .int .i64 0, .bool false, .slice none 0 0, .slice none 0 0, .slice none 0 0, .slice none 0 0] by rw [hw4, hgr]; exact Box.new _ _ _)
  have D4 := Lib.hid (show Box w4 w.heap.size 35 #[.slice A l.length c] by rw [hw4]; exact D3.out.alloc _)
  have Z4 := Lib.hid (show Box w4 (w.heap.size + 1) 30 #[.string ⟨#[]⟩, .int .i64 0, .int .i64 0, .bool false, .slice none 0 0, .slice none 0 0, .slice none 0 0, .slice none 0 0] by rw [hw4]; exact Z3.out.alloc _)
  have G4 := Lib.hid (show w.grownBy w4 (some g) by rw [hw4]; exact grown_alloc G3.out _)
  have C4 := Lib.hid (show Cur w4 g by rw [hw4]; exact C3.out.below ((Below.refl _ _).alloc (Nat.le_refl _) _))
  have hgl : w.heap.size + 1 < gr := by rw [hgr]; exact hlt3
  obtain ⟨nm, hnm⟩ : ∃ nm, nm = nm0 ++ s2 := ⟨_, rfl⟩
  have NM' := Lib.hid (show NameN l.length nm by rw [hnm]; exact NM.out)
  rw [← hnm] at R4 hw4
  have W4 := Lib.hid hw4
  have ES4 := Lib.hid (show w4.heap.size = gr + 1 by rw [hw4, hgr]; simp)
  have xr : (w3.alloc (.cells #[.string (nm0 ++ s2), .int .i64 2, .int .i64 0, .bool false, .slice none 0 0, .slice none 0 0, .slice none 0 0, .slice none 0 0] 30)).cell? ⟨w.heap.size, 0, none⟩ = some (.slice A l.length c) := (D3.out.alloc _).cell 0
  have HGR := Lib.hid hgr
  have HNM := Lib.hid hnm
  have x4 : w4.cell? ⟨w.heap.size, 0, none⟩ = some (.slice A l.length c) := D4.out.cell 0
  have y0 : w4.cell? ⟨gr, 0, none⟩ = some (.string nm) := R4.out.cell 0
  have f0 : w4.frozen? ⟨gr, 0, none⟩ = false := R4.out.frozen 0
  have y1 : w4.cell? ⟨gr, 1, none⟩ = some (.int .i64 2) := R4.out.cell 1
  have f1 : w4.frozen? ⟨gr, 1, none⟩ = false := R4.out.frozen 1
  have y2 : w4.cell? ⟨gr, 2, none⟩ = some (.int .i64 0) := R4.out.cell 2
  have f2 : w4.frozen? ⟨gr, 2, none⟩ = false := R4.out.frozen 2
  have y3 : w4.cell? ⟨gr, 3, none⟩ = some (.bool false) := R4.out.cell 3
  have f3 : w4.frozen? ⟨gr, 3, none⟩ = false := R4.out.frozen 3
  have y4 : w4.cell? ⟨gr, 4, none⟩ = some (.slice none 0 0) := R4.out.cell 4
  have f4 : w4.frozen? ⟨gr, 4, none⟩ = false := R4.out.frozen 4
  have y5 : w4.cell? ⟨gr, 5, none⟩ = some (.slice none 0 0) := R4.out.cell 5
  have f5 : w4.frozen? ⟨gr, 5, none⟩ = false := R4.out.frozen 5
  have y6 : w4.cell? ⟨gr, 6, none⟩ = some (.slice none 0 0) := R4.out.cell 6
  have f6 : w4.frozen? ⟨gr, 6, none⟩ = false := R4.out.frozen 6
  have y7 : w4.cell? ⟨gr, 7, none⟩ = some (.slice none 0 0) := R4.out.cell 7
  have f7 : w4.frozen? ⟨gr, 7, none⟩ = false := R4.out.frozen 7
  clear hb3 hgr hw4 hs12 hs23 hnm
  go_wp2_with fail
  rw [← HNM.out, ← W4.out, ← HGR.out]
  clear xr
  refine (s_l1Below g 3 (by omega) _ C4.out).mono ?_
  rintro e w5 ⟨x, rfl, ⟨hx1, hx2, _⟩, hc5, hg5⟩
  have hx3 := hx2 (by omega)
  have C5 := Lib.hid hc5
  have D5 := Lib.hid (D4.out.drawn hg5 (by omega))
  have R5 := Lib.hid (R4.out.drawn hg5 (by omega))
  have Z5 := Lib.hid (Z4.out.drawn hg5 (by omega))
  have G5 := Lib.hid (grown_trans G4.out hg5)
  clear hx2 hc5 hg5 x4 y0 f0 y1 f1 y2 f2 y3 f3 y4 f4 y5 f5 y6 f6 y7 f7
  go_wp2_with fail
  refine (s_l1Bytes g (1 + x) (by omega) (by omega) _ C5.out).mono ?_
  rintro e w6 ⟨v6, bs, rfl, hlen, hov, hc6, hg6⟩
  have C6 := Lib.hid hc6
  have D6 := Lib.hid (D5.out.drawn hg6 (by omega))
  have R6 := Lib.hid (R5.out.drawn hg6 (by omega))
  have Z6 := Lib.hid (Z5.out.drawn hg6 (by omega))
  have G6 := Lib.hid (grown_trans G5.out hg6)
  have OV := Lib.hid (own_mono hov G5.out.size)
  obtain ⟨_, A6, c6, rfl, _, _, _⟩ := Rd.of_own hov
  have HL := Lib.hid hlen
  have y0 : w6.cell? ⟨gr, 0, none⟩ = some (.string nm) := R6.out.cell 0
  have f0 : w6.frozen? ⟨gr, 0, none⟩ = false := R6.out.frozen 0
  have y1 : w6.cell? ⟨gr, 1, none⟩ = some (.int .i64 2) := R6.out.cell 1
  have f1 : w6.frozen? ⟨gr, 1, none⟩ = false := R6.out.frozen 1
  have y2 : w6.cell? ⟨gr, 2, none⟩ = some (.int .i64 0) := R6.out.cell 2
  have f2 : w6.frozen? ⟨gr, 2, none⟩ = false := R6.out.frozen 2
  have y3 : w6.cell? ⟨gr, 3, none⟩ = some (.bool false) := R6.out.cell 3
  have f3 : w6.frozen? ⟨gr, 3, none⟩ = false := R6.out.frozen 3
  have y4 : w6.cell? ⟨gr, 4, none⟩ = some (.slice none 0 0) := R6.out.cell 4
  have f4 : w6.frozen? ⟨gr, 4, none⟩ = false := R6.out.frozen 4
  have y5 : w6.cell? ⟨gr, 5, none⟩ = some (.slice none 0 0) := R6.out.cell 5
  have f5 : w6.frozen? ⟨gr, 5, none⟩ = false := R6.out.frozen 5
  have y6 : w6.cell? ⟨gr, 6, none⟩ = some (.slice none 0 0) := R6.out.cell 6
  have f6 : w6.frozen? ⟨gr, 6, none⟩ = false := R6.out.frozen 6
  have y7 : w6.cell? ⟨gr, 7, none⟩ = some (.slice none 0 0) := R6.out.cell 7
  have f7 : w6.frozen? ⟨gr, 7, none⟩ = false := R6.out.frozen 7
  clear hc6 hg6 hov hlen
  have z0 : w6.cell? ⟨w.heap.size + 1, 0, none⟩ = some (.string ⟨#[]⟩) := Z6.out.cell 0
  have q0 : w6.frozen? ⟨w.heap.size + 1, 0, none⟩ = false := Z6.out.frozen 0
  have z1 : w6.cell? ⟨w.heap.size + 1, 1, none⟩ = some (.int .i64 0) := Z6.out.cell 1
  have q1 : w6.frozen? ⟨w.heap.size + 1, 1, none⟩ = false := Z6.out.frozen 1
  have z2 : w6.cell? ⟨w.heap.size + 1, 2, none⟩ = some (.int .i64 0) := Z6.out.cell 2
  have q2 : w6.frozen? ⟨w.heap.size + 1, 2, none⟩ = false := Z6.out.frozen 2
  have z3 : w6.cell? ⟨w.heap.size + 1, 3, none⟩ = some (.bool false) := Z6.out.cell 3
  have q3 : w6.frozen? ⟨w.heap.size + 1, 3, none⟩ = false := Z6.out.frozen 3
  have z4 : w6.cell? ⟨w.heap.size + 1, 4, none⟩ = some (.slice none 0 0) := Z6.out.cell 4
  have q4 : w6.frozen? ⟨w.heap.size + 1, 4, none⟩ = false := Z6.out.frozen 4
  have z5 : w6.cell? ⟨w.heap.size + 1, 5, none⟩ = some (.slice none 0 0) := Z6.out.cell 5
  have q5 : w6.frozen? ⟨w.heap.size + 1, 5, none⟩ = false := Z6.out.frozen 5
  have z6 : w6.cell? ⟨w.heap.size + 1, 6, none⟩ = some (.slice none 0 0) := Z6.out.cell 6
  have q6 : w6.frozen? ⟨w.heap.size + 1, 6, none⟩ = false := Z6.out.frozen 6
  have z7 : w6.cell? ⟨w.heap.size + 1, 7, none⟩ = some (.slice none 0 0) := Z6.out.cell 7
  have q7 : w6.frozen? ⟨w.heap.size + 1, 7, none⟩ = false := Z6.out.frozen 7
  go_wp2_with fail
  refine bodyPost_ret (v := .agg #[.string nm, .int .i64 2, .int .i64 0, .bool false, .slice A6 bs.length c6, .slice none 0 0, .slice none 0 0, .slice none 0 0]) (by simp [results, Tryz.results95, go_sem, z0, z1, z2, z3, z4, z5, z6, z7]) rfl ?_
  exact DrewR.mk_ (r := ⟨nm, 2, 0, false, bs, [], [], []⟩) (((show Rows4 w6 w.heap.size ⟨nm, 2, 0, false, bs, [], [], []⟩ (.slice A6 bs.length c6) (.slice none 0 0) (.slice none 0 0) (.slice none 0 0) from ⟨OV.out, World.ownsRow_nil _ _ _ _, World.ownsRow_nil _ _ _ _, World.ownsRow_nil _ _ _ _, .inl rfl⟩).setBox (j := 4) (u := .slice A6 bs.length c6) R6.out).all8 (Z6.out.setOther ⟨gr, 4, none⟩ (by show w.heap.size + 1 ≠ gr; omega) (.slice A6 bs.length c6))) (drawn2 NM'.out (by have h := HL.out; omega)) (Cur.all8 (Cur.new (j := 4) (u := .slice A6 bs.length c6) C6.out (by omega)) (by omega)) (grown_all8 (grown_new (j := 4) (u := .slice A6 bs.length c6) G6.out (by omega)) (by omega))

set_option maxRecDepth 100000 in
set_option maxHeartbeats 8000000 in
theorem s_l4Make4 (g : Nat) (v : Value) (l : List RuleD) (lo : Nat) (hdr : Drawn l) (h10 : l.length ≤ 9) (hpos : 0 < l.length) (w : World) (hc : Cur w g) (ho : OwnRules w lo v l) :
    Calls Tryz.prog 95 #[.pointer (some ⟨g, 0, none⟩), .agg #[v], .int .i64 4] w (DrewR 4 l g w) := by
  obtain ⟨A, c, rfl⟩ : ∃ A c, v = .slice A l.length c := by
    obtain ⟨A, c, h, _⟩ := ho.rd
    exact ⟨A, c, h⟩
  have hglt := hc.lt
  have DR := Lib.hid hdr
  have HO := Lib.hid ho
  have HC := Lib.hid hc
  obtain ⟨w1, hw1⟩ : ∃ w1, w1 = ((w.alloc (.cells #[.slice A l.length c] 35)).alloc (.cells #[.string ⟨#[]⟩, .int .i64 0, .int .i64 0, .bool false, .slice none 0 0, .slice none 0 0, .slice none 0 0, .slice none 0 0] 30)) := ⟨_, rfl⟩
  have B1 := Lib.hid (show Below w.heap.size w w1 by rw [hw1]; exact ((Below.refl _ _).alloc (Nat.le_refl _) _).alloc (by simp) _)
  have D1 := Lib.hid (show Box w1 w.heap.size 35 #[.slice A l.length c] by rw [hw1]; exact (Box.new w _ _).alloc _)
  have Z1 := Lib.hid (show Box w1 (w.heap.size + 1) 30 #[.string ⟨#[]⟩, .int .i64 0, .int .i64 0, .bool false, .slice none 0 0, .slice none 0 0, .slice none 0 0, .slice none 0 0] by rw [hw1]; exact box_new1 w _ _ _)
  have W1 := Lib.hid hw1
  have e1s : w1.heap.size = w.heap.size + 1 + 1 := by rw [hw1]; simp
  have ES1 := Lib.hid e1s
  have hnl := s_FormatInt (l.length : Int) ⟨by omega, by omega⟩
  obtain ⟨s2, hs2⟩ : ∃ s2, s2 = mkS (fmtInt (l.length : Int)) := ⟨_, rfl⟩
  have hsz2 : s2.size ≤ 20 := by rw [hs2, mkS_size]; exact fmtInt_len ⟨by omega, by omega⟩
  rw [← hs2] at hnl
  have FI := Lib.hid hnl
  have HS2 := Lib.hid hs2
  clear hdr hc ho hw1 e1s hnl hs2
  go_enter Tryz.func95, Tryz.ntmps95
  go_wp2_with fail
  rw [← W1.out, ← ES1.out]
  have hrd := Rd.lit w1 (cS makeNames) 9 5 rfl (by unfold maxLen; omega)
  refine (s_l1Str g _ makeNames (by decide) (by decide) _ ((HC.out.below B1.out).below ((Below.refl _ _).alloc (Nat.le_refl _) _)) hrd (by simp [Value.ownBlock]; have := B1.out.size; omega)).mono ?_
  rintro e w2 ⟨nm0, rfl, hmem, hc2, hg2⟩
  have hg12 : w1.grownBy w2 (some g) := grown_trans (grown_alloc (World.grownBy.refl w1 _) _) hg2
  have D2 := Lib.hid (D1.out.drawn hg12 (by omega))
  have Z2 := Lib.hid (Z1.out.drawn hg12 (by omega))
  have G2 := Lib.hid (grown_trans (grown_of_below B1.out) hg12)
  have C2 := Lib.hid hc2
  have hs12 := hg12.size
  obtain ⟨hnm, hsz0⟩ := name_of hmem HS2.out
  have NM := Lib.hid hnm
  clear hmem hc2 hg2 hg12 hnm hrd
  go_wp2_with fail
  refine (FI.out _).mono ?_
  rintro e w3 ⟨rfl, hb3⟩
  have D3 := Lib.hid (D2.out.below hb3)
  have Z3 := Lib.hid (Z2.out.below hb3)
  have G3 := Lib.hid (grown_then G2.out hb3)
  have C3 := Lib.hid (C2.out.below hb3)
  have hs23 := hb3.size
  have hlt3 : w.heap.size + 1 < w3.heap.size := Z3.out.lt
  have hov : ¬ (9223372036854775807 < nm0.size + s2.size) := by omega
  obtain ⟨w4, hw4⟩ : ∃ w4, w4 = w3.alloc (.cells #[.string (nm0 ++ s2), .int .i64 4, .int .i64 0, .bool false, .slice none 0 0, .slice none 0 0, .slice none 0 0, .slice none 0 0] 30) := ⟨_, rfl⟩
  obtain ⟨gr, hgr⟩ : ∃ gr, gr = w3.heap.size := ⟨_, rfl⟩
  have R4 := Lib.hid (show Box w4 gr 30 #[.string (nm0 ++ s2), .int .i64 4, .int .i64 0, .bool false, .slice none 0 0, .slice none 0 0, .slice none 0 0, .slice none 0 0] by rw [hw4, hgr]; exact Box.new _ _ _)
  have D4 := Lib.hid (show Box w4 w.heap.size 35 #[.slice A l.length c] by rw [hw4]; exact D3.out.alloc _)
  have Z4 := Lib.hid (show Box w4 (w.heap.size + 1) 30 #[.string ⟨#[]⟩, .int .i64 0, .int .i64 0, .bool false, .slice none 0 0, .slice none 0 0, .slice none 0 0, .slice none 0 0] by rw [hw4]; exact Z3.out.alloc _)
  have G4 := Lib.hid (show w.grownBy w4 (some g) by rw [hw4]; exact grown_alloc G3.out _)
  have C4 := Lib.hid (show Cur w4 g by rw [hw4]; exact C3.out.below ((Below.refl _ _).alloc (Nat.le_refl _) _))
  have hgl : w.heap.size + 1 < gr := by rw [hgr]; exact hlt3
  obtain ⟨nm, hnm⟩ : ∃ nm, nm = nm0 ++ s2 := ⟨_, rfl⟩
  have NM' := Lib.hid (show NameN l.length nm by rw [hnm]; exact NM.out)
  rw [← hnm] at R4 hw4
  have W4 := Lib.hid hw4
  have ES4 := Lib.hid (show w4.heap.size = gr + 1 by rw [hw4, hgr]; simp)
  have xr : (w3.alloc (.cells #[.string (nm0 ++ s2), .int .i64 4, .int .i64 0, .bool false, .slice none 0 0, .slice none 0 0, .slice none 0 0, .slice none 0 0] 30)).cell? ⟨w.heap.size, 0, none⟩ = some (.slice A l.length c) := (D3.out.alloc _).cell 0
  have HGR := Lib.hid hgr
  have HNM := Lib.hid hnm
  have x4 : w4.cell? ⟨w.heap.size, 0, none⟩ = some (.slice A l.length c) := D4.out.cell 0
  have y0 : w4.cell? ⟨gr, 0, none⟩ = some (.string nm) := R4.out.cell 0
  have f0 : w4.frozen? ⟨gr, 0, none⟩ = false := R4.out.frozen 0
  have y1 : w4.cell? ⟨gr, 1, none⟩ = some (.int .i64 4) := R4.out.cell 1
  have f1 : w4.frozen? ⟨gr, 1, none⟩ = false := R4.out.frozen 1
  have y2 : w4.cell? ⟨gr, 2, none⟩ = some (.int .i64 0) := R4.out.cell 2
  have f2 : w4.frozen? ⟨gr, 2, none⟩ = false := R4.out.frozen 2
  have y3 : w4.cell? ⟨gr, 3, none⟩ = some (.bool false) := R4.out.cell 3
  have f3 : w4.frozen? ⟨gr, 3, none⟩ = false := R4.out.frozen 3
  have y4 : w4.cell? ⟨gr, 4, none⟩ = some (.slice none 0 0) := R4.out.cell 4
  have f4 : w4.frozen? ⟨gr, 4, none⟩ = false := R4.out.frozen 4
  have y5 : w4.cell? ⟨gr, 5, none⟩ = some (.slice none 0 0) := R4.out.cell 5
  have f5 : w4.frozen? ⟨gr, 5, none⟩ = false := R4.out.frozen 5
  have y6 : w4.cell? ⟨gr, 6, none⟩ = some (.slice none 0 0) := R4.out.cell 6
  have f6 : w4.frozen? ⟨gr, 6, none⟩ = false := R4.out.frozen 6
  have y7 : w4.cell? ⟨gr, 7, none⟩ = some (.slice none 0 0) := R4.out.cell 7
  have f7 : w4.frozen? ⟨gr, 7, none⟩ = false := R4.out.frozen 7
  clear hb3 hgr hw4 hs12 hs23 hnm
  have IN := Lib.hid (fun (w' : World) (hc : Cur w' g) (hk : w.grownBy w' (some g)) => s_l4Integer g (.slice A l.length c) l hpos (by omega) (DR.out.first hpos) w' hc ((HO.out.drawn HC.out hk).rd))
  go_wp2_with fail
  rw [← HNM.out, ← W4.out, ← HGR.out]
  clear xr
  refine (IN.out _ C4.out G4.out).mono ?_
  rintro e w5 ⟨k0, rfl, hk0, hc5, hg5⟩
  have C5 := Lib.hid hc5
  have K0 := Lib.hid hk0
  have D5 := Lib.hid (D4.out.drawn hg5 (by omega))
  have R5 := Lib.hid (R4.out.drawn hg5 (by omega))
  have Z5 := Lib.hid (Z4.out.drawn hg5 (by omega))
  have G5 := Lib.hid (grown_trans G4.out hg5)
  clear hc5 hg5 x4 hk0 y0 f0 y1 f1 y2 f2 y3 f3 y4 f4 y5 f5 y6 f6 y7 f7
  obtain ⟨w7, hw7⟩ : ∃ w7, w7 = w5.alloc (.cells #[.int .i64 k0] 3) := ⟨_, rfl⟩
  have b7 : Below w5.heap.size w5 w7 := by rw [hw7]; exact (Below.refl _ _).alloc (Nat.le_refl _) _
  have C7 := Lib.hid (C5.out.below b7)
  have R7 := Lib.hid (R5.out.below b7)
  have Z7 := Lib.hid (Z5.out.below b7)
  have G7 := Lib.hid (grown_then G5.out b7)
  have OV := Lib.hid (show w7.ownsRow w.heap.size 3 1 (.slice (some ⟨w5.heap.size, 0, none⟩) 1 1) 1 (cI [k0]) by rw [hw7]; exact World.ownsRow_lit w5 _ 1 G5.out.size (by unfold maxLen; omega) rfl)
  have R7r := R7.out
  have Z7r := Z7.out
  rw [hw7] at R7r Z7r
  have W7 := Lib.hid hw7
  have y0 : (w5.alloc (.cells #[.int .i64 k0] 3)).cell? ⟨gr, 0, none⟩ = some (.string nm) := R7r.cell 0
  have f0 : (w5.alloc (.cells #[.int .i64 k0] 3)).frozen? ⟨gr, 0, none⟩ = false := R7r.frozen 0
  have y1 : (w5.alloc (.cells #[.int .i64 k0] 3)).cell? ⟨gr, 1, none⟩ = some (.int .i64 4) := R7r.cell 1
  have f1 : (w5.alloc (.cells #[.int .i64 k0] 3)).frozen? ⟨gr, 1, none⟩ = false := R7r.frozen 1
  have y2 : (w5.alloc (.cells #[.int .i64 k0] 3)).cell? ⟨gr, 2, none⟩ = some (.int .i64 0) := R7r.cell 2
  have f2 : (w5.alloc (.cells #[.int .i64 k0] 3)).frozen? ⟨gr, 2, none⟩ = false := R7r.frozen 2
  have y3 : (w5.alloc (.cells #[.int .i64 k0] 3)).cell? ⟨gr, 3, none⟩ = some (.bool false) := R7r.cell 3
  have f3 : (w5.alloc (.cells #[.int .i64 k0] 3)).frozen? ⟨gr, 3, none⟩ = false := R7r.frozen 3
  have y4 : (w5.alloc (.cells #[.int .i64 k0] 3)).cell? ⟨gr, 4, none⟩ = some (.slice none 0 0) := R7r.cell 4
  have f4 : (w5.alloc (.cells #[.int .i64 k0] 3)).frozen? ⟨gr, 4, none⟩ = false := R7r.frozen 4
  have y5 : (w5.alloc (.cells #[.int .i64 k0] 3)).cell? ⟨gr, 5, none⟩ = some (.slice none 0 0) := R7r.cell 5
  have f5 : (w5.alloc (.cells #[.int .i64 k0] 3)).frozen? ⟨gr, 5, none⟩ = false := R7r.frozen 5
  have y6 : (w5.alloc (.cells #[.int .i64 k0] 3)).cell? ⟨gr, 6, none⟩ = some (.slice none 0 0) := R7r.cell 6
  have f6 : (w5.alloc (.cells #[.int .i64 k0] 3)).frozen? ⟨gr, 6, none⟩ = false := R7r.frozen 6
  have y7 : (w5.alloc (.cells #[.int .i64 k0] 3)).cell? ⟨gr, 7, none⟩ = some (.slice none 0 0) := R7r.cell 7
  have f7 : (w5.alloc (.cells #[.int .i64 k0] 3)).frozen? ⟨gr, 7, none⟩ = false := R7r.frozen 7
  have z0 : (w5.alloc (.cells #[.int .i64 k0] 3)).cell? ⟨w.heap.size + 1, 0, none⟩ = some (.string ⟨#[]⟩) := Z7r.cell 0
  have q0 : (w5.alloc (.cells #[.int .i64 k0] 3)).frozen? ⟨w.heap.size + 1, 0, none⟩ = false := Z7r.frozen 0
  have z1 : (w5.alloc (.cells #[.int .i64 k0] 3)).cell? ⟨w.heap.size + 1, 1, none⟩ = some (.int .i64 0) := Z7r.cell 1
  have q1 : (w5.alloc (.cells #[.int .i64 k0] 3)).frozen? ⟨w.heap.size + 1, 1, none⟩ = false := Z7r.frozen 1
  have z2 : (w5.alloc (.cells #[.int .i64 k0] 3)).cell? ⟨w.heap.size + 1, 2, none⟩ = some (.int .i64 0) := Z7r.cell 2
  have q2 : (w5.alloc (.cells #[.int .i64 k0] 3)).frozen? ⟨w.heap.size + 1, 2, none⟩ = false := Z7r.frozen 2
  have z3 : (w5.alloc (.cells #[.int .i64 k0] 3)).cell? ⟨w.heap.size + 1, 3, none⟩ = some (.bool false) := Z7r.cell 3
  have q3 : (w5.alloc (.cells #[.int .i64 k0] 3)).frozen? ⟨w.heap.size + 1, 3, none⟩ = false := Z7r.frozen 3
  have z4 : (w5.alloc (.cells #[.int .i64 k0] 3)).cell? ⟨w.heap.size + 1, 4, none⟩ = some (.slice none 0 0) := Z7r.cell 4
  have q4 : (w5.alloc (.cells #[.int .i64 k0] 3)).frozen? ⟨w.heap.size + 1, 4, none⟩ = false := Z7r.frozen 4
  have z5 : (w5.alloc (.cells #[.int .i64 k0] 3)).cell? ⟨w.heap.size + 1, 5, none⟩ = some (.slice none 0 0) := Z7r.cell 5
  have q5 : (w5.alloc (.cells #[.int .i64 k0] 3)).frozen? ⟨w.heap.size + 1, 5, none⟩ = false := Z7r.frozen 5
  have z6 : (w5.alloc (.cells #[.int .i64 k0] 3)).cell? ⟨w.heap.size + 1, 6, none⟩ = some (.slice none 0 0) := Z7r.cell 6
  have q6 : (w5.alloc (.cells #[.int .i64 k0] 3)).frozen? ⟨w.heap.size + 1, 6, none⟩ = false := Z7r.frozen 6
  have z7 : (w5.alloc (.cells #[.int .i64 k0] 3)).cell? ⟨w.heap.size + 1, 7, none⟩ = some (.slice none 0 0) := Z7r.cell 7
  have q7 : (w5.alloc (.cells #[.int .i64 k0] 3)).frozen? ⟨w.heap.size + 1, 7, none⟩ = false := Z7r.frozen 7
  clear hw7 b7 R7r Z7r
  go_wp2_with fail
  rw [← W7.out]
  have z0 : w7.cell? ⟨w.heap.size + 1, 0, none⟩ = some (.string ⟨#[]⟩) := Z7.out.cell 0
  have z1 : w7.cell? ⟨w.heap.size + 1, 1, none⟩ = some (.int .i64 0) := Z7.out.cell 1
  have z2 : w7.cell? ⟨w.heap.size + 1, 2, none⟩ = some (.int .i64 0) := Z7.out.cell 2
  have z3 : w7.cell? ⟨w.heap.size + 1, 3, none⟩ = some (.bool false) := Z7.out.cell 3
  have z4 : w7.cell? ⟨w.heap.size + 1, 4, none⟩ = some (.slice none 0 0) := Z7.out.cell 4
  have z5 : w7.cell? ⟨w.heap.size + 1, 5, none⟩ = some (.slice none 0 0) := Z7.out.cell 5
  have z6 : w7.cell? ⟨w.heap.size + 1, 6, none⟩ = some (.slice none 0 0) := Z7.out.cell 6
  have z7 : w7.cell? ⟨w.heap.size + 1, 7, none⟩ = some (.slice none 0 0) := Z7.out.cell 7
  refine bodyPost_ret (v := .agg #[.string nm, .int .i64 4, .int .i64 0, .bool false, .slice none 0 0, .slice none 0 0, .slice none 0 0, .slice (some ⟨w5.heap.size, 0, none⟩) 1 1]) (by simp [results, Tryz.results95, go_sem, z0, z1, z2, z3, z4, z5, z6, z7]) rfl ?_
  exact DrewR.mk_ (r := ⟨nm, 4, 0, false, [], [], [], [k0]⟩) (((show Rows4 w7 w.heap.size ⟨nm, 4, 0, false, [], [], [], [k0]⟩ (.slice none 0 0) (.slice none 0 0) (.slice none 0 0) (.slice (some ⟨w5.heap.size, 0, none⟩) 1 1) from ⟨World.ownsRow_nil _ _ _ _, World.ownsRow_nil _ _ _ _, World.ownsRow_nil _ _ _ _, OV.out, .inl rfl⟩).setBox (j := 7) (u := .slice (some ⟨w5.heap.size, 0, none⟩) 1 1) R7.out).all8 (Z7.out.setOther ⟨gr, 7, none⟩ (by show w.heap.size + 1 ≠ gr; omega) (.slice (some ⟨w5.heap.size, 0, none⟩) 1 1))) (drawn4 DR.out NM'.out K0.out) (Cur.all8 (Cur.new (j := 7) (u := .slice (some ⟨w5.heap.size, 0, none⟩) 1 1) C7.out (by omega)) (by omega)) (grown_all8 (grown_new (j := 7) (u := .slice (some ⟨w5.heap.size, 0, none⟩) 1 1) G7.out (by omega)) (by omega))

set_option maxRecDepth 100000 in
set_option maxHeartbeats 8000000 in
theorem s_l4Make5 (g : Nat) (v : Value) (l : List RuleD) (lo : Nat) (hdr : Drawn l) (h10 : l.length ≤ 9) (hpos : 0 < l.length) (w : World) (hc : Cur w g) (ho : OwnRules w lo v l) :
    Calls Tryz.prog 95 #[.pointer (some ⟨g, 0, none⟩), .agg #[v], .int .i64 5] w (DrewR 5 l g w) := by
  obtain ⟨A, c, rfl⟩ : ∃ A c, v = .slice A l.length c := by
    obtain ⟨A, c, h, _⟩ := ho.rd
    exact ⟨A, c, h⟩
  have hglt := hc.lt
  have DR := Lib.hid hdr
  have HO := Lib.hid ho
  have HC := Lib.hid hc
  obtain ⟨w1, hw1⟩ : ∃ w1, w1 = ((w.alloc (.cells #[.slice A l.length c] 35)).alloc (.cells #[.string ⟨#[]⟩, .int .i64 0, .int .i64 0, .bool false, .slice none 0 0, .slice none 0 0, .slice none 0 0, .slice none 0 0] 30)) := ⟨_, rfl⟩
  have B1 := Lib.hid (show Below w.heap.size w w1 by rw [hw1]; exact ((Below.refl _ _).alloc (Nat.le_refl _) _).alloc (by simp) _)
  have D1 := Lib.hid (show Box w1 w.heap.size 35 #[.slice A l.length c] by rw [hw1]; exact (Box.new w _ _).alloc _)
  have Z1 := Lib.hid (show Box w1 (w.heap.size + 1) 30 #[.string ⟨#[]⟩, .int .i64 0, .int .i64 0, .bool false, .slice none 0 0, .slice none 0 0, .slice none 0 0, .slice none 0 0] by rw [hw1]; exact box_new1 w _ _ _)
  have W1 := Lib.hid hw1
  have e1s : w1.heap.size = w.heap.size + 1 + 1 := by rw [hw1]; simp
  have ES1 := Lib.hid e1s
  have hnl := s_FormatInt (l.length : Int) ⟨by omega, by omega⟩
  obtain ⟨s2, hs2⟩ : ∃ s2, s2 = mkS (fmtInt (l.length : Int)) := ⟨_, rfl⟩
  have hsz2 : s2.size ≤ 20 := by rw [hs2, mkS_size]; exact fmtInt_len ⟨by omega, by omega⟩
  rw [← hs2] at hnl
  have FI := Lib.hid hnl
  have HS2 := Lib.hid hs2
  clear hdr hc ho hw1 e1s hnl hs2
  go_enter Tryz.func95, Tryz.ntmps95
  go_wp2_with fail
  rw [← W1.out, ← ES1.out]
  have hrd := Rd.lit w1 (cS makeNames) 9 5 rfl (by unfold maxLen; omega)
  refine (s_l1Str g _ makeNames (by decide) (by decide) _ ((HC.out.below B1.out).below ((Below.refl _ _).alloc (Nat.le_refl _) _)) hrd (by simp [Value.ownBlock]; have := B1.out.size; omega)).mono ?_
  rintro e w2 ⟨nm0, rfl, hmem, hc2, hg2⟩
  have hg12 : w1.grownBy w2 (some g) := grown_trans (grown_alloc (World.grownBy.refl w1 _) _) hg2
  have D2 := Lib.hid (D1.out.drawn hg12 (by omega))
  have Z2 := Lib.hid (Z1.out.drawn hg12 (by omega))
  have G2 := Lib.hid (grown_trans (grown_of_below B1.out) hg12)
  have C2 := Lib.hid hc2
  have hs12 := hg12.size
  obtain ⟨hnm, hsz0⟩ := name_of hmem HS2.out
  have NM := Lib.hid hnm
  clear hmem hc2 hg2 hg12 hnm hrd
  go_wp2_with fail
  refine (FI.out _).mono ?_
  rintro e w3 ⟨rfl, hb3⟩
  have D3 := Lib.hid (D2.out.below hb3)
  have Z3 := Lib.hid (Z2.out.below hb3)
  have G3 := Lib.hid (grown_then G2.out hb3)
  have C3 := Lib.hid (C2.out.below hb3)
  have hs23 := hb3.size
  have hlt3 : w.heap.size + 1 < w3.heap.size := Z3.out.lt
  have hov : ¬ (9223372036854775807 < nm0.size + s2.size) := by omega
  obtain ⟨w4, hw4⟩ : ∃ w4, w4 = w3.alloc (.cells #[.string (nm0 ++ s2), .int .i64 5, .int .i64 0, .bool false, .slice none 0 0, .slice none 0 0, .slice none 0 0, .slice none 0 0] 30) := ⟨_, rfl⟩
  obtain ⟨gr, hgr⟩ : ∃ gr, gr = w3.heap.size := ⟨_, rfl⟩
  have R4 := Lib.hid (show Box w4 gr 30 #[.string (nm0 ++ s2), .int .i64 5, .int .i64 0, .bool false, .slice none 0 0, .slice none 0 0, .slice none 0 0, .slice none 0 0] by rw [hw4, hgr]; exact Box.new _ _ _)
  have D4 := Lib.hid (show Box w4 w.heap.size 35 #[.slice A l.length c] by rw [hw4]; exact D3.out.alloc _)
  have Z4 := Lib.hid (show Box w4 (w.heap.size + 1) 30 #[.string ⟨#[]⟩, .int .i64 0, .int .i64 0, .bool false, .slice none 0 0, .slice none 0 0, .slice none 0 0, .slice none 0 0] by rw [hw4]; exact Z3.out.alloc _)
  have G4 := Lib.hid (show w.grownBy w4 (some g) by rw [hw4]; exact grown_alloc G3.out _)
  have C4 := Lib.hid (show Cur w4 g by rw [hw4]; exact C3.out.below ((Below.refl _ _).alloc (Nat.le_refl _) _))
  have hgl : w.heap.size + 1 < gr := by rw [hgr]; exact hlt3
  obtain ⟨nm, hnm⟩ : ∃ nm, nm = nm0 ++ s2 := ⟨_, rfl⟩
  have NM' := Lib.hid (show NameN l.length nm by rw [hnm]; exact NM.out)
  rw [← hnm] at R4 hw4
  have W4 := Lib.hid hw4
  have ES4 := Lib.hid (show w4.heap.size = gr + 1 by rw [hw4, hgr]; simp)
  have xr : (w3.alloc (.cells #[.string (nm0 ++ s2), .int .i64 5, .int .i64 0, .bool false, .slice none 0 0, .slice none 0 0, .slice none 0 0, .slice none 0 0] 30)).cell? ⟨w.heap.size, 0, none⟩ = some (.slice A l.length c) := (D3.out.alloc _).cell 0
  have HGR := Lib.hid hgr
  have HNM := Lib.hid hnm
  have x4 : w4.cell? ⟨w.heap.size, 0, none⟩ = some (.slice A l.length c) := D4.out.cell 0
  have y0 : w4.cell? ⟨gr, 0, none⟩ = some (.string nm) := R4.out.cell 0
  have f0 : w4.frozen? ⟨gr, 0, none⟩ = false := R4.out.frozen 0
  have y1 : w4.cell? ⟨gr, 1, none⟩ = some (.int .i64 5) := R4.out.cell 1
  have f1 : w4.frozen? ⟨gr, 1, none⟩ = false := R4.out.frozen 1
  have y2 : w4.cell? ⟨gr, 2, none⟩ = some (.int .i64 0) := R4.out.cell 2
  have f2 : w4.frozen? ⟨gr, 2, none⟩ = false := R4.out.frozen 2
  have y3 : w4.cell? ⟨gr, 3, none⟩ = some (.bool false) := R4.out.cell 3
  have f3 : w4.frozen? ⟨gr, 3, none⟩ = false := R4.out.frozen 3
  have y4 : w4.cell? ⟨gr, 4, none⟩ = some (.slice none 0 0) := R4.out.cell 4
  have f4 : w4.frozen? ⟨gr, 4, none⟩ = false := R4.out.frozen 4
  have y5 : w4.cell? ⟨gr, 5, none⟩ = some (.slice none 0 0) := R4.out.cell 5
  have f5 : w4.frozen? ⟨gr, 5, none⟩ = false := R4.out.frozen 5
  have y6 : w4.cell? ⟨gr, 6, none⟩ = some (.slice none 0 0) := R4.out.cell 6
  have f6 : w4.frozen? ⟨gr, 6, none⟩ = false := R4.out.frozen 6
  have y7 : w4.cell? ⟨gr, 7, none⟩ = some (.slice none 0 0) := R4.out.cell 7
  have f7 : w4.frozen? ⟨gr, 7, none⟩ = false := R4.out.frozen 7
  clear hb3 hgr hw4 hs12 hs23 hnm
  have IN := Lib.hid (fun (w' : World) (hc : Cur w' g) (hk : w.grownBy w' (some g)) => s_l4Integer g (.slice A l.length c) l hpos (by omega) (DR.out.first hpos) w' hc ((HO.out.drawn HC.out hk).rd))
  go_wp2_with fail
  rw [← HNM.out, ← W4.out, ← HGR.out]
  clear xr
  refine (IN.out _ C4.out G4.out).mono ?_
  rintro e w5 ⟨k0, rfl, hk0, hc5, hg5⟩
  have C5 := Lib.hid hc5
  have K0 := Lib.hid hk0
  have D5 := Lib.hid (D4.out.drawn hg5 (by omega))
  have R5 := Lib.hid (R4.out.drawn hg5 (by omega))
  have Z5 := Lib.hid (Z4.out.drawn hg5 (by omega))
  have G5 := Lib.hid (grown_trans G4.out hg5)
  clear hc5 hg5 x4 hk0 y0 f0 y1 f1 y2 f2 y3 f3 y4 f4 y5 f5 y6 f6 y7 f7
  go_wp2_with fail
  refine (s_l1Below g (l.length : Int) (by omega) _ C5.out).mono ?_
  rintro e w6 ⟨j0, rfl, ⟨hj1, hj2, _⟩, hc6, hg6⟩
  have hj3 := hj2 (by omega)
  have C6 := Lib.hid hc6
  have D6 := Lib.hid (D5.out.drawn hg6 (by omega))
  have R6 := Lib.hid (R5.out.drawn hg6 (by omega))
  have Z6 := Lib.hid (Z5.out.drawn hg6 (by omega))
  have G6 := Lib.hid (grown_trans G5.out hg6)
  clear hj2 hc6 hg6 
  obtain ⟨w7, hw7⟩ : ∃ w7, w7 = w6.alloc (.cells #[.int .i64 k0, .int .i64 j0] 3) := ⟨_, rfl⟩
  have b7 : Below w6.heap.size w6 w7 := by rw [hw7]; exact (Below.refl _ _).alloc (Nat.le_refl _) _
  have C7 := Lib.hid (C6.out.below b7)
  have R7 := Lib.hid (R6.out.below b7)
  have Z7 := Lib.hid (Z6.out.below b7)
  have G7 := Lib.hid (grown_then G6.out b7)
  have OV := Lib.hid (show w7.ownsRow w.heap.size 3 1 (.slice (some ⟨w6.heap.size, 0, none⟩) 2 2) 2 (cI [k0, j0]) by rw [hw7]; exact World.ownsRow_lit w6 _ 2 G6.out.size (by unfold maxLen; omega) rfl)
  have R7r := R7.out
  have Z7r := Z7.out
  rw [hw7] at R7r Z7r
  have W7 := Lib.hid hw7
  have y0 : (w6.alloc (.cells #[.int .i64 k0, .int .i64 j0] 3)).cell? ⟨gr, 0, none⟩ = some (.string nm) := R7r.cell 0
  have f0 : (w6.alloc (.cells #[.int .i64 k0, .int .i64 j0] 3)).frozen? ⟨gr, 0, none⟩ = false := R7r.frozen 0
  have y1 : (w6.alloc (.cells #[.int .i64 k0, .int .i64 j0] 3)).cell? ⟨gr, 1, none⟩ = some (.int .i64 5) := R7r.cell 1
  have f1 : (w6.alloc (.cells #[.int .i64 k0, .int .i64 j0] 3)).frozen? ⟨gr, 1, none⟩ = false := R7r.frozen 1
  have y2 : (w6.alloc (.cells #[.int .i64 k0, .int .i64 j0] 3)).cell? ⟨gr, 2, none⟩ = some (.int .i64 0) := R7r.cell 2
  have f2 : (w6.alloc (.cells #[.int .i64 k0, .int .i64 j0] 3)).frozen? ⟨gr, 2, none⟩ = false := R7r.frozen 2
  have y3 : (w6.alloc (.cells #[.int .i64 k0, .int .i64 j0] 3)).cell? ⟨gr, 3, none⟩ = some (.bool false) := R7r.cell 3
  have f3 : (w6.alloc (.cells #[.int .i64 k0, .int .i64 j0] 3)).frozen? ⟨gr, 3, none⟩ = false := R7r.frozen 3
  have y4 : (w6.alloc (.cells #[.int .i64 k0, .int .i64 j0] 3)).cell? ⟨gr, 4, none⟩ = some (.slice none 0 0) := R7r.cell 4
  have f4 : (w6.alloc (.cells #[.int .i64 k0, .int .i64 j0] 3)).frozen? ⟨gr, 4, none⟩ = false := R7r.frozen 4
  have y5 : (w6.alloc (.cells #[.int .i64 k0, .int .i64 j0] 3)).cell? ⟨gr, 5, none⟩ = some (.slice none 0 0) := R7r.cell 5
  have f5 : (w6.alloc (.cells #[.int .i64 k0, .int .i64 j0] 3)).frozen? ⟨gr, 5, none⟩ = false := R7r.frozen 5
  have y6 : (w6.alloc (.cells #[.int .i64 k0, .int .i64 j0] 3)).cell? ⟨gr, 6, none⟩ = some (.slice none 0 0) := R7r.cell 6
  have f6 : (w6.alloc (.cells #[.int .i64 k0, .int .i64 j0] 3)).frozen? ⟨gr, 6, none⟩ = false := R7r.frozen 6
  have y7 : (w6.alloc (.cells #[.int .i64 k0, .int .i64 j0] 3)).cell? ⟨gr, 7, none⟩ = some (.slice none 0 0) := R7r.cell 7
  have f7 : (w6.alloc (.cells #[.int .i64 k0, .int .i64 j0] 3)).frozen? ⟨gr, 7, none⟩ = false := R7r.frozen 7
  have z0 : (w6.alloc (.cells #[.int .i64 k0, .int .i64 j0] 3)).cell? ⟨w.heap.size + 1, 0, none⟩ = some (.string ⟨#[]⟩) := Z7r.cell 0
  have q0 : (w6.alloc (.cells #[.int .i64 k0, .int .i64 j0] 3)).frozen? ⟨w.heap.size + 1, 0, none⟩ = false := Z7r.frozen 0
  have z1 : (w6.alloc (.cells #[.int .i64 k0, .int .i64 j0] 3)).cell? ⟨w.heap.size + 1, 1, none⟩ = some (.int .i64 0) := Z7r.cell 1
  have q1 : (w6.alloc (.cells #[.int .i64 k0, .int .i64 j0] 3)).frozen? ⟨w.heap.size + 1, 1, none⟩ = false := Z7r.frozen 1
  have z2 : (w6.alloc (.cells #[.int .i64 k0, .int .i64 j0] 3)).cell? ⟨w.heap.size + 1, 2, none⟩ = some (.int .i64 0) := Z7r.cell 2
  have q2 : (w6.alloc (.cells #[.int .i64 k0, .int .i64 j0] 3)).frozen? ⟨w.heap.size + 1, 2, none⟩ = false := Z7r.frozen 2
  have z3 : (w6.alloc (.cells #[.int .i64 k0, .int .i64 j0] 3)).cell? ⟨w.heap.size + 1, 3, none⟩ = some (.bool false) := Z7r.cell 3
  have q3 : (w6.alloc (.cells #[.int .i64 k0, .int .i64 j0] 3)).frozen? ⟨w.heap.size + 1, 3, none⟩ = false := Z7r.frozen 3
  have z4 : (w6.alloc (.cells #[.int .i64 k0, .int .i64 j0] 3)).cell? ⟨w.heap.size + 1, 4, none⟩ = some (.slice none 0 0) := Z7r.cell 4
  have q4 : (w6.alloc (.cells #[.int .i64 k0, .int .i64 j0] 3)).frozen? ⟨w.heap.size + 1, 4, none⟩ = false := Z7r.frozen 4
  have z5 : (w6.alloc (.cells #[.int .i64 k0, .int .i64 j0] 3)).cell? ⟨w.heap.size + 1, 5, none⟩ = some (.slice none 0 0) := Z7r.cell 5
  have q5 : (w6.alloc (.cells #[.int .i64 k0, .int .i64 j0] 3)).frozen? ⟨w.heap.size + 1, 5, none⟩ = false := Z7r.frozen 5
  have z6 : (w6.alloc (.cells #[.int .i64 k0, .int .i64 j0] 3)).cell? ⟨w.heap.size + 1, 6, none⟩ = some (.slice none 0 0) := Z7r.cell 6
  have q6 : (w6.alloc (.cells #[.int .i64 k0, .int .i64 j0] 3)).frozen? ⟨w.heap.size + 1, 6, none⟩ = false := Z7r.frozen 6
  have z7 : (w6.alloc (.cells #[.int .i64 k0, .int .i64 j0] 3)).cell? ⟨w.heap.size + 1, 7, none⟩ = some (.slice none 0 0) := Z7r.cell 7
  have q7 : (w6.alloc (.cells #[.int .i64 k0, .int .i64 j0] 3)).frozen? ⟨w.heap.size + 1, 7, none⟩ = false := Z7r.frozen 7
  clear hw7 b7 R7r Z7r
  go_wp2_with fail
  rw [← W7.out]
  have z0 : w7.cell? ⟨w.heap.size + 1, 0, none⟩ = some (.string ⟨#[]⟩) := Z7.out.cell 0
  have z1 : w7.cell? ⟨w.heap.size + 1, 1, none⟩ = some (.int .i64 0) := Z7.out.cell 1
  have z2 : w7.cell? ⟨w.heap.size + 1, 2, none⟩ = some (.int .i64 0) := Z7.out.cell 2
  have z3 : w7.cell? ⟨w.heap.size + 1, 3, none⟩ = some (.bool false) := Z7.out.cell 3
  have z4 : w7.cell? ⟨w.heap.size + 1, 4, none⟩ = some (.slice none 0 0) := Z7.out.cell 4
  have z5 : w7.cell? ⟨w.heap.size + 1, 5, none⟩ = some (.slice none 0 0) := Z7.out.cell 5
  have z6 : w7.cell? ⟨w.heap.size + 1, 6, none⟩ = some (.slice none 0 0) := Z7.out.cell 6
  have z7 : w7.cell? ⟨w.heap.size + 1, 7, none⟩ = some (.slice none 0 0) := Z7.out.cell 7
  refine bodyPost_ret (v := .agg #[.string nm, .int .i64 5, .int .i64 0, .bool false, .slice none 0 0, .slice none 0 0, .slice none 0 0, .slice (some ⟨w6.heap.size, 0, none⟩) 2 2]) (by simp [results, Tryz.results95, go_sem, z0, z1, z2, z3, z4, z5, z6, z7]) rfl ?_
  exact DrewR.mk_ (r := ⟨nm, 5, 0, false, [], [], [], [k0, j0]⟩) (((show Rows4 w7 w.heap.size ⟨nm, 5, 0, false, [], [], [], [k0, j0]⟩ (.slice none 0 0) (.slice none 0 0) (.slice none 0 0) (.slice (some ⟨w6.heap.size, 0, none⟩) 2 2) from ⟨World.ownsRow_nil _ _ _ _, World.ownsRow_nil _ _ _ _, World.ownsRow_nil _ _ _ _, OV.out, .inl rfl⟩).setBox (j := 7) (u := .slice (some ⟨w6.heap.size, 0, none⟩) 2 2) R7.out).all8 (Z7.out.setOther ⟨gr, 7, none⟩ (by show w.heap.size + 1 ≠ gr; omega) (.slice (some ⟨w6.heap.size, 0, none⟩) 2 2))) (drawn5 DR.out NM'.out K0.out ⟨hj1, hj3⟩) (Cur.all8 (Cur.new (j := 7) (u := .slice (some ⟨w6.heap.size, 0, none⟩) 2 2) C7.out (by omega)) (by omega)) (grown_all8 (grown_new (j := 7) (u := .slice (some ⟨w6.heap.size, 0, none⟩) 2 2) G7.out (by omega)) (by omega))

set_option maxRecDepth 100000 in
set_option maxHeartbeats 8000000 in
theorem s_l4Make8 (g : Nat) (v : Value) (l : List RuleD) (lo : Nat) (hdr : Drawn l) (h10 : l.length ≤ 9) (hpos : 0 < l.length) (w : World) (hc : Cur w g) (ho : OwnRules w lo v l) :
    Calls Tryz.prog 95 #[.pointer (some ⟨g, 0, none⟩), .agg #[v], .int .i64 8] w (DrewR 8 l g w) := by
  obtain ⟨A, c, rfl⟩ : ∃ A c, v = .slice A l.length c := by
    obtain ⟨A, c, h, _⟩ := ho.rd
    exact ⟨A, c, h⟩
  have hglt := hc.lt
  have DR := Lib.hid hdr
  have HO := Lib.hid ho
  have HC := Lib.hid hc
  obtain ⟨w1, hw1⟩ : ∃ w1, w1 = ((w.alloc (.cells #[.slice A l.length c] 35)).alloc (.cells #[.string ⟨#[]⟩, .int .i64 0, .int .i64 0, .bool false, .slice none 0 0, .slice none 0 0, .slice none 0 0, .slice none 0 0] 30)) := ⟨_, rfl⟩
  have B1 := Lib.hid (show Below w.heap.size w w1 by rw [hw1]; exact ((Below.refl _ _).alloc (Nat.le_refl _) _).alloc (by simp) _)
  have D1 := Lib.hid (show Box w1 w.heap.size 35 #[.slice A l.length c] by rw [hw1]; exact (Box.new w _ _).alloc _)
  have Z1 := Lib.hid (show Box w1 (w.heap.size + 1) 30 #[.string ⟨#[]⟩, .int .i64 0, .int .i64 0, .bool false, .slice none 0 0, .slice none 0 0, .slice none 0 0, .slice none 0 0] by rw [hw1]; exact box_new1 w _ _ _)
  have W1 := Lib.hid hw1
  have e1s : w1.heap.size = w.heap.size + 1 + 1 := by rw [hw1]; simp
  have ES1 := Lib.hid e1s
  have hnl := s_FormatInt (l.length : Int) ⟨by omega, by omega⟩
  obtain ⟨s2, hs2⟩ : ∃ s2, s2 = mkS (fmtInt (l.length : Int)) := ⟨_, rfl⟩
  have hsz2 : s2.size ≤ 20 := by rw [hs2, mkS_size]; exact fmtInt_len ⟨by omega, by omega⟩
  rw [← hs2] at hnl
  have FI := Lib.hid hnl
  have HS2 := Lib.hid hs2
  clear hdr hc ho hw1 e1s hnl hs2
  go_enter Tryz.func95, Tryz.ntmps95
  go_wp2_with fail
  rw [← W1.out, ← ES1.out]
  have hrd := Rd.lit w1 (cS makeNames) 9 5 rfl (by unfold maxLen; omega)
  refine (s_l1Str g _ makeNames (by decide) (by decide) _ ((HC.out.below B1.out).below ((Below.refl _ _).alloc (Nat.le_refl _) _)) hrd (by simp [Value.ownBlock]; have := B1.out.size; omega)).mono ?_
  rintro e w2 ⟨nm0, rfl, hmem, hc2, hg2⟩
  have hg12 : w1.grownBy w2 (some g) := grown_trans (grown_alloc (World.grownBy.refl w1 _) _) hg2
  have D2 := Lib.hid (D1.out.drawn hg12 (by omega))
  have Z2 := Lib.hid (Z1.out.drawn hg12 (by omega))
  have G2 := Lib.hid (grown_trans (grown_of_below B1.out) hg12)
  have C2 := Lib.hid hc2
  have hs12 := hg12.size
  obtain ⟨hnm, hsz0⟩ := name_of hmem HS2.out
  have NM := Lib.hid hnm
  clear hmem hc2 hg2 hg12 hnm hrd
  go_wp2_with fail
  refine (FI.out _).mono ?_
  rintro e w3 ⟨rfl, hb3⟩
  have D3 := Lib.hid (D2.out.below hb3)
  have Z3 := Lib.hid (Z2.out.below hb3)
  have G3 := Lib.hid (grown_then G2.out hb3)
  have C3 := Lib.hid (C2.out.below hb3)
  have hs23 := hb3.size
  have hlt3 : w.heap.size + 1 < w3.heap.size := Z3.out.lt
  have hov : ¬ (9223372036854775807 < nm0.size + s2.size) := by omega
  obtain ⟨w4, hw4⟩ : ∃ w4, w4 = w3.alloc (.cells #[.string (nm0 ++ s2), .int .i64 8, .int .i64 0, .bool false, .slice none 0 0, .slice none 0 0, .slice none 0 0, .slice none 0 0] 30) := ⟨_, rfl⟩
  obtain ⟨gr, hgr⟩ : ∃ gr, gr = w3.heap.size := ⟨_, rfl⟩
  have R4 := Lib.hid (show Box w4 gr 30 #[.string (nm0 ++ s2), .int .i64 8, .int .i64 0, .bool false, .slice none 0 0, .slice none 0 0, .slice none 0 0, .slice none 0 0] by rw [hw4, hgr]; exact Box.new _ _ _)
  have D4 := Lib.hid (show Box w4 w.heap.size 35 #[.slice A l.length c] by rw [hw4]; exact D3.out.alloc _)
  have Z4 := Lib.hid (show Box w4 (w.heap.size + 1) 30 #[.string ⟨#[]⟩, .int .i64 0, .int .i64 0, .bool false, .slice none 0 0, .slice none 0 0, .slice none 0 0, .slice none 0 0] by rw [hw4]; exact Z3.out.alloc _)
  have G4 := Lib.hid (show w.grownBy w4 (some g) by rw [hw4]; exact grown_alloc G3.out _)
  have C4 := Lib.hid (show Cur w4 g by rw [hw4]; exact C3.out.below ((Below.refl _ _).alloc (Nat.le_refl _) _))
  have hgl : w.heap.size + 1 < gr := by rw [hgr]; exact hlt3
  obtain ⟨nm, hnm⟩ : ∃ nm, nm = nm0 ++ s2 := ⟨_, rfl⟩
  have NM' := Lib.hid (show NameN l.length nm by rw [hnm]; exact NM.out)
  rw [← hnm] at R4 hw4
  have W4 := Lib.hid hw4
  have ES4 := Lib.hid (show w4.heap.size = gr + 1 by rw [hw4, hgr]; simp)
  have xr : (w3.alloc (.cells #[.string (nm0 ++ s2), .int .i64 8, .int .i64 0, .bool false, .slice none 0 0, .slice none 0 0, .slice none 0 0, .slice none 0 0] 30)).cell? ⟨w.heap.size, 0, none⟩ = some (.slice A l.length c) := (D3.out.alloc _).cell 0
  have HGR := Lib.hid hgr
  have HNM := Lib.hid hnm
  have x4 : w4.cell? ⟨w.heap.size, 0, none⟩ = some (.slice A l.length c) := D4.out.cell 0
  have y0 : w4.cell? ⟨gr, 0, none⟩ = some (.string nm) := R4.out.cell 0
  have f0 : w4.frozen? ⟨gr, 0, none⟩ = false := R4.out.frozen 0
  have y1 : w4.cell? ⟨gr, 1, none⟩ = some (.int .i64 8) := R4.out.cell 1
  have f1 : w4.frozen? ⟨gr, 1, none⟩ = false := R4.out.frozen 1
  have y2 : w4.cell? ⟨gr, 2, none⟩ = some (.int .i64 0) := R4.out.cell 2
  have f2 : w4.frozen? ⟨gr, 2, none⟩ = false := R4.out.frozen 2
  have y3 : w4.cell? ⟨gr, 3, none⟩ = some (.bool false) := R4.out.cell 3
  have f3 : w4.frozen? ⟨gr, 3, none⟩ = false := R4.out.frozen 3
  have y4 : w4.cell? ⟨gr, 4, none⟩ = some (.slice none 0 0) := R4.out.cell 4
  have f4 : w4.frozen? ⟨gr, 4, none⟩ = false := R4.out.frozen 4
  have y5 : w4.cell? ⟨gr, 5, none⟩ = some (.slice none 0 0) := R4.out.cell 5
  have f5 : w4.frozen? ⟨gr, 5, none⟩ = false := R4.out.frozen 5
  have y6 : w4.cell? ⟨gr, 6, none⟩ = some (.slice none 0 0) := R4.out.cell 6
  have f6 : w4.frozen? ⟨gr, 6, none⟩ = false := R4.out.frozen 6
  have y7 : w4.cell? ⟨gr, 7, none⟩ = some (.slice none 0 0) := R4.out.cell 7
  have f7 : w4.frozen? ⟨gr, 7, none⟩ = false := R4.out.frozen 7
  clear hb3 hgr hw4 hs12 hs23 hnm
  go_wp2_with fail
  rw [← HNM.out, ← W4.out, ← HGR.out]
  clear xr
  refine (s_l1Below g (l.length : Int) (by omega) _ C4.out).mono ?_
  rintro e w5 ⟨j0, rfl, ⟨hj1, hj2, _⟩, hc5, hg5⟩
  have hj3 := hj2 (by omega)
  have C5 := Lib.hid hc5
  have D5 := Lib.hid (D4.out.drawn hg5 (by omega))
  have R5 := Lib.hid (R4.out.drawn hg5 (by omega))
  have Z5 := Lib.hid (Z4.out.drawn hg5 (by omega))
  have G5 := Lib.hid (grown_trans G4.out hg5)
  clear hj2 hc5 hg5 x4 y0 f0 y1 f1 y2 f2 y3 f3 y4 f4 y5 f5 y6 f6 y7 f7
  obtain ⟨w7, hw7⟩ : ∃ w7, w7 = w5.alloc (.cells #[.int .i64 j0] 3) := ⟨_, rfl⟩
  have b7 : Below w5.heap.size w5 w7 := by rw [hw7]; exact (Below.refl _ _).alloc (Nat.le_refl _) _
  have C7 := Lib.hid (C5.out.below b7)
  have R7 := Lib.hid (R5.out.below b7)
  have Z7 := Lib.hid (Z5.out.below b7)
  have G7 := Lib.hid (grown_then G5.out b7)
  have OV := Lib.hid (show w7.ownsRow w.heap.size 3 1 (.slice (some ⟨w5.heap.size, 0, none⟩) 1 1) 1 (cI [j0]) by rw [hw7]; exact World.ownsRow_lit w5 _ 1 G5.out.size (by unfold maxLen; omega) rfl)
  have R7r := R7.out
  have Z7r := Z7.out
  rw [hw7] at R7r Z7r
  have W7 := Lib.hid hw7
  have y0 : (w5.alloc (.cells #[.int .i64 j0] 3)).cell? ⟨gr, 0, none⟩ = some (.string nm) := R7r.cell 0
  have f0 : (w5.alloc (.cells #[.int .i64 j0] 3)).frozen? ⟨gr, 0, none⟩ = false := R7r.frozen 0
  have y1 : (w5.alloc (.cells #[.int .i64 j0] 3)).cell? ⟨gr, 1, none⟩ = some (.int .i64 8) := R7r.cell 1
  have f1 : (w5.alloc (.cells #[.int .i64 j0] 3)).frozen? ⟨gr, 1, none⟩ = false := R7r.frozen 1
  have y2 : (w5.alloc (.cells #[.int .i64 j0] 3)).cell? ⟨gr, 2, none⟩ = some (.int .i64 0) := R7r.cell 2
  have f2 : (w5.alloc (.cells #[.int .i64 j0] 3)).frozen? ⟨gr, 2, none⟩ = false := R7r.frozen 2
  have y3 : (w5.alloc (.cells #[.int .i64 j0] 3)).cell? ⟨gr, 3, none⟩ = some (.bool false) := R7r.cell 3
  have f3 : (w5.alloc (.cells #[.int .i64 j0] 3)).frozen? ⟨gr, 3, none⟩ = false := R7r.frozen 3
  have y4 : (w5.alloc (.cells #[.int .i64 j0] 3)).cell? ⟨gr, 4, none⟩ = some (.slice none 0 0) := R7r.cell 4
  have f4 : (w5.alloc (.cells #[.int .i64 j0] 3)).frozen? ⟨gr, 4, none⟩ = false := R7r.frozen 4
  have y5 : (w5.alloc (.cells #[.int .i64 j0] 3)).cell? ⟨gr, 5, none⟩ = some (.slice none 0 0) := R7r.cell 5
  have f5 : (w5.alloc (.cells #[.int .i64 j0] 3)).frozen? ⟨gr, 5, none⟩ = false := R7r.frozen 5
  have y6 : (w5.alloc (.cells #[.int .i64 j0] 3)).cell? ⟨gr, 6, none⟩ = some (.slice none 0 0) := R7r.cell 6
  have f6 : (w5.alloc (.cells #[.int .i64 j0] 3)).frozen? ⟨gr, 6, none⟩ = false := R7r.frozen 6
  have y7 : (w5.alloc (.cells #[.int .i64 j0] 3)).cell? ⟨gr, 7, none⟩ = some (.slice none 0 0) := R7r.cell 7
  have f7 : (w5.alloc (.cells #[.int .i64 j0] 3)).frozen? ⟨gr, 7, none⟩ = false := R7r.frozen 7
  have z0 : (w5.alloc (.cells #[.int .i64 j0] 3)).cell? ⟨w.heap.size + 1, 0, none⟩ = some (.string ⟨#[]⟩) := Z7r.cell 0
  have q0 : (w5.alloc (.cells #[.int .i64 j0] 3)).frozen? ⟨w.heap.size + 1, 0, none⟩ = false := Z7r.frozen 0
  have z1 : (w5.alloc (.cells #[.int .i64 j0] 3)).cell? ⟨w.heap.size + 1, 1, none⟩ = some (.int .i64 0) := Z7r.cell 1
  have q1 : (w5.alloc (.cells #[.int .i64 j0] 3)).frozen? ⟨w.heap.size + 1, 1, none⟩ = false := Z7r.frozen 1
  have z2 : (w5.alloc (.cells #[.int .i64 j0] 3)).cell? ⟨w.heap.size + 1, 2, none⟩ = some (.int .i64 0) := Z7r.cell 2
  have q2 : (w5.alloc (.cells #[.int .i64 j0] 3)).frozen? ⟨w.heap.size + 1, 2, none⟩ = false := Z7r.frozen 2
  have z3 : (w5.alloc (.cells #[.int .i64 j0] 3)).cell? ⟨w.heap.size + 1, 3, none⟩ = some (.bool false) := Z7r.cell 3
  have q3 : (w5.alloc (.cells #[.int .i64 j0] 3)).frozen? ⟨w.heap.size + 1, 3, none⟩ = false := Z7r.frozen 3
  have z4 : (w5.alloc (.cells #[.int .i64 j0] 3)).cell? ⟨w.heap.size + 1, 4, none⟩ = some (.slice none 0 0) := Z7r.cell 4
  have q4 : (w5.alloc (.cells #[.int .i64 j0] 3)).frozen? ⟨w.heap.size + 1, 4, none⟩ = false := Z7r.frozen 4
  have z5 : (w5.alloc (.cells #[.int .i64 j0] 3)).cell? ⟨w.heap.size + 1, 5, none⟩ = some (.slice none 0 0) := Z7r.cell 5
  have q5 : (w5.alloc (.cells #[.int .i64 j0] 3)).frozen? ⟨w.heap.size + 1, 5, none⟩ = false := Z7r.frozen 5
  have z6 : (w5.alloc (.cells #[.int .i64 j0] 3)).cell? ⟨w.heap.size + 1, 6, none⟩ = some (.slice none 0 0) := Z7r.cell 6
  have q6 : (w5.alloc (.cells #[.int .i64 j0] 3)).frozen? ⟨w.heap.size + 1, 6, none⟩ = false := Z7r.frozen 6
  have z7 : (w5.alloc (.cells #[.int .i64 j0] 3)).cell? ⟨w.heap.size + 1, 7, none⟩ = some (.slice none 0 0) := Z7r.cell 7
  have q7 : (w5.alloc (.cells #[.int .i64 j0] 3)).frozen? ⟨w.heap.size + 1, 7, none⟩ = false := Z7r.frozen 7
  clear hw7 b7 R7r Z7r
  go_wp2_with fail
  rw [← W7.out]
  have z0 : w7.cell? ⟨w.heap.size + 1, 0, none⟩ = some (.string ⟨#[]⟩) := Z7.out.cell 0
  have z1 : w7.cell? ⟨w.heap.size + 1, 1, none⟩ = some (.int .i64 0) := Z7.out.cell 1
  have z2 : w7.cell? ⟨w.heap.size + 1, 2, none⟩ = some (.int .i64 0) := Z7.out.cell 2
  have z3 : w7.cell? ⟨w.heap.size + 1, 3, none⟩ = some (.bool false) := Z7.out.cell 3
  have z4 : w7.cell? ⟨w.heap.size + 1, 4, none⟩ = some (.slice none 0 0) := Z7.out.cell 4
  have z5 : w7.cell? ⟨w.heap.size + 1, 5, none⟩ = some (.slice none 0 0) := Z7.out.cell 5
  have z6 : w7.cell? ⟨w.heap.size + 1, 6, none⟩ = some (.slice none 0 0) := Z7.out.cell 6
  have z7 : w7.cell? ⟨w.heap.size + 1, 7, none⟩ = some (.slice none 0 0) := Z7.out.cell 7
  refine bodyPost_ret (v := .agg #[.string nm, .int .i64 8, .int .i64 0, .bool false, .slice none 0 0, .slice none 0 0, .slice none 0 0, .slice (some ⟨w5.heap.size, 0, none⟩) 1 1]) (by simp [results, Tryz.results95, go_sem, z0, z1, z2, z3, z4, z5, z6, z7]) rfl ?_
  exact DrewR.mk_ (r := ⟨nm, 8, 0, false, [], [], [], [j0]⟩) (((show Rows4 w7 w.heap.size ⟨nm, 8, 0, false, [], [], [], [j0]⟩ (.slice none 0 0) (.slice none 0 0) (.slice none 0 0) (.slice (some ⟨w5.heap.size, 0, none⟩) 1 1) from ⟨World.ownsRow_nil _ _ _ _, World.ownsRow_nil _ _ _ _, World.ownsRow_nil _ _ _ _, OV.out, .inl rfl⟩).setBox (j := 7) (u := .slice (some ⟨w5.heap.size, 0, none⟩) 1 1) R7.out).all8 (Z7.out.setOther ⟨gr, 7, none⟩ (by show w.heap.size + 1 ≠ gr; omega) (.slice (some ⟨w5.heap.size, 0, none⟩) 1 1))) (drawn8 8 (.inl rfl) NM'.out ⟨hj1, hj3⟩) (Cur.all8 (Cur.new (j := 7) (u := .slice (some ⟨w5.heap.size, 0, none⟩) 1 1) C7.out (by omega)) (by omega)) (grown_all8 (grown_new (j := 7) (u := .slice (some ⟨w5.heap.size, 0, none⟩) 1 1) G7.out (by omega)) (by omega))

set_option maxRecDepth 100000 in
set_option maxHeartbeats 8000000 in
theorem s_l4Make9 (g : Nat) (v : Value) (l : List RuleD) (lo : Nat) (hdr : Drawn l) (h10 : l.length ≤ 9) (hpos : 0 < l.length) (w : World) (hc : Cur w g) (ho : OwnRules w lo v l) :
    Calls Tryz.prog 95 #[.pointer (some ⟨g, 0, none⟩), .agg #[v], .int .i64 9] w (DrewR 9 l g w) := by
  obtain ⟨A, c, rfl⟩ : ∃ A c, v = .slice A l.length c := by
    obtain ⟨A, c, h, _⟩ := ho.rd
    exact ⟨A, c, h⟩
  have hglt := hc.lt
  have DR := Lib.hid hdr
  have HO := Lib.hid ho
  have HC := Lib.hid hc
  obtain ⟨w1, hw1⟩ : ∃ w1, w1 = ((w.alloc (.cells #[.slice A l.length c] 35)).alloc (.cells #[.string ⟨#[]⟩, .int .i64 0, .int .i64 0, .bool false, .slice none 0 0, .slice none 0 0, .slice none 0 0, .slice none 0 0] 30)) := ⟨_, rfl⟩
  have B1 := Lib.hid (show Below w.heap.size w w1 by rw [hw1]; exact ((Below.refl _ _).alloc (Nat.le_refl _) _).alloc (by simp) _)
  have D1 := Lib.hid (show Box w1 w.heap.size 35 #[.slice A l.length c] by rw [hw1]; exact (Box.new w _ _).alloc _)
  have Z1 := Lib.hid (show Box w1 (w.heap.size + 1) 30 #[.string ⟨#[]⟩, .int .i64 0, .int .i64 0, .bool false, .slice none 0 0, .slice none 0 0, .slice none 0 0, .slice none 0 0] by rw [hw1]; exact box_new1 w _ _ _)
  have W1 := Lib.hid hw1
  have e1s : w1.heap.size = w.heap.size + 1 + 1 := by rw [hw1]; simp
  have ES1 := Lib.hid e1s
  have hnl := s_FormatInt (l.length : Int) ⟨by omega, by omega⟩
  obtain ⟨s2, hs2⟩ : ∃ s2, s2 = mkS (fmtInt (l.length : Int)) := ⟨_, rfl⟩
  have hsz2 : s2.size ≤ 20 := by rw [hs2, mkS_size]; exact fmtInt_len ⟨by omega, by omega⟩
  rw [← hs2] at hnl
  have FI := Lib.hid hnl
  have HS2 := Lib.hid hs2
  clear hdr hc ho hw1 e1s hnl hs2
  go_enter Tryz.func95, Tryz.ntmps95
  go_wp2_with fail
  rw [← W1.out, ← ES1.out]
  have hrd := Rd.lit w1 (cS makeNames) 9 5 rfl (by unfold maxLen; omega)
  refine (s_l1Str g _ makeNames (by decide) (by decide) _ ((HC.out.below B1.out).below ((Below.refl _ _).alloc (Nat.le_refl _) _)) hrd (by simp [Value.ownBlock]; have := B1.out.size; omega)).mono ?_
  rintro e w2 ⟨nm0, rfl, hmem, hc2, hg2⟩
  have hg12 : w1.grownBy w2 (some g) := grown_trans (grown_alloc (World.grownBy.refl w1 _) _) hg2
  have D2 := Lib.hid (D1.out.drawn hg12 (by omega))
  have Z2 := Lib.hid (Z1.out.drawn hg12 (by omega))
  have G2 := Lib.hid (grown_trans (grown_of_below B1.out) hg12)
  have C2 := Lib.hid hc2
  have hs12 := hg12.size
  obtain ⟨hnm, hsz0⟩ := name_of hmem HS2.out
  have NM := Lib.hid hnm
  clear hmem hc2 hg2 hg12 hnm hrd
  go_wp2_with fail
  refine (FI.out _).mono ?_
  rintro e w3 ⟨rfl, hb3⟩
  have D3 := Lib.hid (D2.out.below hb3)
  have Z3 := Lib.hid (Z2.out.below hb3)
  have G3 := Lib.hid (grown_then G2.out hb3)
  have C3 := Lib.hid (C2.out.below hb3)
  have hs23 := hb3.size
  have hlt3 : w.heap.size + 1 < w3.heap.size := Z3.out.lt
  have hov : ¬ (9223372036854775807 < nm0.size + s2.size) := by omega
  obtain ⟨w4, hw4⟩ : ∃ w4, w4 = w3.alloc (.cells #[.string (nm0 ++ s2), .int .i64 9, .int .i64 0, .bool false, .slice none 0 0, .slice none 0 0, .slice none 0 0, .slice none 0 0] 30) := ⟨_, rfl⟩
  obtain ⟨gr, hgr⟩ : ∃ gr, gr = w3.heap.size := ⟨_, rfl⟩
  have R4 := Lib.hid (show Box w4 gr 30 #[.string (nm0 ++ s2), .int .i64 9, .int .i64 0, .bool false, .slice none 0 0, .slice none 0 0, .slice none 0 0, .slice none 0 0] by rw [hw4, hgr]; exact Box.new _ _ _)
  have D4 := Lib.hid (show Box w4 w.heap.size 35 #[.slice A l.length c] by rw [hw4]; exact D3.out.alloc _)
  have Z4 := Lib.hid (show Box w4 (w.heap.size + 1) 30 #[.string ⟨#[]⟩, .int .i64 0, .int .i64 0, .bool false, .slice none 0 0, .slice none 0 0, .slice none 0 0, .slice none 0 0] by rw [hw4]; exact Z3.out.alloc _)
  have G4 := Lib.hid (show w.grownBy w4 (some g) by rw [hw4]; exact grown_alloc G3.out _)
  have C4 := Lib.hid (show Cur w4 g by rw [hw4]; exact C3.out.below ((Below.refl _ _).alloc (Nat.le_refl _) _))
  have hgl : w.heap.size + 1 < gr := by rw [hgr]; exact hlt3
  obtain ⟨nm, hnm⟩ : ∃ nm, nm = nm0 ++ s2 := ⟨_, rfl⟩
  have NM' := Lib.hid (show NameN l.length nm by rw [hnm]; exact NM.out)
  rw [← hnm] at R4 hw4
  have W4 := Lib.hid hw4
  have ES4 := Lib.hid (show w4.heap.size = gr + 1 by rw [hw4, hgr]; simp)
  have xr : (w3.alloc (.cells #[.string (nm0 ++ s2), .int .i64 9, .int .i64 0, .bool false, .slice none 0 0, .slice none 0 0, .slice none 0 0, .slice none 0 0] 30)).cell? ⟨w.heap.size, 0, none⟩ = some (.slice A l.length c) := (D3.out.alloc _).cell 0
  have HGR := Lib.hid hgr
  have HNM := Lib.hid hnm
  have x4 : w4.cell? ⟨w.heap.size, 0, none⟩ = some (.slice A l.length c) := D4.out.cell 0
  have y0 : w4.cell? ⟨gr, 0, none⟩ = some (.string nm) := R4.out.cell 0
  have f0 : w4.frozen? ⟨gr, 0, none⟩ = false := R4.out.frozen 0
  have y1 : w4.cell? ⟨gr, 1, none⟩ = some (.int .i64 9) := R4.out.cell 1
  have f1 : w4.frozen? ⟨gr, 1, none⟩ = false := R4.out.frozen 1
  have y2 : w4.cell? ⟨gr, 2, none⟩ = some (.int .i64 0) := R4.out.cell 2
  have f2 : w4.frozen? ⟨gr, 2, none⟩ = false := R4.out.frozen 2
  have y3 : w4.cell? ⟨gr, 3, none⟩ = some (.bool false) := R4.out.cell 3
  have f3 : w4.frozen? ⟨gr, 3, none⟩ = false := R4.out.frozen 3
  have y4 : w4.cell? ⟨gr, 4, none⟩ = some (.slice none 0 0) := R4.out.cell 4
  have f4 : w4.frozen? ⟨gr, 4, none⟩ = false := R4.out.frozen 4
  have y5 : w4.cell? ⟨gr, 5, none⟩ = some (.slice none 0 0) := R4.out.cell 5
  have f5 : w4.frozen? ⟨gr, 5, none⟩ = false := R4.out.frozen 5
  have y6 : w4.cell? ⟨gr, 6, none⟩ = some (.slice none 0 0) := R4.out.cell 6
  have f6 : w4.frozen? ⟨gr, 6, none⟩ = false := R4.out.frozen 6
  have y7 : w4.cell? ⟨gr, 7, none⟩ = some (.slice none 0 0) := R4.out.cell 7
  have f7 : w4.frozen? ⟨gr, 7, none⟩ = false := R4.out.frozen 7
  clear hb3 hgr hw4 hs12 hs23 hnm
  go_wp2_with fail
  rw [← HNM.out, ← W4.out, ← HGR.out]
  clear xr
  refine (s_l1Below g (l.length : Int) (by omega) _ C4.out).mono ?_
  rintro e w5 ⟨j0, rfl, ⟨hj1, hj2, _⟩, hc5, hg5⟩
  have hj3 := hj2 (by omega)
  have C5 := Lib.hid hc5
  have D5 := Lib.hid (D4.out.drawn hg5 (by omega))
  have R5 := Lib.hid (R4.out.drawn hg5 (by omega))
  have Z5 := Lib.hid (Z4.out.drawn hg5 (by omega))
  have G5 := Lib.hid (grown_trans G4.out hg5)
  clear hj2 hc5 hg5 x4 y0 f0 y1 f1 y2 f2 y3 f3 y4 f4 y5 f5 y6 f6 y7 f7
  obtain ⟨w7, hw7⟩ : ∃ w7, w7 = w5.alloc (.cells #[.int .i64 j0] 3) := ⟨_, rfl⟩
  have b7 : Below w5.heap.size w5 w7 := by rw [hw7]; exact (Below.refl _ _).alloc (Nat.le_refl _) _
  have C7 := Lib.hid (C5.out.below b7)
  have R7 := Lib.hid (R5.out.below b7)
  have Z7 := Lib.hid (Z5.out.below b7)
  have G7 := Lib.hid (grown_then G5.out b7)
  have OV := Lib.hid (show w7.ownsRow w.heap.size 3 1 (.slice (some ⟨w5.heap.size, 0, none⟩) 1 1) 1 (cI [j0]) by rw [hw7]; exact World.ownsRow_lit w5 _ 1 G5.out.size (by unfold maxLen; omega) rfl)
  have R7r := R7.out
  have Z7r := Z7.out
  rw [hw7] at R7r Z7r
  have W7 := Lib.hid hw7
  have y0 : (w5.alloc (.cells #[.int .i64 j0] 3)).cell? ⟨gr, 0, none⟩ = some (.string nm) := R7r.cell 0
  have f0 : (w5.alloc (.cells #[.int .i64 j0] 3)).frozen? ⟨gr, 0, none⟩ = false := R7r.frozen 0
  have y1 : (w5.alloc (.cells #[.int .i64 j0] 3)).cell? ⟨gr, 1, none⟩ = some (.int .i64 9) := R7r.cell 1
  have f1 : (w5.alloc (.cells #[.int .i64 j0] 3)).frozen? ⟨gr, 1, none⟩ = false := R7r.frozen 1
  have y2 : (w5.alloc (.cells #[.int .i64 j0] 3)).cell? ⟨gr, 2, none⟩ = some (.int .i64 0) := R7r.cell 2
  have f2 : (w5.alloc (.cells #[.int .i64 j0] 3)).frozen? ⟨gr, 2, none⟩ = false := R7r.frozen 2
  have y3 : (w5.alloc (.cells #[.int .i64 j0] 3)).cell? ⟨gr, 3, none⟩ = some (.bool false) := R7r.cell 3
  have f3 : (w5.alloc (.cells #[.int .i64 j0] 3)).frozen? ⟨gr, 3, none⟩ = false := R7r.frozen 3
  have y4 : (w5.alloc (.cells #[.int .i64 j0] 3)).cell? ⟨gr, 4, none⟩ = some (.slice none 0 0) := R7r.cell 4
  have f4 : (w5.alloc (.cells #[.int .i64 j0] 3)).frozen? ⟨gr, 4, none⟩ = false := R7r.frozen 4
  have y5 : (w5.alloc (.cells #[.int .i64 j0] 3)).cell? ⟨gr, 5, none⟩ = some (.slice none 0 0) := R7r.cell 5
  have f5 : (w5.alloc (.cells #[.int .i64 j0] 3)).frozen? ⟨gr, 5, none⟩ = false := R7r.frozen 5
  have y6 : (w5.alloc (.cells #[.int .i64 j0] 3)).cell? ⟨gr, 6, none⟩ = some (.slice none 0 0) := R7r.cell 6
  have f6 : (w5.alloc (.cells #[.int .i64 j0] 3)).frozen? ⟨gr, 6, none⟩ = false := R7r.frozen 6
  have y7 : (w5.alloc (.cells #[.int .i64 j0] 3)).cell? ⟨gr, 7, none⟩ = some (.slice none 0 0) := R7r.cell 7
  have f7 : (w5.alloc (.cells #[.int .i64 j0] 3)).frozen? ⟨gr, 7, none⟩ = false := R7r.frozen 7
  have z0 : (w5.alloc (.cells #[.int .i64 j0] 3)).cell? ⟨w.heap.size + 1, 0, none⟩ = some (.string ⟨#[]⟩) := Z7r.cell 0
  have q0 : (w5.alloc (.cells #[.int .i64 j0] 3)).frozen? ⟨w.heap.size + 1, 0, none⟩ = false := Z7r.frozen 0
  have z1 : (w5.alloc (.cells #[.int .i64 j0] 3)).cell? ⟨w.heap.size + 1, 1, none⟩ = some (.int .i64 0) := Z7r.cell 1
  have q1 : (w5.alloc (.cells #[.int .i64 j0] 3)).frozen? ⟨w.heap.size + 1, 1, none⟩ = false := Z7r.frozen 1
  have z2 : (w5.alloc (.cells #[.int .i64 j0] 3)).cell? ⟨w.heap.size + 1, 2, none⟩ = some (.int .i64 0) := Z7r.cell 2
  have q2 : (w5.alloc (.cells #[.int .i64 j0] 3)).frozen? ⟨w.heap.size + 1, 2, none⟩ = false := Z7r.frozen 2
  have z3 : (w5.alloc (.cells #[.int .i64 j0] 3)).cell? ⟨w.heap.size + 1, 3, none⟩ = some (.bool false) := Z7r.cell 3
  have q3 : (w5.alloc (.cells #[.int .i64 j0] 3)).frozen? ⟨w.heap.size + 1, 3, none⟩ = false := Z7r.frozen 3
  have z4 : (w5.alloc (.cells #[.int .i64 j0] 3)).cell? ⟨w.heap.size + 1, 4, none⟩ = some (.slice none 0 0) := Z7r.cell 4
  have q4 : (w5.alloc (.cells #[.int .i64 j0] 3)).frozen? ⟨w.heap.size + 1, 4, none⟩ = false := Z7r.frozen 4
  have z5 : (w5.alloc (.cells #[.int .i64 j0] 3)).cell? ⟨w.heap.size + 1, 5, none⟩ = some (.slice none 0 0) := Z7r.cell 5
  have q5 : (w5.alloc (.cells #[.int .i64 j0] 3)).frozen? ⟨w.heap.size + 1, 5, none⟩ = false := Z7r.frozen 5
  have z6 : (w5.alloc (.cells #[.int .i64 j0] 3)).cell? ⟨w.heap.size + 1, 6, none⟩ = some (.slice none 0 0) := Z7r.cell 6
  have q6 : (w5.alloc (.cells #[.int .i64 j0] 3)).frozen? ⟨w.heap.size + 1, 6, none⟩ = false := Z7r.frozen 6
  have z7 : (w5.alloc (.cells #[.int .i64 j0] 3)).cell? ⟨w.heap.size + 1, 7, none⟩ = some (.slice none 0 0) := Z7r.cell 7
  have q7 : (w5.alloc (.cells #[.int .i64 j0] 3)).frozen? ⟨w.heap.size + 1, 7, none⟩ = false := Z7r.frozen 7
  clear hw7 b7 R7r Z7r
  go_wp2_with fail
  rw [← W7.out]
  have z0 : w7.cell? ⟨w.heap.size + 1, 0, none⟩ = some (.string ⟨#[]⟩) := Z7.out.cell 0
  have z1 : w7.cell? ⟨w.heap.size + 1, 1, none⟩ = some (.int .i64 0) := Z7.out.cell 1
  have z2 : w7.cell? ⟨w.heap.size + 1, 2, none⟩ = some (.int .i64 0) := Z7.out.cell 2
  have z3 : w7.cell? ⟨w.heap.size + 1, 3, none⟩ = some (.bool false) := Z7.out.cell 3
  have z4 : w7.cell? ⟨w.heap.size + 1, 4, none⟩ = some (.slice none 0 0) := Z7.out.cell 4
  have z5 : w7.cell? ⟨w.heap.size + 1, 5, none⟩ = some (.slice none 0 0) := Z7.out.cell 5
  have z6 : w7.cell? ⟨w.heap.size + 1, 6, none⟩ = some (.slice none 0 0) := Z7.out.cell 6
  have z7 : w7.cell? ⟨w.heap.size + 1, 7, none⟩ = some (.slice none 0 0) := Z7.out.cell 7
  refine bodyPost_ret (v := .agg #[.string nm, .int .i64 9, .int .i64 0, .bool false, .slice none 0 0, .slice none 0 0, .slice none 0 0, .slice (some ⟨w5.heap.size, 0, none⟩) 1 1]) (by simp [results, Tryz.results95, go_sem, z0, z1, z2, z3, z4, z5, z6, z7]) rfl ?_
  exact DrewR.mk_ (r := ⟨nm, 9, 0, false, [], [], [], [j0]⟩) (((show Rows4 w7 w.heap.size ⟨nm, 9, 0, false, [], [], [], [j0]⟩ (.slice none 0 0) (.slice none 0 0) (.slice none 0 0) (.slice (some ⟨w5.heap.size, 0, none⟩) 1 1) from ⟨World.ownsRow_nil _ _ _ _, World.ownsRow_nil _ _ _ _, World.ownsRow_nil _ _ _ _, OV.out, .inl rfl⟩).setBox (j := 7) (u := .slice (some ⟨w5.heap.size, 0, none⟩) 1 1) R7.out).all8 (Z7.out.setOther ⟨gr, 7, none⟩ (by show w.heap.size + 1 ≠ gr; omega) (.slice (some ⟨w5.heap.size, 0, none⟩) 1 1))) (drawn8 9 (.inr rfl) NM'.out ⟨hj1, hj3⟩) (Cur.all8 (Cur.new (j := 7) (u := .slice (some ⟨w5.heap.size, 0, none⟩) 1 1) C7.out (by omega)) (by omega)) (grown_all8 (grown_new (j := 7) (u := .slice (some ⟨w5.heap.size, 0, none⟩) 1 1) G7.out (by omega)) (by omega))

set_option maxRecDepth 100000 in
set_option maxHeartbeats 8000000 in
theorem s_l4Make10 (g : Nat) (v : Value) (l : List RuleD) (lo : Nat) (hdr : Drawn l) (h10 : l.length ≤ 9) (w : World) (hc : Cur w g) (ho : OwnRules w lo v l) :
    Calls Tryz.prog 95 #[.pointer (some ⟨g, 0, none⟩), .agg #[v], .int .i64 10] w (DrewR 10 l g w) := by
  obtain ⟨A, c, rfl⟩ : ∃ A c, v = .slice A l.length c := by
    obtain ⟨A, c, h, _⟩ := ho.rd
    exact ⟨A, c, h⟩
  have hglt := hc.lt
  have DR := Lib.hid hdr
  have HO := Lib.hid ho
  have HC := Lib.hid hc
  obtain ⟨w1, hw1⟩ : ∃ w1, w1 = ((w.alloc (.cells #[.slice A l.length c] 35)).alloc (.cells #[.string ⟨#[]⟩, .int .i64 0, .int .i64 0, .bool false, .slice none 0 0, .slice none 0 0, .slice none 0 0, .slice none 0 0] 30)) := ⟨_, rfl⟩
  have B1 := Lib.hid (show Below w.heap.size w w1 by rw [hw1]; exact ((Below.refl _ _).alloc (Nat.le_refl _) _).alloc (by simp) _)
  have D1 := Lib.hid (show Box w1 w.heap.size 35 #[.slice A l.length c] by rw [hw1]; exact (Box.new w _ _).alloc _)
  have Z1 := Lib.hid (show Box w1 (w.heap.size + 1) 30 #[.string ⟨#[]⟩, .int .i64 0, .int .i64 0, .bool false, .slice none 0 0, .slice none 0 0, .slice none 0 0, .slice none 0 0] by rw [hw1]; exact box_new1 w _ _ _)
  have W1 := Lib.hid hw1
  have e1s : w1.heap.size = w.heap.size + 1 + 1 := by rw [hw1]; simp
  have ES1 := Lib.hid e1s
  have hnl := s_FormatInt (l.length : Int) ⟨by omega, by omega⟩
  obtain ⟨s2, hs2⟩ : ∃ s2, s2 = mkS (fmtInt (l.length : Int)) := ⟨_, rfl⟩
  have hsz2 : s2.size ≤ 20 := by rw [hs2, mkS_size]; exact fmtInt_len ⟨by omega, by omega⟩
  rw [← hs2] at hnl
  have FI := Lib.hid hnl
  have HS2 := Lib.hid hs2
  clear hdr hc ho hw1 e1s hnl hs2
  go_enter Tryz.func95, Tryz.ntmps95
  go_wp2_with fail
  rw [← W1.out, ← ES1.out]
  have hrd := Rd.lit w1 (cS makeNames) 9 5 rfl (by unfold maxLen; omega)
  refine (s_l1Str g _ makeNames (by decide) (by decide) _ ((HC.out.below B1.out).below ((Below.refl _ _).alloc (Nat.le_refl _) _)) hrd (by simp [Value.ownBlock]; have := B1.out.size; omega)).mono ?_
  rintro e w2 ⟨nm0, rfl, hmem, hc2, hg2⟩
  have hg12 : w1.grownBy w2 (some g) := grown_trans (grown_alloc (World.grownBy.refl w1 _) _) hg2
  have D2 := Lib.hid (D1.out.drawn hg12 (by omega))
  have Z2 := Lib.hid (Z1.out.drawn hg12 (by omega))
  have G2 := Lib.hid (grown_trans (grown_of_below B1.out) hg12)
  have C2 := Lib.hid hc2
  have hs12 := hg12.size
  obtain ⟨hnm, hsz0⟩ := name_of hmem HS2.out
  have NM := Lib.hid hnm
  clear hmem hc2 hg2 hg12 hnm hrd
  go_wp2_with fail
  refine (FI.out _).mono ?_
  rintro e w3 ⟨rfl, hb3⟩
  have D3 := Lib.hid (D2.out.below hb3)
  have Z3 := Lib.hid (Z2.out.below hb3)
  have G3 := Lib.hid (grown_then G2.out hb3)
  have C3 := Lib.hid (C2.out.below hb3)
  have hs23 := hb3.size
  have hlt3 : w.heap.size + 1 < w3.heap.size := Z3.out.lt
  have hov : ¬ (9223372036854775807 < nm0.size + s2.size) := by omega
  obtain ⟨w4, hw4⟩ : ∃ w4, w4 = w3.alloc (.cells #[.string (nm0 ++ s2), .int .i64 10, .int .i64 0, .bool false, .slice none 0 0, .slice none 0 0, .slice none 0 0, .slice none 0 0] 30) := ⟨_, rfl⟩
  obtain ⟨gr, hgr⟩ : ∃ gr, gr = w3.heap.size := ⟨_, rfl⟩
  have R4 := Lib.hid (show Box w4 gr 30 #[.string (nm0 ++ s2), .int .i64 10, .int .i64 0, .bool false, .slice none 0 0, .slice none 0 0, .slice none 0 0, .slice none 0 0] by rw [hw4, hgr]; exact Box.new _ _ _)
  have D4 := Lib.hid (show Box w4 w.heap.size 35 #[.slice A l.length c] by rw [hw4]; exact D3.out.alloc _)
  have Z4 := Lib.hid (show Box w4 (w.heap.size + 1) 30 #[.string ⟨#[]⟩, .int .i64 0, .int .i64 0, .bool false, .slice none 0 0, .slice none 0 0, .slice none 0 0, .slice none 0 0] by rw [hw4]; exact Z3.out.alloc _)
  have G4 := Lib.hid (show w.grownBy w4 (some g) by rw [hw4]; exact grown_alloc G3.out _)
  have C4 := Lib.hid (show Cur w4 g by rw [hw4]; exact C3.out.below ((Below.refl _ _).alloc (Nat.le_refl _) _))
  have hgl : w.heap.size + 1 < gr := by rw [hgr]; exact hlt3
  obtain ⟨nm, hnm⟩ : ∃ nm, nm = nm0 ++ s2 := ⟨_, rfl⟩
  have NM' := Lib.hid (show NameN l.length nm by rw [hnm]; exact NM.out)
  rw [← hnm] at R4 hw4
  have W4 := Lib.hid hw4
  have ES4 := Lib.hid (show w4.heap.size = gr + 1 by rw [hw4, hgr]; simp)
  have xr : (w3.alloc (.cells #[.string (nm0 ++ s2), .int .i64 10, .int .i64 0, .bool false, .slice none 0 0, .slice none 0 0, .slice none 0 0, .slice none 0 0] 30)).cell? ⟨w.heap.size, 0, none⟩ = some (.slice A l.length c) := (D3.out.alloc _).cell 0
  have HGR := Lib.hid hgr
  have HNM := Lib.hid hnm
  have x4 : w4.cell? ⟨w.heap.size, 0, none⟩ = some (.slice A l.length c) := D4.out.cell 0
  have y0 : w4.cell? ⟨gr, 0, none⟩ = some (.string nm) := R4.out.cell 0
  have f0 : w4.frozen? ⟨gr, 0, none⟩ = false := R4.out.frozen 0
  have y1 : w4.cell? ⟨gr, 1, none⟩ = some (.int .i64 10) := R4.out.cell 1
  have f1 : w4.frozen? ⟨gr, 1, none⟩ = false := R4.out.frozen 1
  have y2 : w4.cell? ⟨gr, 2, none⟩ = some (.int .i64 0) := R4.out.cell 2
  have f2 : w4.frozen? ⟨gr, 2, none⟩ = false := R4.out.frozen 2
  have y3 : w4.cell? ⟨gr, 3, none⟩ = some (.bool false) := R4.out.cell 3
  have f3 : w4.frozen? ⟨gr, 3, none⟩ = false := R4.out.frozen 3
  have y4 : w4.cell? ⟨gr, 4, none⟩ = some (.slice none 0 0) := R4.out.cell 4
  have f4 : w4.frozen? ⟨gr, 4, none⟩ = false := R4.out.frozen 4
  have y5 : w4.cell? ⟨gr, 5, none⟩ = some (.slice none 0 0) := R4.out.cell 5
  have f5 : w4.frozen? ⟨gr, 5, none⟩ = false := R4.out.frozen 5
  have y6 : w4.cell? ⟨gr, 6, none⟩ = some (.slice none 0 0) := R4.out.cell 6
  have f6 : w4.frozen? ⟨gr, 6, none⟩ = false := R4.out.frozen 6
  have y7 : w4.cell? ⟨gr, 7, none⟩ = some (.slice none 0 0) := R4.out.cell 7
  have f7 : w4.frozen? ⟨gr, 7, none⟩ = false := R4.out.frozen 7
  clear hb3 hgr hw4 hs12 hs23 hnm
  go_wp2_with fail
  rw [← HNM.out, ← W4.out, ← HGR.out]
  clear xr
  rw [← ES4.out]
  obtain ⟨w4a, hw4a⟩ : ∃ w4a, w4a = w4.alloc (.cells #[.int .i64 0, .int .i64 10, .int .i64 59, .int .i64 255] 3) := ⟨_, rfl⟩
  have hrd := Rd.lit w4 (cI [0, 10, 59, 255]) 3 4 rfl (by unfold maxLen; omega)
  refine (s_l1Int g _ [0, 10, 59, 255] (by decide) (by decide) _ (C4.out.below ((Below.refl _ _).alloc (Nat.le_refl _) _)) hrd (by simp [Value.ownBlock]; have := R4.out.lt; omega)).mono ?_
  rintro e w5 ⟨x, rfl, hx, hc5, hg5⟩
  have hg45 : w4.grownBy w5 (some g) := grown_trans (grown_alloc (World.grownBy.refl w4 _) _) hg5
  have C5 := Lib.hid hc5
  have D5 := Lib.hid (D4.out.drawn hg45 (by omega))
  have R5 := Lib.hid (R4.out.drawn hg45 (by omega))
  have Z5 := Lib.hid (Z4.out.drawn hg45 (by omega))
  have G5 := Lib.hid (grown_trans G4.out hg45)
  have hx4 : x = 0 ∨ x = 10 ∨ x = 59 ∨ x = 255 := by simpa using hx
  have HX4 := Lib.hid hx4
  have hwx : IntKind.u8.wrap x = x := by rw [IntKind.wrap_u8]; omega
  obtain ⟨b, hb⟩ : ∃ b : UInt8, b = UInt8.ofNat x.toNat := ⟨_, rfl⟩
  have hbx : (b.toNat : Int) = x := by rw [hb, UInt8.toNat_ofNat']; omega
  have hb92 : b ≠ 92 := by
    intro e
    rw [e] at hbx
    have : ((92 : UInt8).toNat : Int) = 92 := rfl
    omega
  have HB92 := Lib.hid hb92
  have HBX := Lib.hid hbx
  obtain ⟨w7, hw7⟩ : ∃ w7, w7 = w5.alloc (.cells #[.int .u8 x] 5) := ⟨_, rfl⟩
  have b7 : Below w5.heap.size w5 w7 := by rw [hw7]; exact (Below.refl _ _).alloc (Nat.le_refl _) _
  have C7 := Lib.hid (C5.out.below b7)
  have R7 := Lib.hid (R5.out.below b7)
  have Z7 := Lib.hid (Z5.out.below b7)
  have G7 := Lib.hid (grown_then G5.out b7)
  have OV := Lib.hid (show w7.ownsRow w.heap.size 5 1 (.slice (some ⟨w5.heap.size, 0, none⟩) 1 1) 1 (cB [b]) by
    have h := World.ownsRow_lit (base := w.heap.size) (e := 5) (size := 1) w5 #[.int .u8 x] 1 G5.out.size (by unfold maxLen; omega) rfl
    rw [hw7]
    simpa [cB, HBX.out] using h)
  have R7r := R7.out
  have Z7r := Z7.out
  rw [hw7] at R7r Z7r
  have W7 := Lib.hid hw7
  have y0 : (w5.alloc (.cells #[.int .u8 x] 5)).cell? ⟨gr, 0, none⟩ = some (.string nm) := R7r.cell 0
  have f0 : (w5.alloc (.cells #[.int .u8 x] 5)).frozen? ⟨gr, 0, none⟩ = false := R7r.frozen 0
  have y1 : (w5.alloc (.cells #[.int .u8 x] 5)).cell? ⟨gr, 1, none⟩ = some (.int .i64 10) := R7r.cell 1
  have f1 : (w5.alloc (.cells #[.int .u8 x] 5)).frozen? ⟨gr, 1, none⟩ = false := R7r.frozen 1
  have y2 : (w5.alloc (.cells #[.int .u8 x] 5)).cell? ⟨gr, 2, none⟩ = some (.int .i64 0) := R7r.cell 2
  have f2 : (w5.alloc (.cells #[.int .u8 x] 5)).frozen? ⟨gr, 2, none⟩ = false := R7r.frozen 2
  have y3 : (w5.alloc (.cells #[.int .u8 x] 5)).cell? ⟨gr, 3, none⟩ = some (.bool false) := R7r.cell 3
  have f3 : (w5.alloc (.cells #[.int .u8 x] 5)).frozen? ⟨gr, 3, none⟩ = false := R7r.frozen 3
  have y4 : (w5.alloc (.cells #[.int .u8 x] 5)).cell? ⟨gr, 4, none⟩ = some (.slice none 0 0) := R7r.cell 4
  have f4 : (w5.alloc (.cells #[.int .u8 x] 5)).frozen? ⟨gr, 4, none⟩ = false := R7r.frozen 4
  have y5 : (w5.alloc (.cells #[.int .u8 x] 5)).cell? ⟨gr, 5, none⟩ = some (.slice none 0 0) := R7r.cell 5
  have f5 : (w5.alloc (.cells #[.int .u8 x] 5)).frozen? ⟨gr, 5, none⟩ = false := R7r.frozen 5
  have y6 : (w5.alloc (.cells #[.int .u8 x] 5)).cell? ⟨gr, 6, none⟩ = some (.slice none 0 0) := R7r.cell 6
  have f6 : (w5.alloc (.cells #[.int .u8 x] 5)).frozen? ⟨gr, 6, none⟩ = false := R7r.frozen 6
  have y7 : (w5.alloc (.cells #[.int .u8 x] 5)).cell? ⟨gr, 7, none⟩ = some (.slice none 0 0) := R7r.cell 7
  have f7 : (w5.alloc (.cells #[.int .u8 x] 5)).frozen? ⟨gr, 7, none⟩ = false := R7r.frozen 7
  have z0 : (w5.alloc (.cells #[.int .u8 x] 5)).cell? ⟨w.heap.size + 1, 0, none⟩ = some (.string ⟨#[]⟩) := Z7r.cell 0
  have q0 : (w5.alloc (.cells #[.int .u8 x] 5)).frozen? ⟨w.heap.size + 1, 0, none⟩ = false := Z7r.frozen 0
  have z1 : (w5.alloc (.cells #[.int .u8 x] 5)).cell? ⟨w.heap.size + 1, 1, none⟩ = some (.int .i64 0) := Z7r.cell 1
  have q1 : (w5.alloc (.cells #[.int .u8 x] 5)).frozen? ⟨w.heap.size + 1, 1, none⟩ = false := Z7r.frozen 1
  have z2 : (w5.alloc (.cells #[.int .u8 x] 5)).cell? ⟨w.heap.size + 1, 2, none⟩ = some (.int .i64 0) := Z7r.cell 2
  have q2 : (w5.alloc (.cells #[.int .u8 x] 5)).frozen? ⟨w.heap.size + 1, 2, none⟩ = false := Z7r.frozen 2
  have z3 : (w5.alloc (.cells #[.int .u8 x] 5)).cell? ⟨w.heap.size + 1, 3, none⟩ = some (.bool false) := Z7r.cell 3
  have q3 : (w5.alloc (.cells #[.int .u8 x] 5)).frozen? ⟨w.heap.size + 1, 3, none⟩ = false := Z7r.frozen 3
  have z4 : (w5.alloc (.cells #[.int .u8 x] 5)).cell? ⟨w.heap.size + 1, 4, none⟩ = some (.slice none 0 0) := Z7r.cell 4
  have q4 : (w5.alloc (.cells #[.int .u8 x] 5)).frozen? ⟨w.heap.size + 1, 4, none⟩ = false := Z7r.frozen 4
  have z5 : (w5.alloc (.cells #[.int .u8 x] 5)).cell? ⟨w.heap.size + 1, 5, none⟩ = some (.slice none 0 0) := Z7r.cell 5
  have q5 : (w5.alloc (.cells #[.int .u8 x] 5)).frozen? ⟨w.heap.size + 1, 5, none⟩ = false := Z7r.frozen 5
  have z6 : (w5.alloc (.cells #[.int .u8 x] 5)).cell? ⟨w.heap.size + 1, 6, none⟩ = some (.slice none 0 0) := Z7r.cell 6
  have q6 : (w5.alloc (.cells #[.int .u8 x] 5)).frozen? ⟨w.heap.size + 1, 6, none⟩ = false := Z7r.frozen 6
  have z7 : (w5.alloc (.cells #[.int .u8 x] 5)).cell? ⟨w.heap.size + 1, 7, none⟩ = some (.slice none 0 0) := Z7r.cell 7
  have q7 : (w5.alloc (.cells #[.int .u8 x] 5)).frozen? ⟨w.heap.size + 1, 7, none⟩ = false := Z7r.frozen 7
  clear hw7 b7 R7r Z7r hx hx4 hb hbx hb92 hc5 hg5 hg45 hrd hw4a x4
  go_wp2_with fail
  rw [← W7.out]
  have z0 : w7.cell? ⟨w.heap.size + 1, 0, none⟩ = some (.string ⟨#[]⟩) := Z7.out.cell 0
  have z1 : w7.cell? ⟨w.heap.size + 1, 1, none⟩ = some (.int .i64 0) := Z7.out.cell 1
  have z2 : w7.cell? ⟨w.heap.size + 1, 2, none⟩ = some (.int .i64 0) := Z7.out.cell 2
  have z3 : w7.cell? ⟨w.heap.size + 1, 3, none⟩ = some (.bool false) := Z7.out.cell 3
  have z4 : w7.cell? ⟨w.heap.size + 1, 4, none⟩ = some (.slice none 0 0) := Z7.out.cell 4
  have z5 : w7.cell? ⟨w.heap.size + 1, 5, none⟩ = some (.slice none 0 0) := Z7.out.cell 5
  have z6 : w7.cell? ⟨w.heap.size + 1, 6, none⟩ = some (.slice none 0 0) := Z7.out.cell 6
  have z7 : w7.cell? ⟨w.heap.size + 1, 7, none⟩ = some (.slice none 0 0) := Z7.out.cell 7
  refine bodyPost_ret (v := .agg #[.string nm, .int .i64 10, .int .i64 0, .bool false, .slice (some ⟨w5.heap.size, 0, none⟩) 1 1, .slice none 0 0, .slice none 0 0, .slice none 0 0]) (by simp [results, Tryz.results95, go_sem, z0, z1, z2, z3, z4, z5, z6, z7]) rfl ?_
  exact DrewR.mk_ (r := ⟨nm, 10, 0, false, [b], [], [], []⟩) (((show Rows4 w7 w.heap.size ⟨nm, 10, 0, false, [b], [], [], []⟩ (.slice (some ⟨w5.heap.size, 0, none⟩) 1 1) (.slice none 0 0) (.slice none 0 0) (.slice none 0 0) from ⟨OV.out, World.ownsRow_nil _ _ _ _, World.ownsRow_nil _ _ _ _, World.ownsRow_nil _ _ _ _, .inl rfl⟩).setBox (j := 4) (u := .slice (some ⟨w5.heap.size, 0, none⟩) 1 1) R7.out).all8 (Z7.out.setOther ⟨gr, 4, none⟩ (by show w.heap.size + 1 ≠ gr; omega) (.slice (some ⟨w5.heap.size, 0, none⟩) 1 1))) (drawn10 NM'.out HB92.out) (Cur.all8 (Cur.new (j := 4) (u := .slice (some ⟨w5.heap.size, 0, none⟩) 1 1) C7.out (by omega)) (by omega)) (grown_all8 (grown_new (j := 4) (u := .slice (some ⟨w5.heap.size, 0, none⟩) 1 1) G7.out (by omega)) (by omega))

end Go.Proofs.YtkjjgpkegihmhaaGreatDoor
