/-
  l4Make of the draws: the kinds with loops, a sequence and a choice.
-/
import Derived.Test.YtkjjgpkegihmhaaGreatDoorL4St
import Derived.Deep.RegionHeld3
import Derived.Deep.RegionLaw
import Derived.Deep.DeepCutAuto
namespace Go.Proofs.YtkjjgpkegihmhaaGreatDoor
open Go.RowKit
set_option linter.unusedVariables false

set_option maxRecDepth 100000 in
set_option maxHeartbeats 8000000 in
theorem s_l4Make6 (g : Nat) (v : Value) (l : List RuleD) (lo : Nat) (hdr : Drawn l) (h10 : l.length ≤ 9) (hpos : 0 < l.length) (w : World) (hc : Cur w g) (ho : OwnRules w lo v l) :
    Calls Tryz.prog 95 #[.pointer (some ⟨g, 0, none⟩), .agg #[v], .int .i64 6] w (DrewR 6 l g w) := by
  obtain ⟨A, c, rfl⟩ : ∃ A c, v = .slice A l.length c := by
    obtain ⟨A, c, h, _⟩ := ho.rd
    exact ⟨A, c, h⟩
  have hglt := hc.lt
  have DR := Lib.hid hdr
  have HO := Lib.hid ho
  have HC := Lib.hid hc
  obtain ⟨w1, hw1⟩ : ∃ w1, w1 = ((w.alloc (.cells #[.slice A l.length c] 35)).alloc (.cells #[.string ⟨#[]⟩, .int .i64 0, .int .i64 0, .bool false, .slice none 0 0, .slice none 0 0, .slice none 0 0, .slice none 0 0] 30)) := ⟨_, rfl⟩
  have B1 := Lib.hid (show Below w.heap.size w w1 by rw [hw1]; exact ((Below.refl _ _).alloc (Nat.le_refl _) _).alloc (by simp) _)
  have D1 := Lib.hid (show Box w1 w.heap.size 35 #[.slice A l.length c] by rw [hw1]; exact (Box.new w _ _).alloc _)
  have Z1 := Lib.hid (show Box w1 (w.heap.size + 1) 30 #[.string ⟨#[]⟩, .int .i64 0, .int .i64 0, .bool false, .slice none 0 0, .slice none 0 0, .slice none 0 0, .slice none 0 0] by rw [hw1]; exact box_new1 w _ _ _)
  have W1 := Lib.hid hw1
  have e1s : w1.heap.size = w.heap.size + 1 + 1 := by rw [hw1]; simp
  have ES1 := Lib.hid e1s
  have hnl := s_FormatInt (l.length : Int) ⟨by omega, by omega⟩
  obtain ⟨s2, hs2⟩ : ∃ s2, s2 = mkS (fmtInt (l.length : Int)) := ⟨_, rfl⟩
  have hsz2 : s2.size ≤ 20 := by rw [hs2, mkS_size]; exact fmtInt_len ⟨by omega, by omega⟩
  rw [← hs2] at hnl
  have FI := Lib.hid hnl
  have HS2 := Lib.hid hs2
  clear hdr hc ho hw1 e1s hnl hs2
  go_enter Tryz.func95, Tryz.ntmps95
  go_wp2_with fail
  rw [← W1.out, ← ES1.out]
  have hrd := Rd.lit w1 (cS makeNames) 9 5 rfl (by unfold maxLen; omega)
  refine (s_l1Str g _ makeNames (by decide) (by decide) _ ((HC.out.below B1.out).below ((Below.refl _ _).alloc (Nat.le_refl _) _)) hrd (by simp [Value.ownBlock]; have := B1.out.size; omega)).mono ?_
  rintro e w2 ⟨nm0, rfl, hmem, hc2, hg2⟩
  have hg12 : w1.grownBy w2 (some g) := grown_trans (grown_alloc (World.grownBy.refl w1 _) _) hg2
  have D2 := Lib.hid (D1.out.drawn hg12 (by omega))
  have Z2 := Lib.hid (Z1.out.drawn hg12 (by omega))
  have G2 := Lib.hid (grown_trans (grown_of_below B1.out) hg12)
  have C2 := Lib.hid hc2
  have hs12 := hg12.size
  obtain ⟨hnm, hsz0⟩ := name_of hmem HS2.out
  have NM := Lib.hid hnm
  clear hmem hc2 hg2 hg12 hnm hrd
  go_wp2_with fail
  refine (FI.out _).mono ?_
  rintro e w3 ⟨rfl, hb3⟩
  have D3 := Lib.hid (D2.out.below hb3)
  have Z3 := Lib.hid (Z2.out.below hb3)
  have G3 := Lib.hid (grown_then G2.out hb3)
  have C3 := Lib.hid (C2.out.below hb3)
  have hs23 := hb3.size
  have hlt3 : w.heap.size + 1 < w3.heap.size := Z3.out.lt
  have hov : ¬ (9223372036854775807 < nm0.size + s2.size) := by omega
  obtain ⟨w4, hw4⟩ : ∃ w4, w4 = w3.alloc (.cells #[.string (nm0 ++ s2), .int .i64 6, .int .i64 0, .bool false, .slice none 0 0, .slice none 0 0, .slice none 0 0, .slice none 0 0] 30) := ⟨_, rfl⟩
  obtain ⟨gr, hgr⟩ : ∃ gr, gr = w3.heap.size := ⟨_, rfl⟩
  have R4 := Lib.hid (show Box w4 gr 30 #[.string (nm0 ++ s2), .int .i64 6, .int .i64 0, .bool false, .slice none 0 0, .slice none 0 0, .slice none 0 0, .slice none 0 0] by rw [hw4, hgr]; exact Box.new _ _ _)
  have D4 := Lib.hid (show Box w4 w.heap.size 35 #[.slice A l.length c] by rw [hw4]; exact D3.out.alloc _)
  have Z4 := Lib.hid (show Box w4 (w.heap.size + 1) 30 #[.string ⟨#[]⟩, .int .i64 0, .int .i64 0, .bool false, .slice none 0 0, .slice none 0 0, .slice none 0 0, .slice none 0 0] by rw [hw4]; exact Z3.out.alloc _)
  have G4 := Lib.hid (show w.grownBy w4 (some g) by rw [hw4]; exact grown_alloc G3.out _)
  have C4 := Lib.hid (show Cur w4 g by rw [hw4]; exact C3.out.below ((Below.refl _ _).alloc (Nat.le_refl _) _))
  have hgl : w.heap.size + 1 < gr := by rw [hgr]; exact hlt3
  obtain ⟨nm, hnm⟩ : ∃ nm, nm = nm0 ++ s2 := ⟨_, rfl⟩
  have NM' := Lib.hid (show NameN l.length nm by rw [hnm]; exact NM.out)
  rw [← hnm] at R4 hw4
  have W4 := Lib.hid hw4
  have ES4 := Lib.hid (show w4.heap.size = gr + 1 by rw [hw4, hgr]; simp)
  have xr : (w3.alloc (.cells #[.string (nm0 ++ s2), .int .i64 6, .int .i64 0, .bool false, .slice none 0 0, .slice none 0 0, .slice none 0 0, .slice none 0 0] 30)).cell? ⟨w.heap.size, 0, none⟩ = some (.slice A l.length c) := (D3.out.alloc _).cell 0
  have HGR := Lib.hid hgr
  have HNM := Lib.hid hnm
  have x4 : w4.cell? ⟨w.heap.size, 0, none⟩ = some (.slice A l.length c) := D4.out.cell 0
  have y0 : w4.cell? ⟨gr, 0, none⟩ = some (.string nm) := R4.out.cell 0
  have f0 : w4.frozen? ⟨gr, 0, none⟩ = false := R4.out.frozen 0
  have y1 : w4.cell? ⟨gr, 1, none⟩ = some (.int .i64 6) := R4.out.cell 1
  have f1 : w4.frozen? ⟨gr, 1, none⟩ = false := R4.out.frozen 1
  have y2 : w4.cell? ⟨gr, 2, none⟩ = some (.int .i64 0) := R4.out.cell 2
  have f2 : w4.frozen? ⟨gr, 2, none⟩ = false := R4.out.frozen 2
  have y3 : w4.cell? ⟨gr, 3, none⟩ = some (.bool false) := R4.out.cell 3
  have f3 : w4.frozen? ⟨gr, 3, none⟩ = false := R4.out.frozen 3
  have y4 : w4.cell? ⟨gr, 4, none⟩ = some (.slice none 0 0) := R4.out.cell 4
  have f4 : w4.frozen? ⟨gr, 4, none⟩ = false := R4.out.frozen 4
  have y5 : w4.cell? ⟨gr, 5, none⟩ = some (.slice none 0 0) := R4.out.cell 5
  have f5 : w4.frozen? ⟨gr, 5, none⟩ = false := R4.out.frozen 5
  have y6 : w4.cell? ⟨gr, 6, none⟩ = some (.slice none 0 0) := R4.out.cell 6
  have f6 : w4.frozen? ⟨gr, 6, none⟩ = false := R4.out.frozen 6
  have y7 : w4.cell? ⟨gr, 7, none⟩ = some (.slice none 0 0) := R4.out.cell 7
  have f7 : w4.frozen? ⟨gr, 7, none⟩ = false := R4.out.frozen 7
  clear hb3 hgr hw4 hs12 hs23 hnm
  go_wp2_with fail
  rw [← HNM.out, ← W4.out, ← HGR.out]
  clear xr
  have S4 := Lib.hid (show QSt w g gr A l.length c ⟨nm, 6, 0, false, [], [], [], []⟩ (.slice none 0 0) (.slice none 0 0) (.slice none 0 0) (.slice none 0 0) w4 from ⟨Rows4.nil w4 w.heap.size rfl rfl rfl rfl, R4.out, Z4.out, D4.out, C4.out, G4.out, hglt, hgl⟩)
  refine (s_l1Below g 3 (by omega) _ C4.out).mono ?_
  rintro e w5 ⟨x, rfl, ⟨hx1, hx2, _⟩, hc5, hg5⟩
  have hx3 := hx2 (by omega)
  have S5 := Lib.hid (S4.out.go hg5 hc5)
  obtain ⟨m, hm⟩ : ∃ m : Nat, (m : Int) = 1 + x := ⟨(1 + x).toNat, by omega⟩
  have hm3 : 1 ≤ m ∧ m ≤ 3 := by omega
  have HM := Lib.hid hm
  obtain ⟨j0, hjf, hy0, hy1, hy2⟩ := info_parts info_String
  obtain ⟨i0, hif, hz0, hz1, hz2⟩ := info_parts info_Int
  clear y0 f0 y1 f1 y2 f2 y3 f3 y4 f4 y5 f5 y6 f6 y7 f7 x4 hx2 hc5 hg5 hm
  go_wp2_with fail
  rw [← HM.out]
  go_loopw [9] (fun i wr => ∃ (q : Nat) (ns : List ByteArray) (ks : List Int) (vn vk : Value), i = .int .i64 q ∧ SeqN l m q ns ks ∧ QSt w g gr A l.length c ⟨nm, 6, 0, false, [], ns, [], ks⟩ (.slice none 0 0) (vn) (.slice none 0 0) (vk) wr) (fun i _ => (intOf i).toNat)
  case atStart => exact ⟨m, [], [], _, _, rfl, SeqN.start m, S5.out⟩
  case round =>
    obtain ⟨q, ns, ks, vn, vk, rfl, hsq, hst⟩ := hrel
    obtain ⟨An, cn, At, ct, Ak, ck, rfl, _, rfl⟩ := hst.slices
    have hqm := hsq.le
    have hlns : ns.length ≤ 3 := by have := hsq.ln; omega
    have hlks : ks.length ≤ 3 := by have := hsq.lk; omega
    have SQ := Lib.hid hsq
    have SR := Lib.hid hst
    have hszr := hst.size
    clear hsq hst
    by_cases hq : 0 < q
    · have hq0 : (0 : Int) < (q : Int) := by omega
      have hq64 : (q : Int) ≤ 3 := by omega
      have hnl := s_FormatInt (q : Int) ⟨by omega, by omega⟩
      obtain ⟨s3, hs3⟩ : ∃ s3, s3 = mkS (fmtInt (q : Int)) := ⟨_, rfl⟩
      have hsz3 : s3.size ≤ 20 := by rw [hs3, mkS_size]; exact fmtInt_len ⟨by omega, by omega⟩
      rw [← hs3] at hnl
      have F3 := Lib.hid hnl
      have HS3 := Lib.hid hs3
      have KEEP := Lib.hid (show ∀ W, QSt w g gr A l.length c ⟨nm, 6, 0, false, [], ns, [], ks⟩ (.slice none 0 0) (.slice An ns.length cn) (.slice none 0 0) (.slice Ak ks.length ck) W → W.cell? ⟨gr, 5, none⟩ = some (.slice An ns.length cn) from fun W h => h.bx.cell 5)
      clear hnl hs3
      go_wp2_with fail
      go_cut [86] (fun _ wx => ∃ y An' cn', (∃ p ∈ preN, y.data.toList = p ++ fmtInt (q : Int)) ∧ QSt w g gr A l.length c ⟨nm, 6, 0, false, [], (ns ++ [y]), [], ks⟩ (.slice none 0 0) ((.slice An' (ns.length + 1) cn')) (.slice none 0 0) (.slice Ak ks.length ck) wx)
      case first =>
        have xr5 : wr.cell? ⟨gr, 5, none⟩ = some (.slice An ns.length cn) := SR.out.bx.cell 5
        have xr6 : (wr.alloc (.cells #[.string ⟨#[112]⟩, .string ⟨#[113]⟩, .string ⟨#[114]⟩] 9)).cell? ⟨gr, 5, none⟩ = some (.slice An ns.length cn) := (SR.out.bx.alloc _).cell 5
        go_region_law
          (first
            | (refine step_append_rd _ (by rfl) (.tmp 78) (.tmp 85) 27 (by rfl) w.heap.size 9 j0 (.string ⟨#[]⟩) 1 16 Tryz.underlying27 hjf hy0 hy1 hy2 (by rfl) (by decide) (.slice An ns.length cn) ns.length (cS ns) (by rfl) (QSt.r4 (show QSt w g gr A l.length c ⟨nm, 6, 0, false, [], ns, [], ks⟩ (.slice none 0 0) (.slice An ns.length cn) (.slice none 0 0) (.slice Ak ks.length ck) _ from (by first | ((repeat (first | with_reducible exact SS.out | with_reducible exact SF.out | with_reducible exact SR.out | with_reducible refine QSt.drew ?_ | with_reducible refine QSt.alloc ?_ _)); done) | fail))).n _ 1 (cS [s1 ++ s3]) (by rfl) (Rd.lit _ (cS [s1 ++ s3]) 9 1 rfl (by unfold maxLen; omega)) (cS_one _) (by unfold maxLen; omega) (by omega) (QSt.size (show QSt w g gr A l.length c ⟨nm, 6, 0, false, [], ns, [], ks⟩ (.slice none 0 0) (.slice An ns.length cn) (.slice none 0 0) (.slice Ak ks.length ck) _ from (by first | ((repeat (first | with_reducible exact SS.out | with_reducible exact SF.out | with_reducible exact SR.out | with_reducible refine QSt.drew ?_ | with_reducible refine QSt.alloc ?_ _)); done) | fail))) ?_; intro v8 w8 ho8 hg8 hp8; obtain ⟨A8, c8, rfl⟩ : ∃ A c, v8 = .slice A (ns.length + 1) c := (by obtain ⟨_, A, c, h, _⟩ := Rd.of_own ho8; exact ⟨A, c, h⟩); have B8 := (QSt.row (show QSt w g gr A l.length c ⟨nm, 6, 0, false, [], ns, [], ks⟩ (.slice none 0 0) (.slice An ns.length cn) (.slice none 0 0) (.slice Ak ks.length ck) _ from (by first | ((repeat (first | with_reducible exact SS.out | with_reducible exact SF.out | with_reducible exact SR.out | with_reducible refine QSt.drew ?_ | with_reducible refine QSt.alloc ?_ _)); done) | fail)) (QSt.r4 (show QSt w g gr A l.length c ⟨nm, 6, 0, false, [], ns, [], ks⟩ (.slice none 0 0) (.slice An ns.length cn) (.slice none 0 0) (.slice Ak ks.length ck) _ from (by first | ((repeat (first | with_reducible exact SS.out | with_reducible exact SF.out | with_reducible exact SR.out | with_reducible refine QSt.drew ?_ | with_reducible refine QSt.alloc ?_ _)); done) | fail))).n (by decide) (by decide) (by decide) hg8).1; have c8' : w8.cell? ⟨gr, 5, none⟩ = some (.slice An ns.length cn) := B8.cell 5; have f8' : w8.frozen? ⟨gr, 5, none⟩ = false := B8.frozen 5; have S8 := Lib.hid (QSt.name (show QSt w g gr A l.length c ⟨nm, 6, 0, false, [], ns, [], ks⟩ (.slice none 0 0) (.slice An ns.length cn) (.slice none 0 0) (.slice Ak ks.length ck) _ from (by first | ((repeat (first | with_reducible exact SS.out | with_reducible exact SF.out | with_reducible exact SR.out | with_reducible refine QSt.drew ?_ | with_reducible refine QSt.alloc ?_ _)); done) | fail)) ho8 hg8); clear B8 ho8 hg8 hp8)
            | (go_simp; go_at_call 99; refine (s_l1Str g _ partNames (by decide) (by decide) _ (QSt.cur (show QSt w g gr A l.length c ⟨nm, 6, 0, false, [], ns, [], ks⟩ (.slice none 0 0) (.slice An ns.length cn) (.slice none 0 0) (.slice Ak ks.length ck) _ from (by first | ((repeat (first | with_reducible exact SS.out | with_reducible exact SF.out | with_reducible exact SR.out | with_reducible refine QSt.drew ?_ | with_reducible refine QSt.alloc ?_ _)); done) | fail))) (by first | exact Rd.lit _ (cS partNames) 9 3 rfl (by unfold maxLen; omega) | fail) (by (try simp [Value.ownBlock]); omega)).mono ?_; rintro e wS ⟨s1, rfl, hm1, hcS, hgS⟩; have PN := Lib.hid (part_of hm1 HS3.out).1; have hsz1 := (part_of hm1 HS3.out).2; have hov3 : ¬ (9223372036854775807 < s1.size + s3.size) := (by omega); have SS := Lib.hid (QSt.go (show QSt w g gr A l.length c ⟨nm, 6, 0, false, [], ns, [], ks⟩ (.slice none 0 0) (.slice An ns.length cn) (.slice none 0 0) (.slice Ak ks.length ck) _ from (by first | ((repeat (first | with_reducible exact SS.out | with_reducible exact SF.out | with_reducible exact SR.out | with_reducible refine QSt.drew ?_ | with_reducible refine QSt.alloc ?_ _)); done) | fail)) hgS hcS); have xS5 : wS.cell? ⟨gr, 5, none⟩ = some (.slice An ns.length cn) := SS.out.bx.cell 5; have xS6 : (wS.alloc (.cells #[.string (s1 ++ s3)] 9)).cell? ⟨gr, 5, none⟩ = some (.slice An ns.length cn) := (SS.out.bx.alloc _).cell 5; clear hm1 hcS hgS hsz1)
            | (go_simp; go_at_call 76; refine (F3.out _).mono ?_; rintro e wF ⟨rfl, hbF⟩; have SF := Lib.hid (QSt.below (show QSt w g gr A l.length c ⟨nm, 6, 0, false, [], ns, [], ks⟩ (.slice none 0 0) (.slice An ns.length cn) (.slice none 0 0) (.slice Ak ks.length ck) _ from (by first | ((repeat (first | with_reducible exact SS.out | with_reducible exact SF.out | with_reducible exact SR.out | with_reducible refine QSt.drew ?_ | with_reducible refine QSt.alloc ?_ _)); done) | fail)) hbF); have xF5 : wF.cell? ⟨gr, 5, none⟩ = some (.slice An ns.length cn) := SF.out.bx.cell 5; have xF6 : (wF.alloc (.cells #[.string ⟨#[112]⟩, .string ⟨#[113]⟩, .string ⟨#[114]⟩] 9)).cell? ⟨gr, 5, none⟩ = some (.slice An ns.length cn) := (SF.out.bx.alloc _).cell 5; (try (have xF7 : (wF.alloc (.cells #[.string (s1 ++ s3)] 9)).cell? ⟨gr, 5, none⟩ = some (.slice An ns.length cn) := (SF.out.bx.alloc _).cell 5)); clear hbF)
            | fail)
        all_goals
          go_wp2_with fail
          go_meet
          exact ⟨s1 ++ s3, A8, c8, PN.out, S8.out⟩
      case rest =>
        obtain ⟨y, An', cn', hpn, hst'⟩ := hcut
        rename World => wu
        have PNY := Lib.hid hpn
        have SU := Lib.hid hst'
        have xu7 : wu.cell? ⟨gr, 7, none⟩ = some (.slice Ak ks.length ck) := hst'.bx.cell 7
        clear hpn hst'
        go_wp2_with fail
        obtain ⟨i, rfl⟩ : ∃ i, q = i + 1 := ⟨q - 1, by omega⟩
        go_region_law
          (first
            | (refine step_append_rd _ (by rfl) (.tmp 89) (.tmp 93) 28 (by rfl) w.heap.size 3 i0 (.int .i64 0) 1 8 Tryz.underlying28 hif hz0 hz1 hz2 (by rfl) (by decide) (.slice Ak ks.length ck) ks.length (cI ks) (by rfl) (QSt.r4 (show QSt w g gr A l.length c ⟨nm, 6, 0, false, [], (ns ++ [y]), [], ks⟩ (.slice none 0 0) ((.slice An' (ns.length + 1) cn')) (.slice none 0 0) (.slice Ak ks.length ck) _ from (by first | ((repeat (first | with_reducible exact SS.out | with_reducible exact SU.out | with_reducible refine QSt.drew ?_ | with_reducible refine QSt.alloc ?_ _)); done) | fail))).k _ 1 (cI [k]) (by rfl) (Rd.lit _ (cI [k]) 3 1 rfl (by unfold maxLen; omega)) (cI_one _) (by unfold maxLen; omega) (by omega) (QSt.size (show QSt w g gr A l.length c ⟨nm, 6, 0, false, [], (ns ++ [y]), [], ks⟩ (.slice none 0 0) ((.slice An' (ns.length + 1) cn')) (.slice none 0 0) (.slice Ak ks.length ck) _ from (by first | ((repeat (first | with_reducible exact SS.out | with_reducible exact SU.out | with_reducible refine QSt.drew ?_ | with_reducible refine QSt.alloc ?_ _)); done) | fail))) ?_; intro v8 w8 ho8 hg8 hp8; obtain ⟨A8, c8, rfl⟩ : ∃ A c, v8 = .slice A (ks.length + 1) c := (by obtain ⟨_, A, c, h, _⟩ := Rd.of_own ho8; exact ⟨A, c, h⟩); have B8 := (QSt.row (show QSt w g gr A l.length c ⟨nm, 6, 0, false, [], (ns ++ [y]), [], ks⟩ (.slice none 0 0) ((.slice An' (ns.length + 1) cn')) (.slice none 0 0) (.slice Ak ks.length ck) _ from (by first | ((repeat (first | with_reducible exact SS.out | with_reducible exact SU.out | with_reducible refine QSt.drew ?_ | with_reducible refine QSt.alloc ?_ _)); done) | fail)) (QSt.r4 (show QSt w g gr A l.length c ⟨nm, 6, 0, false, [], (ns ++ [y]), [], ks⟩ (.slice none 0 0) ((.slice An' (ns.length + 1) cn')) (.slice none 0 0) (.slice Ak ks.length ck) _ from (by first | ((repeat (first | with_reducible exact SS.out | with_reducible exact SU.out | with_reducible refine QSt.drew ?_ | with_reducible refine QSt.alloc ?_ _)); done) | fail))).k (by decide) (by decide) (by decide) hg8).1; have c8' : w8.cell? ⟨gr, 7, none⟩ = some (.slice Ak ks.length ck) := B8.cell 7; have f8' : w8.frozen? ⟨gr, 7, none⟩ = false := B8.frozen 7; have S8 := Lib.hid (QSt.kid (show QSt w g gr A l.length c ⟨nm, 6, 0, false, [], (ns ++ [y]), [], ks⟩ (.slice none 0 0) ((.slice An' (ns.length + 1) cn')) (.slice none 0 0) (.slice Ak ks.length ck) _ from (by first | ((repeat (first | with_reducible exact SS.out | with_reducible exact SU.out | with_reducible refine QSt.drew ?_ | with_reducible refine QSt.alloc ?_ _)); done) | fail)) ho8 hg8 hp8); clear B8 ho8 hg8 hp8)
            | (go_simp; go_at_call 96; refine (s_l1Below g (l.length : Int) (by omega) _ (QSt.cur (show QSt w g gr A l.length c ⟨nm, 6, 0, false, [], (ns ++ [y]), [], ks⟩ (.slice none 0 0) ((.slice An' (ns.length + 1) cn')) (.slice none 0 0) (.slice Ak ks.length ck) _ from (by first | ((repeat (first | with_reducible exact SS.out | with_reducible exact SU.out | with_reducible refine QSt.drew ?_ | with_reducible refine QSt.alloc ?_ _)); done) | fail)))).mono ?_; rintro e wS ⟨k, rfl, ⟨hk1, hk2, _⟩, hcS, hgS⟩; have KID := Lib.hid (show 0 ≤ k ∧ k < (l.length : Int) from ⟨hk1, hk2 (by omega)⟩); have SS := Lib.hid (QSt.go (show QSt w g gr A l.length c ⟨nm, 6, 0, false, [], (ns ++ [y]), [], ks⟩ (.slice none 0 0) ((.slice An' (ns.length + 1) cn')) (.slice none 0 0) (.slice Ak ks.length ck) _ from (by first | ((repeat (first | with_reducible exact SS.out | with_reducible exact SU.out | with_reducible refine QSt.drew ?_ | with_reducible refine QSt.alloc ?_ _)); done) | fail)) hgS hcS); have xS5 : wS.cell? ⟨gr, 7, none⟩ = some (.slice Ak ks.length ck) := SS.out.bx.cell 7; have xS6 : (wS.alloc (.cells #[.int .i64 k] 3)).cell? ⟨gr, 7, none⟩ = some (.slice Ak ks.length ck) := (SS.out.bx.alloc _).cell 7; clear hk1 hk2 hcS hgS)
            | fail)
        all_goals
          go_wp2_with fail
          go_roundw
          case rel => exact ⟨i, ns ++ [y], ks ++ [k], _, _, by go_num, SeqN.step SQ.out PNY.out KID.out, S8.out⟩
          case measure => simp [intOf] <;> omega
    · obtain rfl : q = 0 := by omega
      have RB := Lib.hid SR.out.bx
      have ZB := Lib.hid SR.out.z
      have y0 : wr.cell? ⟨gr, 0, none⟩ = some (.string nm) := RB.out.cell 0
      have f0 : wr.frozen? ⟨gr, 0, none⟩ = false := RB.out.frozen 0
      have y1 : wr.cell? ⟨gr, 1, none⟩ = some (.int .i64 6) := RB.out.cell 1
      have f1 : wr.frozen? ⟨gr, 1, none⟩ = false := RB.out.frozen 1
      have y2 : wr.cell? ⟨gr, 2, none⟩ = some (.int .i64 0) := RB.out.cell 2
      have f2 : wr.frozen? ⟨gr, 2, none⟩ = false := RB.out.frozen 2
      have y3 : wr.cell? ⟨gr, 3, none⟩ = some (.bool false) := RB.out.cell 3
      have f3 : wr.frozen? ⟨gr, 3, none⟩ = false := RB.out.frozen 3
      have y4 : wr.cell? ⟨gr, 4, none⟩ = some (.slice none 0 0) := RB.out.cell 4
      have f4 : wr.frozen? ⟨gr, 4, none⟩ = false := RB.out.frozen 4
      have y5 : wr.cell? ⟨gr, 5, none⟩ = some (.slice An ns.length cn) := RB.out.cell 5
      have f5 : wr.frozen? ⟨gr, 5, none⟩ = false := RB.out.frozen 5
      have y6 : wr.cell? ⟨gr, 6, none⟩ = some (.slice none 0 0) := RB.out.cell 6
      have f6 : wr.frozen? ⟨gr, 6, none⟩ = false := RB.out.frozen 6
      have y7 : wr.cell? ⟨gr, 7, none⟩ = some (.slice Ak ks.length ck) := RB.out.cell 7
      have f7 : wr.frozen? ⟨gr, 7, none⟩ = false := RB.out.frozen 7
      have z0 : wr.cell? ⟨w.heap.size + 1, 0, none⟩ = some (.string ⟨#[]⟩) := ZB.out.cell 0
      have q0 : wr.frozen? ⟨w.heap.size + 1, 0, none⟩ = false := ZB.out.frozen 0
      have z1 : wr.cell? ⟨w.heap.size + 1, 1, none⟩ = some (.int .i64 0) := ZB.out.cell 1
      have q1 : wr.frozen? ⟨w.heap.size + 1, 1, none⟩ = false := ZB.out.frozen 1
      have z2 : wr.cell? ⟨w.heap.size + 1, 2, none⟩ = some (.int .i64 0) := ZB.out.cell 2
      have q2 : wr.frozen? ⟨w.heap.size + 1, 2, none⟩ = false := ZB.out.frozen 2
      have z3 : wr.cell? ⟨w.heap.size + 1, 3, none⟩ = some (.bool false) := ZB.out.cell 3
      have q3 : wr.frozen? ⟨w.heap.size + 1, 3, none⟩ = false := ZB.out.frozen 3
      have z4 : wr.cell? ⟨w.heap.size + 1, 4, none⟩ = some (.slice none 0 0) := ZB.out.cell 4
      have q4 : wr.frozen? ⟨w.heap.size + 1, 4, none⟩ = false := ZB.out.frozen 4
      have z5 : wr.cell? ⟨w.heap.size + 1, 5, none⟩ = some (.slice none 0 0) := ZB.out.cell 5
      have q5 : wr.frozen? ⟨w.heap.size + 1, 5, none⟩ = false := ZB.out.frozen 5
      have z6 : wr.cell? ⟨w.heap.size + 1, 6, none⟩ = some (.slice none 0 0) := ZB.out.cell 6
      have q6 : wr.frozen? ⟨w.heap.size + 1, 6, none⟩ = false := ZB.out.frozen 6
      have z7 : wr.cell? ⟨w.heap.size + 1, 7, none⟩ = some (.slice none 0 0) := ZB.out.cell 7
      have q7 : wr.frozen? ⟨w.heap.size + 1, 7, none⟩ = false := ZB.out.frozen 7
      go_wp2_with fail
      refine bodyPost_ret (v := .agg #[.string nm, .int .i64 6, .int .i64 0, .bool false, .slice none 0 0, .slice An ns.length cn, .slice none 0 0, .slice Ak ks.length ck]) (by simp [results, Tryz.results95, go_sem, z0, z1, z2, z3, z4, z5, z6, z7]) rfl ?_
      exact QSt.end SR.out (drawn6 NM'.out hm3 SQ.out)

set_option maxRecDepth 100000 in
set_option maxHeartbeats 8000000 in
theorem s_l4Make7 (g : Nat) (v : Value) (l : List RuleD) (lo : Nat) (hdr : Drawn l) (h10 : l.length ≤ 9) (hpos : 0 < l.length) (w : World) (hc : Cur w g) (ho : OwnRules w lo v l) :
    Calls Tryz.prog 95 #[.pointer (some ⟨g, 0, none⟩), .agg #[v], .int .i64 7] w (DrewR 7 l g w) := by
  obtain ⟨A, c, rfl⟩ : ∃ A c, v = .slice A l.length c := by
    obtain ⟨A, c, h, _⟩ := ho.rd
    exact ⟨A, c, h⟩
  have hglt := hc.lt
  have DR := Lib.hid hdr
  have HO := Lib.hid ho
  have HC := Lib.hid hc
  obtain ⟨w1, hw1⟩ : ∃ w1, w1 = ((w.alloc (.cells #[.slice A l.length c] 35)).alloc (.cells #[.string ⟨#[]⟩, .int .i64 0, .int .i64 0, .bool false, .slice none 0 0, .slice none 0 0, .slice none 0 0, .slice none 0 0] 30)) := ⟨_, rfl⟩
  have B1 := Lib.hid (show Below w.heap.size w w1 by rw [hw1]; exact ((Below.refl _ _).alloc (Nat.le_refl _) _).alloc (by simp) _)
  have D1 := Lib.hid (show Box w1 w.heap.size 35 #[.slice A l.length c] by rw [hw1]; exact (Box.new w _ _).alloc _)
  have Z1 := Lib.hid (show Box w1 (w.heap.size + 1) 30 #[.string ⟨#[]⟩, .int .i64 0, .int .i64 0, .bool false, .slice none 0 0, .slice none 0 0, .slice none 0 0, .slice none 0 0] by rw [hw1]; exact box_new1 w _ _ _)
  have W1 := Lib.hid hw1
  have e1s : w1.heap.size = w.heap.size + 1 + 1 := by rw [hw1]; simp
  have ES1 := Lib.hid e1s
  have hnl := s_FormatInt (l.length : Int) ⟨by omega, by omega⟩
  obtain ⟨s2, hs2⟩ : ∃ s2, s2 = mkS (fmtInt (l.length : Int)) := ⟨_, rfl⟩
  have hsz2 : s2.size ≤ 20 := by rw [hs2, mkS_size]; exact fmtInt_len ⟨by omega, by omega⟩
  rw [← hs2] at hnl
  have FI := Lib.hid hnl
  have HS2 := Lib.hid hs2
  clear hdr hc ho hw1 e1s hnl hs2
  go_enter Tryz.func95, Tryz.ntmps95
  go_wp2_with fail
  rw [← W1.out, ← ES1.out]
  have hrd := Rd.lit w1 (cS makeNames) 9 5 rfl (by unfold maxLen; omega)
  refine (s_l1Str g _ makeNames (by decide) (by decide) _ ((HC.out.below B1.out).below ((Below.refl _ _).alloc (Nat.le_refl _) _)) hrd (by simp [Value.ownBlock]; have := B1.out.size; omega)).mono ?_
  rintro e w2 ⟨nm0, rfl, hmem, hc2, hg2⟩
  have hg12 : w1.grownBy w2 (some g) := grown_trans (grown_alloc (World.grownBy.refl w1 _) _) hg2
  have D2 := Lib.hid (D1.out.drawn hg12 (by omega))
  have Z2 := Lib.hid (Z1.out.drawn hg12 (by omega))
  have G2 := Lib.hid (grown_trans (grown_of_below B1.out) hg12)
  have C2 := Lib.hid hc2
  have hs12 := hg12.size
  obtain ⟨hnm, hsz0⟩ := name_of hmem HS2.out
  have NM := Lib.hid hnm
  clear hmem hc2 hg2 hg12 hnm hrd
  go_wp2_with fail
  refine (FI.out _).mono ?_
  rintro e w3 ⟨rfl, hb3⟩
  have D3 := Lib.hid (D2.out.below hb3)
  have Z3 := Lib.hid (Z2.out.below hb3)
  have G3 := Lib.hid (grown_then G2.out hb3)
  have C3 := Lib.hid (C2.out.below hb3)
  have hs23 := hb3.size
  have hlt3 : w.heap.size + 1 < w3.heap.size := Z3.out.lt
  have hov : ¬ (9223372036854775807 < nm0.size + s2.size) := by omega
  obtain ⟨w4, hw4⟩ : ∃ w4, w4 = w3.alloc (.cells #[.string (nm0 ++ s2), .int .i64 7, .int .i64 0, .bool false, .slice none 0 0, .slice none 0 0, .slice none 0 0, .slice none 0 0] 30) := ⟨_, rfl⟩
  obtain ⟨gr, hgr⟩ : ∃ gr, gr = w3.heap.size := ⟨_, rfl⟩
  have R4 := Lib.hid (show Box w4 gr 30 #[.string (nm0 ++ s2), .int .i64 7, .int .i64 0, .bool false, .slice none 0 0, .slice none 0 0, .slice none 0 0, .slice none 0 0] by rw [hw4, hgr]; exact Box.new _ _ _)
  have D4 := Lib.hid (show Box w4 w.heap.size 35 #[.slice A l.length c] by rw [hw4]; exact D3.out.alloc _)
  have Z4 := Lib.hid (show Box w4 (w.heap.size + 1) 30 #[.string ⟨#[]⟩, .int .i64 0, .int .i64 0, .bool false, .slice none 0 0, .slice none 0 0, .slice none 0 0, .slice none 0 0] by rw [hw4]; exact Z3.out.alloc _)
  have G4 := Lib.hid (show w.grownBy w4 (some g) by rw [hw4]; exact grown_alloc G3.out _)
  have C4 := Lib.hid (show Cur w4 g by rw [hw4]; exact C3.out.below ((Below.refl _ _).alloc (Nat.le_refl _) _))
  have hgl : w.heap.size + 1 < gr := by rw [hgr]; exact hlt3
  obtain ⟨nm, hnm⟩ : ∃ nm, nm = nm0 ++ s2 := ⟨_, rfl⟩
  have NM' := Lib.hid (show NameN l.length nm by rw [hnm]; exact NM.out)
  rw [← hnm] at R4 hw4
  have W4 := Lib.hid hw4
  have ES4 := Lib.hid (show w4.heap.size = gr + 1 by rw [hw4, hgr]; simp)
  have xr : (w3.alloc (.cells #[.string (nm0 ++ s2), .int .i64 7, .int .i64 0, .bool false, .slice none 0 0, .slice none 0 0, .slice none 0 0, .slice none 0 0] 30)).cell? ⟨w.heap.size, 0, none⟩ = some (.slice A l.length c) := (D3.out.alloc _).cell 0
  have HGR := Lib.hid hgr
  have HNM := Lib.hid hnm
  have x4 : w4.cell? ⟨w.heap.size, 0, none⟩ = some (.slice A l.length c) := D4.out.cell 0
  have y0 : w4.cell? ⟨gr, 0, none⟩ = some (.string nm) := R4.out.cell 0
  have f0 : w4.frozen? ⟨gr, 0, none⟩ = false := R4.out.frozen 0
  have y1 : w4.cell? ⟨gr, 1, none⟩ = some (.int .i64 7) := R4.out.cell 1
  have f1 : w4.frozen? ⟨gr, 1, none⟩ = false := R4.out.frozen 1
  have y2 : w4.cell? ⟨gr, 2, none⟩ = some (.int .i64 0) := R4.out.cell 2
  have f2 : w4.frozen? ⟨gr, 2, none⟩ = false := R4.out.frozen 2
  have y3 : w4.cell? ⟨gr, 3, none⟩ = some (.bool false) := R4.out.cell 3
  have f3 : w4.frozen? ⟨gr, 3, none⟩ = false := R4.out.frozen 3
  have y4 : w4.cell? ⟨gr, 4, none⟩ = some (.slice none 0 0) := R4.out.cell 4
  have f4 : w4.frozen? ⟨gr, 4, none⟩ = false := R4.out.frozen 4
  have y5 : w4.cell? ⟨gr, 5, none⟩ = some (.slice none 0 0) := R4.out.cell 5
  have f5 : w4.frozen? ⟨gr, 5, none⟩ = false := R4.out.frozen 5
  have y6 : w4.cell? ⟨gr, 6, none⟩ = some (.slice none 0 0) := R4.out.cell 6
  have f6 : w4.frozen? ⟨gr, 6, none⟩ = false := R4.out.frozen 6
  have y7 : w4.cell? ⟨gr, 7, none⟩ = some (.slice none 0 0) := R4.out.cell 7
  have f7 : w4.frozen? ⟨gr, 7, none⟩ = false := R4.out.frozen 7
  clear hb3 hgr hw4 hs12 hs23 hnm
  have IN := Lib.hid (fun (w' : World) (hc : Cur w' g) (hk : w.grownBy w' (some g)) => s_l4Integer g (.slice A l.length c) l hpos (by omega) (DR.out.first hpos) w' hc ((HO.out.drawn HC.out hk).rd))
  go_wp2_with fail
  rw [← HNM.out, ← W4.out, ← HGR.out]
  clear xr
  have S4 := Lib.hid (show QSt w g gr A l.length c ⟨nm, 7, 0, false, [], [], [], []⟩ (.slice none 0 0) (.slice none 0 0) (.slice none 0 0) (.slice none 0 0) w4 from ⟨Rows4.nil w4 w.heap.size rfl rfl rfl rfl, R4.out, Z4.out, D4.out, C4.out, G4.out, hglt, hgl⟩)
  refine (IN.out _ C4.out G4.out).mono ?_
  rintro e w5 ⟨k0, rfl, hk0, hc5, hg5⟩
  have K0 := Lib.hid hk0
  have S5 := Lib.hid (S4.out.go hg5 hc5)
  have S6 := Lib.hid (S5.out.lit (k := k0) rfl rfl)
  have a7 : (w5.alloc (.cells #[.int .i64 k0] 3)).cell? ⟨gr, 7, none⟩ = some (.slice none 0 0) := (S5.out.bx.alloc _).cell 7
  have b7 : (w5.alloc (.cells #[.int .i64 k0] 3)).frozen? ⟨gr, 7, none⟩ = false := (S5.out.bx.alloc _).frozen 7
  clear hc5 hg5 x4 hk0 y0 f0 y1 f1 y2 f2 y3 f3 y4 f4 y5 f5 y6 f6 y7 f7
  go_wp2_with fail
  refine (s_l1Below g 3 (by omega) _ S6.out.cur).mono ?_
  rintro e w6 ⟨x0, rfl, ⟨hx1, hx2, _⟩, hc6, hg6⟩
  have hx3 := hx2 (by omega)
  have S7 := Lib.hid (S6.out.go hg6 hc6)
  obtain ⟨m, hm⟩ : ∃ m : Nat, (m : Int) = 1 + x0 := ⟨(1 + x0).toNat, by omega⟩
  have hm3 : 1 ≤ m ∧ m ≤ 3 := by omega
  have HM := Lib.hid hm
  obtain ⟨i0, hif, hz0, hz1, hz2⟩ := info_parts info_Int
  clear a7 b7 hx2 hc6 hg6 hm
  go_wp2_with fail
  rw [← HM.out]
  go_loopw [10] (fun i wr => ∃ (q : Nat) (ts ks kk : List Int) (vt vk : Value), i = .int .i64 q ∧ q ≤ m ∧ ChoN l (m - q) ts ks ∧ kk = [k0] ++ ks ∧ QSt w g gr A l.length c ⟨nm, 7, 0, false, [], [], ts, kk⟩ (.slice none 0 0) (.slice none 0 0) (vt) (vk) wr) (fun i _ => (intOf i).toNat)
  case atStart => exact ⟨m, [], [], [k0], _, _, rfl, Nat.le_refl _, by rw [Nat.sub_self]; exact ChoN.start, rfl, S7.out⟩
  case round =>
    obtain ⟨q, ts, ks, kk, vt, vk, rfl, hqm, hsq, hkk, hst⟩ := hrel
    obtain ⟨An, cn, At, ct, Ak, ck, _, rfl, rfl⟩ := hst.slices
    have hltn : ts.length ≤ 3 := by have := hsq.lt; omega
    have hl0 : (0 : Int) ≤ (ts.length : Int) := by omega
    have hl3 : (ts.length : Int) ≤ 3 := by omega
    have hw4 : IntKind.i64.wrap (4 * (ts.length : Int)) = 4 * (ts.length : Int) := by rw [IntKind.wrap_i64]; omega
    have hlks : kk.length ≤ 4 := by have := hsq.lk; rw [hkk]; simp; omega
    have SQ := Lib.hid hsq
    have SR := Lib.hid hst
    have HKK := Lib.hid hkk
    have hszr := hst.size
    clear hsq hst hkk
    by_cases hq : 0 < q
    · have hq0 : (0 : Int) < (q : Int) := by omega
      have hq64 : (q : Int) ≤ 3 := by omega
      go_wp2_with fail
      go_cut [120] (fun _ wx => ∃ x At' ct', (0 ≤ x ∧ x < 4) ∧ QSt w g gr A l.length c ⟨nm, 7, 0, false, [], [], (ts ++ [4 * (ts.length : Int) + x]), kk⟩ (.slice none 0 0) (.slice none 0 0) ((.slice At' (ts.length + 1) ct')) (.slice Ak kk.length ck) wx)
      case first =>
        have xr5 : wr.cell? ⟨gr, 6, none⟩ = some (.slice At ts.length ct) := SR.out.bx.cell 6
        go_region_law
          (first
            | (refine step_append_rd _ (by rfl) (.tmp 111) (.tmp 119) 28 (by rfl) w.heap.size 3 i0 (.int .i64 0) 1 8 Tryz.underlying28 hif hz0 hz1 hz2 (by rfl) (by decide) (.slice At ts.length ct) ts.length (cI ts) (by rfl) (QSt.r4 (show QSt w g gr A l.length c ⟨nm, 7, 0, false, [], [], ts, kk⟩ (.slice none 0 0) (.slice none 0 0) (.slice At ts.length ct) (.slice Ak kk.length ck) _ from (by first | ((repeat (first | with_reducible exact SS.out | with_reducible exact SR.out | with_reducible refine QSt.drew ?_ | with_reducible refine QSt.alloc ?_ _)); done) | fail))).t _ 1 (cI [4 * (ts.length : Int) + x]) (by rfl) (Rd.lit _ (cI [4 * (ts.length : Int) + x]) 3 1 rfl (by unfold maxLen; omega)) (cI_one _) (by unfold maxLen; omega) (by omega) (QSt.size (show QSt w g gr A l.length c ⟨nm, 7, 0, false, [], [], ts, kk⟩ (.slice none 0 0) (.slice none 0 0) (.slice At ts.length ct) (.slice Ak kk.length ck) _ from (by first | ((repeat (first | with_reducible exact SS.out | with_reducible exact SR.out | with_reducible refine QSt.drew ?_ | with_reducible refine QSt.alloc ?_ _)); done) | fail))) ?_; intro v8 w8 ho8 hg8 hp8; obtain ⟨A8, c8, rfl⟩ : ∃ A c, v8 = .slice A (ts.length + 1) c := (by obtain ⟨_, A, c, h, _⟩ := Rd.of_own ho8; exact ⟨A, c, h⟩); have B8 := (QSt.row (show QSt w g gr A l.length c ⟨nm, 7, 0, false, [], [], ts, kk⟩ (.slice none 0 0) (.slice none 0 0) (.slice At ts.length ct) (.slice Ak kk.length ck) _ from (by first | ((repeat (first | with_reducible exact SS.out | with_reducible exact SR.out | with_reducible refine QSt.drew ?_ | with_reducible refine QSt.alloc ?_ _)); done) | fail)) (QSt.r4 (show QSt w g gr A l.length c ⟨nm, 7, 0, false, [], [], ts, kk⟩ (.slice none 0 0) (.slice none 0 0) (.slice At ts.length ct) (.slice Ak kk.length ck) _ from (by first | ((repeat (first | with_reducible exact SS.out | with_reducible exact SR.out | with_reducible refine QSt.drew ?_ | with_reducible refine QSt.alloc ?_ _)); done) | fail))).t (by decide) (by decide) (by decide) hg8).1; have c8' : w8.cell? ⟨gr, 6, none⟩ = some (.slice At ts.length ct) := B8.cell 6; have f8' : w8.frozen? ⟨gr, 6, none⟩ = false := B8.frozen 6; have S8 := Lib.hid (QSt.tag (show QSt w g gr A l.length c ⟨nm, 7, 0, false, [], [], ts, kk⟩ (.slice none 0 0) (.slice none 0 0) (.slice At ts.length ct) (.slice Ak kk.length ck) _ from (by first | ((repeat (first | with_reducible exact SS.out | with_reducible exact SR.out | with_reducible refine QSt.drew ?_ | with_reducible refine QSt.alloc ?_ _)); done) | fail)) ho8 hg8 hp8); clear B8 ho8 hg8 hp8)
            | (go_simp; go_at_call 96; refine (s_l1Below g 4 (by omega) _ (QSt.cur (show QSt w g gr A l.length c ⟨nm, 7, 0, false, [], [], ts, kk⟩ (.slice none 0 0) (.slice none 0 0) (.slice At ts.length ct) (.slice Ak kk.length ck) _ from (by first | ((repeat (first | with_reducible exact SS.out | with_reducible exact SR.out | with_reducible refine QSt.drew ?_ | with_reducible refine QSt.alloc ?_ _)); done) | fail)))).mono ?_; rintro e wS ⟨x, rfl, ⟨hk1, hk2, _⟩, hcS, hgS⟩; have hk3 := hk2 (by omega); have hw5 : IntKind.i64.wrap (4 * (ts.length : Int) + x) = 4 * (ts.length : Int) + x := (by rw [IntKind.wrap_i64]; omega); have KID := Lib.hid (show 0 ≤ x ∧ x < 4 from ⟨hk1, hk3⟩); have SS := Lib.hid (QSt.go (show QSt w g gr A l.length c ⟨nm, 7, 0, false, [], [], ts, kk⟩ (.slice none 0 0) (.slice none 0 0) (.slice At ts.length ct) (.slice Ak kk.length ck) _ from (by first | ((repeat (first | with_reducible exact SS.out | with_reducible exact SR.out | with_reducible refine QSt.drew ?_ | with_reducible refine QSt.alloc ?_ _)); done) | fail)) hgS hcS); have xS5 : wS.cell? ⟨gr, 6, none⟩ = some (.slice At ts.length ct) := SS.out.bx.cell 6; have xS6 : (wS.alloc (.cells #[.int .i64 (4 * (ts.length : Int) + x)] 3)).cell? ⟨gr, 6, none⟩ = some (.slice At ts.length ct) := (SS.out.bx.alloc _).cell 6; clear hk2 hcS hgS)
            | fail)
        all_goals
          go_wp2_with fail
          go_meet
          exact ⟨x, A8, c8, KID.out, S8.out⟩
      case rest =>
        obtain ⟨x, At', ct', hxx, hst'⟩ := hcut
        rename World => wu
        have XX := Lib.hid hxx
        have SU := Lib.hid hst'
        have xu7 : wu.cell? ⟨gr, 7, none⟩ = some (.slice Ak kk.length ck) := hst'.bx.cell 7
        clear hxx hst'
        go_wp2_with fail
        obtain ⟨i, rfl⟩ : ∃ i, q = i + 1 := ⟨q - 1, by omega⟩
        go_region_law
          (first
            | (refine step_append_rd _ (by rfl) (.tmp 123) (.tmp 127) 28 (by rfl) w.heap.size 3 i0 (.int .i64 0) 1 8 Tryz.underlying28 hif hz0 hz1 hz2 (by rfl) (by decide) (.slice Ak kk.length ck) kk.length (cI kk) (by rfl) (QSt.r4 (show QSt w g gr A l.length c ⟨nm, 7, 0, false, [], [], (ts ++ [4 * (ts.length : Int) + x]), kk⟩ (.slice none 0 0) (.slice none 0 0) ((.slice At' (ts.length + 1) ct')) (.slice Ak kk.length ck) _ from (by first | ((repeat (first | with_reducible exact SS.out | with_reducible exact SU.out | with_reducible refine QSt.drew ?_ | with_reducible refine QSt.alloc ?_ _)); done) | fail))).k _ 1 (cI [k]) (by rfl) (Rd.lit _ (cI [k]) 3 1 rfl (by unfold maxLen; omega)) (cI_one _) (by unfold maxLen; omega) (by omega) (QSt.size (show QSt w g gr A l.length c ⟨nm, 7, 0, false, [], [], (ts ++ [4 * (ts.length : Int) + x]), kk⟩ (.slice none 0 0) (.slice none 0 0) ((.slice At' (ts.length + 1) ct')) (.slice Ak kk.length ck) _ from (by first | ((repeat (first | with_reducible exact SS.out | with_reducible exact SU.out | with_reducible refine QSt.drew ?_ | with_reducible refine QSt.alloc ?_ _)); done) | fail))) ?_; intro v8 w8 ho8 hg8 hp8; obtain ⟨A8, c8, rfl⟩ : ∃ A c, v8 = .slice A (kk.length + 1) c := (by obtain ⟨_, A, c, h, _⟩ := Rd.of_own ho8; exact ⟨A, c, h⟩); have B8 := (QSt.row (show QSt w g gr A l.length c ⟨nm, 7, 0, false, [], [], (ts ++ [4 * (ts.length : Int) + x]), kk⟩ (.slice none 0 0) (.slice none 0 0) ((.slice At' (ts.length + 1) ct')) (.slice Ak kk.length ck) _ from (by first | ((repeat (first | with_reducible exact SS.out | with_reducible exact SU.out | with_reducible refine QSt.drew ?_ | with_reducible refine QSt.alloc ?_ _)); done) | fail)) (QSt.r4 (show QSt w g gr A l.length c ⟨nm, 7, 0, false, [], [], (ts ++ [4 * (ts.length : Int) + x]), kk⟩ (.slice none 0 0) (.slice none 0 0) ((.slice At' (ts.length + 1) ct')) (.slice Ak kk.length ck) _ from (by first | ((repeat (first | with_reducible exact SS.out | with_reducible exact SU.out | with_reducible refine QSt.drew ?_ | with_reducible refine QSt.alloc ?_ _)); done) | fail))).k (by decide) (by decide) (by decide) hg8).1; have c8' : w8.cell? ⟨gr, 7, none⟩ = some (.slice Ak kk.length ck) := B8.cell 7; have f8' : w8.frozen? ⟨gr, 7, none⟩ = false := B8.frozen 7; have S8 := Lib.hid (QSt.kid (show QSt w g gr A l.length c ⟨nm, 7, 0, false, [], [], (ts ++ [4 * (ts.length : Int) + x]), kk⟩ (.slice none 0 0) (.slice none 0 0) ((.slice At' (ts.length + 1) ct')) (.slice Ak kk.length ck) _ from (by first | ((repeat (first | with_reducible exact SS.out | with_reducible exact SU.out | with_reducible refine QSt.drew ?_ | with_reducible refine QSt.alloc ?_ _)); done) | fail)) ho8 hg8 hp8); clear B8 ho8 hg8 hp8)
            | (go_simp; go_at_call 96; refine (s_l1Below g (l.length : Int) (by omega) _ (QSt.cur (show QSt w g gr A l.length c ⟨nm, 7, 0, false, [], [], (ts ++ [4 * (ts.length : Int) + x]), kk⟩ (.slice none 0 0) (.slice none 0 0) ((.slice At' (ts.length + 1) ct')) (.slice Ak kk.length ck) _ from (by first | ((repeat (first | with_reducible exact SS.out | with_reducible exact SU.out | with_reducible refine QSt.drew ?_ | with_reducible refine QSt.alloc ?_ _)); done) | fail)))).mono ?_; rintro e wS ⟨k, rfl, ⟨hk1, hk2, _⟩, hcS, hgS⟩; have KID := Lib.hid (show 0 ≤ k ∧ k < (l.length : Int) from ⟨hk1, hk2 (by omega)⟩); have SS := Lib.hid (QSt.go (show QSt w g gr A l.length c ⟨nm, 7, 0, false, [], [], (ts ++ [4 * (ts.length : Int) + x]), kk⟩ (.slice none 0 0) (.slice none 0 0) ((.slice At' (ts.length + 1) ct')) (.slice Ak kk.length ck) _ from (by first | ((repeat (first | with_reducible exact SS.out | with_reducible exact SU.out | with_reducible refine QSt.drew ?_ | with_reducible refine QSt.alloc ?_ _)); done) | fail)) hgS hcS); have xS5 : wS.cell? ⟨gr, 7, none⟩ = some (.slice Ak kk.length ck) := SS.out.bx.cell 7; have xS6 : (wS.alloc (.cells #[.int .i64 k] 3)).cell? ⟨gr, 7, none⟩ = some (.slice Ak kk.length ck) := (SS.out.bx.alloc _).cell 7; clear hk1 hk2 hcS hgS)
            | fail)
        all_goals
          go_wp2_with fail
          go_roundw
          case rel =>
            refine ⟨i, ts ++ [4 * (ts.length : Int) + x], ks ++ [k], kk ++ [k], _, _, by go_num, by omega, ?_, by rw [HKK.out]; simp, S8.out⟩
            have h := SQ.out
            have e1 : ts.length = m - (i + 1) := h.lt
            rw [e1, show m - i = m - (i + 1) + 1 by omega]
            exact ChoN.step h XX.out KID.out
          case measure => simp [intOf] <;> omega
    · obtain rfl : q = 0 := by omega
      have RB := Lib.hid SR.out.bx
      have ZB := Lib.hid SR.out.z
      have y0 : wr.cell? ⟨gr, 0, none⟩ = some (.string nm) := RB.out.cell 0
      have f0 : wr.frozen? ⟨gr, 0, none⟩ = false := RB.out.frozen 0
      have y1 : wr.cell? ⟨gr, 1, none⟩ = some (.int .i64 7) := RB.out.cell 1
      have f1 : wr.frozen? ⟨gr, 1, none⟩ = false := RB.out.frozen 1
      have y2 : wr.cell? ⟨gr, 2, none⟩ = some (.int .i64 0) := RB.out.cell 2
      have f2 : wr.frozen? ⟨gr, 2, none⟩ = false := RB.out.frozen 2
      have y3 : wr.cell? ⟨gr, 3, none⟩ = some (.bool false) := RB.out.cell 3
      have f3 : wr.frozen? ⟨gr, 3, none⟩ = false := RB.out.frozen 3
      have y4 : wr.cell? ⟨gr, 4, none⟩ = some (.slice none 0 0) := RB.out.cell 4
      have f4 : wr.frozen? ⟨gr, 4, none⟩ = false := RB.out.frozen 4
      have y5 : wr.cell? ⟨gr, 5, none⟩ = some (.slice none 0 0) := RB.out.cell 5
      have f5 : wr.frozen? ⟨gr, 5, none⟩ = false := RB.out.frozen 5
      have y6 : wr.cell? ⟨gr, 6, none⟩ = some (.slice At ts.length ct) := RB.out.cell 6
      have f6 : wr.frozen? ⟨gr, 6, none⟩ = false := RB.out.frozen 6
      have y7 : wr.cell? ⟨gr, 7, none⟩ = some (.slice Ak kk.length ck) := RB.out.cell 7
      have f7 : wr.frozen? ⟨gr, 7, none⟩ = false := RB.out.frozen 7
      have z0 : wr.cell? ⟨w.heap.size + 1, 0, none⟩ = some (.string ⟨#[]⟩) := ZB.out.cell 0
      have q0 : wr.frozen? ⟨w.heap.size + 1, 0, none⟩ = false := ZB.out.frozen 0
      have z1 : wr.cell? ⟨w.heap.size + 1, 1, none⟩ = some (.int .i64 0) := ZB.out.cell 1
      have q1 : wr.frozen? ⟨w.heap.size + 1, 1, none⟩ = false := ZB.out.frozen 1
      have z2 : wr.cell? ⟨w.heap.size + 1, 2, none⟩ = some (.int .i64 0) := ZB.out.cell 2
      have q2 : wr.frozen? ⟨w.heap.size + 1, 2, none⟩ = false := ZB.out.frozen 2
      have z3 : wr.cell? ⟨w.heap.size + 1, 3, none⟩ = some (.bool false) := ZB.out.cell 3
      have q3 : wr.frozen? ⟨w.heap.size + 1, 3, none⟩ = false := ZB.out.frozen 3
      have z4 : wr.cell? ⟨w.heap.size + 1, 4, none⟩ = some (.slice none 0 0) := ZB.out.cell 4
      have q4 : wr.frozen? ⟨w.heap.size + 1, 4, none⟩ = false := ZB.out.frozen 4
      have z5 : wr.cell? ⟨w.heap.size + 1, 5, none⟩ = some (.slice none 0 0) := ZB.out.cell 5
      have q5 : wr.frozen? ⟨w.heap.size + 1, 5, none⟩ = false := ZB.out.frozen 5
      have z6 : wr.cell? ⟨w.heap.size + 1, 6, none⟩ = some (.slice none 0 0) := ZB.out.cell 6
      have q6 : wr.frozen? ⟨w.heap.size + 1, 6, none⟩ = false := ZB.out.frozen 6
      have z7 : wr.cell? ⟨w.heap.size + 1, 7, none⟩ = some (.slice none 0 0) := ZB.out.cell 7
      have q7 : wr.frozen? ⟨w.heap.size + 1, 7, none⟩ = false := ZB.out.frozen 7
      go_wp2_with fail
      refine bodyPost_ret (v := .agg #[.string nm, .int .i64 7, .int .i64 0, .bool false, .slice none 0 0, .slice none 0 0, .slice At ts.length ct, .slice Ak kk.length ck]) (by simp [results, Tryz.results95, go_sem, z0, z1, z2, z3, z4, z5, z6, z7]) rfl ?_
      exact QSt.end SR.out (by have h := SQ.out; rw [Nat.sub_zero] at h; rw [HKK.out]; exact drawn7 DR.out NM'.out K0.out hm3 h)

end Go.Proofs.YtkjjgpkegihmhaaGreatDoor
