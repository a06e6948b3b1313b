/-
  ParseDescription of the program.
-/
import Derived.Test.YtkjjgpkegihmhaaGreatDoorGH
import Derived.Test.YtkjjgpkegihmhaaGreatDoorAddI
import Derived.Deep.RegionHeld3
import Derived.Deep.DeepCutAuto
namespace Go.Proofs.YtkjjgpkegihmhaaGreatDoor
open Go.RowKit
set_option linter.unusedVariables false

set_option maxRecDepth 100000 in
set_option maxHeartbeats 8000000 in
theorem i_ParseDescription (s : ByteArray) (hs : s.size ≤ 1048576) (w : World) (ht : Tab w) :
    Calls Tryz.prog 21 #[.string s] w (MadeL (descP s.data.toList) w) := by
  have sl := fun w => i_SplitLines s (by omega) w
  obtain ⟨F, hF⟩ : ∃ F, F = descP s.data.toList := ⟨_, rfl⟩
  rw [← hF]
  have hlen := linesL_len s.data.toList
  have hmem := fun p (h : p ∈ linesL s.data.toList) => (linesL_mem h).1
  rw [len_of] at hlen hmem
  obtain ⟨ps, hps⟩ : ∃ ps, ps = linesL s.data.toList := ⟨_, rfl⟩
  have HF : Hid (F = descGo [] 0 ps) := by show _ = _; rw [hF, hps]; rfl
  rw [← hps] at sl hlen hmem
  obtain ⟨n, hn⟩ : ∃ n, n = ps.length := ⟨_, rfl⟩
  have hnb : n ≤ 1048577 := by omega
  rw [tS_len, ← hn] at sl
  have SL := Lib.hid sl
  have HM := Lib.hid (fun p h => Nat.le_trans (hmem p h) hs)
  have HN := Lib.hid hn
  have HT := Lib.hid ht
  obtain ⟨w1, hw1⟩ : ∃ w1, w1 = w.alloc (.cells #[.slice none 0 0] 35) := ⟨_, rfl⟩
  have R1 := Lib.hid (show Box w1 w.heap.size 35 #[.slice none 0 0] by rw [hw1]; exact Box.new w _ _)
  have B1 := Lib.hid (show Below w.heap.size w w1 by rw [hw1]; exact (Below.refl _ _).alloc (Nat.le_refl _) _)
  have W1 := Lib.hid hw1
  clear sl hF hlen hmem hps hn ht hw1 hs
  go_enter Tryz.func21, Tryz.ntmps21
  go_wp2_with fail
  rw [← W1.out]
  refine (SL.out _).mono ?_
  rintro e w2 ⟨v, rfl, hv, hb2⟩
  have hrd := Rd.of_own hv
  obtain ⟨_, Al, cl, rfl, hlc, hlm, _⟩ := id hrd
  unfold maxLen at hlm
  have RL := Lib.hid hrd
  have B2 := Lib.hid (Below.then_ B1.out hb2 (Nat.le_refl _))
  have R2 := Lib.hid (R1.out.below hb2)
  obtain ⟨w3, hw3⟩ : ∃ w3, w3 = w2.alloc (.cells #[.slice none 0 0] 35) := ⟨_, rfl⟩
  obtain ⟨G, hG⟩ : ∃ G, G = w2.heap.size := ⟨_, rfl⟩
  have HG := Lib.hid hG
  have NE := Lib.hid (show ∀ b o u, w2.cell? ⟨b, o, none⟩ = some u → b ≠ G from fun b o u h => by have := World.block_lt_of_cell? w2 _ h; rw [hG]; exact Nat.ne_of_lt this)
  have LG := Lib.hid (show w.heap.size ≤ G ∧ w.heap.size ≠ G from by have h1 := R2.out.lt; rw [hG]; omega)
  have D3 := Lib.hid (show DSt w2 w.heap.size G F ps 0 [] w3 from ⟨by rw [HF.out, List.drop_zero], rulesGood_nil, by simp, ⟨none, 0, by rw [hw3, hG]; exact Box.new _ _ _, ⟨[], rfl, by simpa using World.ownsRow_nil w3 w.heap.size 30 8, by simp, by simp [blocks]⟩⟩, by rw [hw3]; exact World.grownBy_alloc _ _ _⟩)
  have W3 := Lib.hid hw3
  clear hv hrd hb2 hw3 hG
  go_wp2_with fail
  rw [← W3.out, ← HG.out]
  go_loopw [15] (fun i wr => ∃ (q : Nat) (cur : List RuleD), q ≤ n ∧ i = .int .i64 q ∧ DSt w2 w.heap.size G F ps q cur wr) (fun i _ => n - (intOf i).toNat)
  case atStart => exact ⟨0, [], Nat.zero_le _, rfl, D3.out⟩
  case round =>
    obtain ⟨q, cur, hq, rfl, hst⟩ := hrel
    have DS := Lib.hid hst
    have BR := Lib.hid (show Below w.heap.size w wr from B2.out.grown hst.gb B2.out.size (fun k hk => by injection hk with hk; have := LG.out.1; omega))
    have RR := Lib.hid (R2.out.grown hst.gb (fun e => by injection e with e; exact LG.out.2 e))
    obtain ⟨Ao, co, hbx, hor⟩ := hst.st
    have GR := Lib.hid hbx
    have OR := Lib.hid hor
    have hg0 := hst.good
    have h24 := hst.le
    have x0 : wr.cell? ⟨G, 0, none⟩ = some (.slice Ao cur.length co) := hbx.cell 0
    clear hst hbx hor
    by_cases hlt : q < n
    · have hkp : q < ps.length := by rw [← HN.out]; exact hlt
      obtain ⟨b, off, rfl, hc⟩ := texts_at (l := tS ps) (by have h := RL.out; rw [HN.out, ← tS_len] at h; exact h) (by rw [tS_len]; omega)
      have hcl0 : w2.cell? ⟨b, off + q, none⟩ = some (.string (mkS ps[q])) := by
        have h := hc q (by rw [tS_len]; exact hkp)
        simpa [tS] using h
      have hcl := DS.out.gb.cell hcl0 (fun e => by injection e with e; exact NE.out b _ _ hcl0 e)
      have hsz := HM.out ps[q] (List.getElem_mem hkp)
      have HD := Lib.hid (List.drop_eq_getElem_cons hkp)
      obtain ⟨t, ht⟩ : ∃ t, t = ps[q] := ⟨_, rfl⟩
      rw [← ht] at hcl hsz HD
      have ic := fun w => i_IsComment (mkS t) (by rw [mkS_size]; omega) w
      rw [mkS_list] at ic
      have ad := fun w ht hd => i_AddRule (.agg #[.slice Ao cur.length co]) cur (mkS t) (by rw [mkS_size]; omega) (by omega) (good_fits (by omega) hg0) (good_small (by omega) hg0) (good_names (by omega) hg0) w ht hd
      rw [mkS_list] at ad
      have IC := Lib.hid ic
      have AD := Lib.hid ad
      have HCL := Lib.hid hcl
      obtain ⟨tt, htt⟩ : ∃ tt, tt = mkS t := ⟨_, rfl⟩
      rw [← htt] at hcl IC AD HCL
      have hq0 : (0 : Int) ≤ (q : Int) := by omega
      have hqn : (q : Int) < (n : Int) := by omega
      clear hc hcl0 ht ic ad htt hg0
      go_wp2_with fail
      refine (IC.out _).mono ?_
      rintro e w4 ⟨rfl, hb4⟩
      have BE4 := Lib.hid hb4
      have B4 := Lib.hid (Below.then_ BR.out hb4 (Nat.le_refl _))
      have G4 := Lib.hid (GR.out.below hb4)
      have O4 := Lib.hid (OR.out.below hb4)
      have R4 := Lib.hid (RR.out.below hb4)
      have x4 : w4.cell? ⟨G, 0, none⟩ = some (.slice Ao cur.length co) := G4.out.cell 0
      have y4 : w4.cell? ⟨b, off + q, none⟩ = some (.string tt) := cell_after HCL.out hb4
      clear hb4
      cases hcm : isCommentL t with
      | true =>
        have HE := Lib.hid (DS.out.skip HD.out hcm BE4.out)
        clear hcm
        go_wp2_with fail
        go_roundw
        case rel => exact ⟨q + 1, cur, by omega, by go_num, HE.out⟩
        case measure => simp [intOf]; omega
      | false =>
        have HCM := Lib.hid hcm
        clear hcm
        go_wp2_with fail
        refine (AD.out _ (HT.out.below B4.out) ⟨_, rfl, O4.out.rd⟩).mono ?_
        rintro e w5 ⟨v5, rfl, hor5, hb5⟩
        obtain ⟨A5, c5, rfl⟩ := hor5.slice
        have B5 := Lib.hid (Below.then_ B4.out hb5 (Nat.le_refl _))
        have R5 := Lib.hid (R4.out.below hb5)
        have G5 := Lib.hid (G4.out.below hb5)
        obtain ⟨ln, hln⟩ : ∃ ln, ln = ((addL cur t).getD cur).length := ⟨_, rfl⟩
        have HLN := Lib.hid hln
        obtain ⟨w6, hw6⟩ : ∃ w6, w6 = w5.alloc (.cells #[.slice A5 ((addL cur t).getD cur).length c5] 35) := ⟨_, rfl⟩
        have B56 : Below w5.heap.size w5 w6 := by rw [hw6]; exact (Below.refl _ _).alloc (Nat.le_refl _) _
        have E6 := Lib.hid (Below.then_ BE4.out (Below.then_ hb5 B56 (Nat.le_refl _)) (Nat.le_refl _))
        have B6 := Lib.hid (Below.then_ B5.out B56 (Nat.le_refl _))
        have R6 := Lib.hid (R5.out.below B56)
        have G6 := Lib.hid (G5.out.below B56)
        have O6 := Lib.hid ((hor5.below B56).mono (show w.heap.size ≤ w4.heap.size from B4.out.size))
        have W6 := Lib.hid hw6
        rw [← hln] at hw6 ⊢
        have W6' := Lib.hid hw6
        have ra : (w5.alloc (.cells #[.slice A5 ln c5] 35)).cell? ⟨w.heap.size, 0, none⟩ = some (.slice none 0 0) := (R5.out.alloc _).cell 0
        have rb : (w5.alloc (.cells #[.slice A5 ln c5] 35)).frozen? ⟨w.heap.size, 0, none⟩ = false := (R5.out.alloc _).frozen 0
        have ga : (w5.alloc (.cells #[.slice A5 ln c5] 35)).cell? ⟨G, 0, none⟩ = some (.slice Ao cur.length co) := (G5.out.alloc _).cell 0
        have gb : (w5.alloc (.cells #[.slice A5 ln c5] 35)).frozen? ⟨G, 0, none⟩ = false := (G5.out.alloc _).frozen 0
        clear hor5 hb5 B56 hw6 hln x4 y4 x0 hcl
        cases hL : addL cur t with
        | none =>
          have hfin := Lib.hid (DS.out.bad HD.out HCM.out hL)
          rw [show (none : Option (List RuleD)).isSome = false from rfl]
          clear hL
          go_wp2_with fail
          rw [← W6'.out]
          have zz := R6.out.cell 0
          refine bodyPost_ret (v := .tuple #[.agg #[.slice none 0 0], .int .i64 ((q : Int) + 1)]) (by simp [results, Tryz.results21, go_sem, zz]) rfl ?_
          exact MadeL.mk_ hfin.out (by omega) ⟨[], rfl, by simpa using World.ownsRow_nil _ w.heap.size 30 8, by simp, by simp [blocks]⟩ (below_set B6.out (Nat.le_refl _) _)
        | some l' =>
          rw [hL, Option.getD_some] at HLN O6
          have HMO := Lib.hid (DS.out.more HD.out HCM.out hL)
          rw [show (some l').isSome = true from rfl]
          clear hL
          go_wp2_with fail
          go_roundw
          case rel =>
            rw [← W6'.out]
            refine ⟨q + 1, l', by omega, by go_num, ⟨HMO.out.1, HMO.out.2.1, HMO.out.2.2, ⟨A5, c5, ?_, ?_⟩, grown_set1 (grown_below DS.out.gb E6.out) _⟩⟩
            · rw [← HLN.out]; exact G6.out.set 0 _
            · rw [← HLN.out] at O6 ⊢; exact O6.out.setBox G6.out
          case measure => simp [intOf]; omega
    · obtain rfl : q = n := by omega
      have hla := Lib.hid (DS.out.last HN.out)
      have ra : wr.cell? ⟨w.heap.size, 0, none⟩ = some (.slice none 0 0) := RR.out.cell 0
      have rb : wr.frozen? ⟨w.heap.size, 0, none⟩ = false := RR.out.frozen 0
      by_cases hc0 : cur = []
      · have hfin : Hid (F = ([], q + 1)) := by show _ = _; rw [hla.out, if_pos hc0]
        have hz : cur.length = 0 := by rw [hc0]; rfl
        rw [hz] at x0
        clear hc0 hz
        go_wp2_with fail
        have zz := RR.out.cell 0
        refine bodyPost_ret (v := .tuple #[.agg #[.slice none 0 0], .int .i64 ((q : Int) + 1)]) (by simp [results, Tryz.results21, go_sem, zz]) rfl ?_
        exact MadeL.mk_ hfin.out (by omega) ⟨[], rfl, by simpa using World.ownsRow_nil _ w.heap.size 30 8, by simp, by simp [blocks]⟩ (below_set BR.out (Nat.le_refl _) _)
      · have hfin : Hid (F = (cur, 0)) := by show _ = _; rw [hla.out, if_neg hc0]
        have hz : 0 < cur.length := List.length_pos_iff.2 hc0
        have e0 : ((cur.length : Int) == 0) = false := by rw [beq_eq_false_iff_ne]; omega
        have e1 : (cur.length == 0) = false := by rw [beq_eq_false_iff_ne]; omega
        clear hc0
        go_wp2_with fail
        have zz := RR.out.cell 0
        refine bodyPost_ret (v := .tuple #[.agg #[.slice Ao cur.length co], .int .i64 0]) (by simp [results, Tryz.results21, go_sem, zz]) rfl ?_
        exact MadeL.mk_ hfin.out rfl (OR.out.setBox RR.out) (below_set BR.out (Nat.le_refl _) _)

end Go.Proofs.YtkjjgpkegihmhaaGreatDoor
