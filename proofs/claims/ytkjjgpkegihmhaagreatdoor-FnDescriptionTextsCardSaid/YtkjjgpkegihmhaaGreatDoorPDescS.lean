/-
  ParseDescription of the reference.
-/
import Derived.Test.YtkjjgpkegihmhaaGreatDoorGH
import Derived.Test.YtkjjgpkegihmhaaGreatDoorAddS
import Derived.Deep.RegionHeld3
import Derived.Deep.DeepCutAuto
namespace Go.Proofs.YtkjjgpkegihmhaaGreatDoor
open Go.RowKit
set_option linter.unusedVariables false

set_option maxRecDepth 100000 in
set_option maxHeartbeats 8000000 in
theorem s_ParseDescription (s : ByteArray) (hs : s.size ≤ 1048576) (w : World) (ht : Tab w) :
    Calls Tryz.prog 20 #[.string s] w (MadeL (descP s.data.toList) w) := by
  have sl := fun w => s_SplitLines s (by omega) w
  obtain ⟨F, hF⟩ : ∃ F, F = descP s.data.toList := ⟨_, rfl⟩
  rw [← hF]
  have hlen := linesL_len s.data.toList
  have hmem := fun p (h : p ∈ linesL s.data.toList) => (linesL_mem h).1
  rw [len_of] at hlen hmem
  obtain ⟨ps, hps⟩ : ∃ ps, ps = linesL s.data.toList := ⟨_, rfl⟩
  have HF : Hid (F = descGo [] 0 ps) := by show _ = _; rw [hF, hps]; rfl
  rw [← hps] at sl hlen hmem
  obtain ⟨n, hn⟩ : ∃ n, n = ps.length := ⟨_, rfl⟩
  have hnb : n ≤ 1048577 := by omega
  rw [tS_len, ← hn] at sl
  have SL := Lib.hid sl
  have HM := Lib.hid (fun p h => Nat.le_trans (hmem p h) hs)
  have HN := Lib.hid hn
  have HT := Lib.hid ht
  obtain ⟨w1, hw1⟩ : ∃ w1, w1 = (w.alloc (.cells #[.slice none 0 0] 35)).alloc (.cells #[.slice none 0 0] 35) := ⟨_, rfl⟩
  obtain ⟨G, hG⟩ : ∃ G, G = w.heap.size + 1 := ⟨_, rfl⟩
  have R1 := Lib.hid (show Box w1 w.heap.size 35 #[.slice none 0 0] by rw [hw1]; exact (Box.new w _ _).alloc _)
  have G1 := Lib.hid (show Box w1 G 35 #[.slice none 0 0] by rw [hw1, hG]; exact box_new1 w _ _ _)
  have B1 := Lib.hid (show Below w.heap.size w w1 by rw [hw1]; exact ((Below.refl _ _).alloc (Nat.le_refl _) _).alloc (by simp) _)
  have W1 := Lib.hid hw1
  have HG := Lib.hid hG
  clear sl hF hlen hmem hps hn ht hw1 hs hG
  go_enter Tryz.func20, Tryz.ntmps20
  go_wp2_with fail
  rw [← W1.out, ← HG.out]
  refine (SL.out _).mono ?_
  rintro e w2 ⟨v, rfl, hv, hb2⟩
  have hrd := Rd.of_own hv
  have hot := own_type hv (G1.out.below hb2) (by decide)
  obtain ⟨_, Al, cl, rfl, hlc, hlm, _⟩ := id hrd
  unfold maxLen at hlm
  have RL := Lib.hid hrd
  have B2 := Lib.hid (Below.then_ B1.out hb2 (Nat.le_refl _))
  have R2 := Lib.hid (R1.out.below hb2)
  have NE := Lib.hid (show ∀ b o, Al = some ⟨b, o, none⟩ → b ≠ G from fun b o h e => hot (by rw [h, e]; rfl))
  have LG := Lib.hid (show w.heap.size ≤ G ∧ w.heap.size ≠ G from by rw [HG.out]; omega)
  have D3 := Lib.hid (show DSt w2 w.heap.size G F ps 0 [] w2 from ⟨by rw [HF.out, List.drop_zero], rulesGood_nil, by simp, ⟨none, 0, G1.out.below hb2, ⟨[], rfl, by simpa using World.ownsRow_nil w2 w.heap.size 30 8, by simp, by simp [blocks]⟩⟩, World.grownBy.refl _ _⟩)
  clear hv hrd hb2 hot
  go_wp2_with fail
  go_loopw [6] (fun i wr => ∃ (q : Nat) (cur : List RuleD), q ≤ n ∧ i = .int .i64 q ∧ DSt w2 w.heap.size G F ps q cur wr) (fun i _ => n - (intOf i).toNat)
  case atStart => exact ⟨0, [], Nat.zero_le _, rfl, D3.out⟩
  case round =>
    obtain ⟨q, cur, hq, rfl, hst⟩ := hrel
    have DS := Lib.hid hst
    have BR := Lib.hid (show Below w.heap.size w wr from B2.out.grown hst.gb B2.out.size (fun k hk => by injection hk with hk; have := LG.out.1; omega))
    have RR := Lib.hid (R2.out.grown hst.gb (fun e => by injection e with e; exact LG.out.2 e))
    obtain ⟨Ao, co, hbx, hor⟩ := hst.st
    have GR := Lib.hid hbx
    have OR := Lib.hid hor
    have hg0 := hst.good
    have h24 := hst.le
    have x0 : wr.cell? ⟨G, 0, none⟩ = some (.slice Ao cur.length co) := hbx.cell 0
    clear hst hbx hor
    by_cases hlt : q < n
    · have hkp : q < ps.length := by rw [← HN.out]; exact hlt
      obtain ⟨b, off, rfl, hc⟩ := texts_at (l := tS ps) (by have h := RL.out; rw [HN.out, ← tS_len] at h; exact h) (by rw [tS_len]; omega)
      have hcl0 : w2.cell? ⟨b, off + q, none⟩ = some (.string (mkS ps[q])) := by
        have h := hc q (by rw [tS_len]; exact hkp)
        simpa [tS] using h
      have hcl := DS.out.gb.cell hcl0 (fun e => by injection e with e; exact NE.out b _ rfl e)
      have hsz := HM.out ps[q] (List.getElem_mem hkp)
      have HD := Lib.hid (List.drop_eq_getElem_cons hkp)
      obtain ⟨t, ht⟩ : ∃ t, t = ps[q] := ⟨_, rfl⟩
      rw [← ht] at hcl hsz HD
      have ic := fun w => s_IsComment (mkS t) (by rw [mkS_size]; omega) w
      rw [mkS_list] at ic
      have ad := fun w ht hd => s_AddRule (.agg #[.slice Ao cur.length co]) cur (mkS t) (by rw [mkS_size]; omega) (by omega) (good_fits (by omega) hg0) (good_small (by omega) hg0) (good_names (by omega) hg0) w ht hd
      rw [mkS_list] at ad
      have IC := Lib.hid ic
      have AD := Lib.hid ad
      have HCL := Lib.hid hcl
      obtain ⟨tt, htt⟩ : ∃ tt, tt = mkS t := ⟨_, rfl⟩
      rw [← htt] at hcl IC AD HCL
      have hq0 : (0 : Int) ≤ (q : Int) := by omega
      have hqn : (q : Int) < (n : Int) := by omega
      clear hc hcl0 ht ic ad htt hg0
      go_wp2_with fail
      refine (IC.out _).mono ?_
      rintro e w4 ⟨rfl, hb4⟩
      have BE4 := Lib.hid hb4
      have B4 := Lib.hid (Below.then_ BR.out hb4 (Nat.le_refl _))
      have G4 := Lib.hid (GR.out.below hb4)
      have O4 := Lib.hid (OR.out.below hb4)
      have R4 := Lib.hid (RR.out.below hb4)
      have x4 : w4.cell? ⟨G, 0, none⟩ = some (.slice Ao cur.length co) := G4.out.cell 0
      have y4 : w4.cell? ⟨b, off + q, none⟩ = some (.string tt) := cell_after HCL.out hb4
      clear hb4
      cases hcm : isCommentL t with
      | true =>
        have HE := Lib.hid (DS.out.skip HD.out hcm BE4.out)
        clear hcm
        go_wp2_with fail
        go_roundw
        case rel => exact ⟨q + 1, cur, by omega, by go_num, HE.out⟩
        case measure => simp [intOf]; omega
      | false =>
        have HCM := Lib.hid hcm
        clear hcm
        have Y4 := Lib.hid y4
        have KEEP := Lib.hid (show ∀ W, Below w4.heap.size w4 W → W.cell? ⟨G, 0, none⟩ = some (.slice Ao cur.length co) ∧ W.cell? ⟨b, off + q, none⟩ = some (.string tt) from fun W hb => ⟨(G4.out.below hb).cell 0, cell_after Y4.out hb⟩)
        have hB4 := B4.out.size
        clear x0 hcl
        go_wp2_with fail
        go_cut [7, 8] (fun s7 s8 wx => ∃ K A5 c5, s7 = .pointer (some ⟨K, 0, none⟩) ∧ s8 = .bool (addL cur t).isSome ∧ Box wx K 35 #[.slice A5 ((addL cur t).getD cur).length c5] ∧ OwnRules wx w.heap.size (.slice A5 ((addL cur t).getD cur).length c5) ((addL cur t).getD cur) ∧ Below w4.heap.size w4 wx ∧ w4.heap.size ≤ K)
        case first =>
          go_region_held3 (fun W => W.cell? ⟨G, 0, none⟩ = some (.slice Ao cur.length co) ∧ W.cell? ⟨b, off + q, none⟩ = some (.string tt))
            (first | exact KEEP.out _ (by first | ((repeat (first | with_reducible exact B7.out | with_reducible exact Below.refl _ _ | with_reducible refine Below.drew ?_ | with_reducible refine Below.alloc ?_ ?_ _ | with_reducible refine below_set ?_ ?_ _ | (show (_ : Nat) ≤ _; (try simp) <;> omega))); done) | fail) | go_keep)
            ((go_at_call 17; refine (AD.out _ (HT.out.below (Below.then_ B4.out (by first | ((repeat (first | with_reducible exact B7.out | with_reducible exact Below.refl _ _ | with_reducible refine Below.drew ?_ | with_reducible refine Below.alloc ?_ ?_ _ | with_reducible refine below_set ?_ ?_ _ | (show (_ : Nat) ≤ _; (try simp) <;> omega))); done) | fail) (Nat.le_refl _))) ⟨_, rfl, O4.out.rd.below (by first | ((repeat (first | with_reducible exact B7.out | with_reducible exact Below.refl _ _ | with_reducible refine Below.drew ?_ | with_reducible refine Below.alloc ?_ ?_ _ | with_reducible refine below_set ?_ ?_ _ | (show (_ : Nat) ≤ _; (try simp) <;> omega))); done) | fail)⟩).mono ?_; rintro e w7 ⟨v5, rfl, hor5, hb5⟩; obtain ⟨A5, c5, rfl⟩ := hor5.slice; have B7 := Lib.hid (show Below w4.heap.size w4 w7 from Below.then_ (by first | ((repeat (first | with_reducible exact B7.out | with_reducible exact Below.refl _ _ | with_reducible refine Below.drew ?_ | with_reducible refine Below.alloc ?_ ?_ _ | with_reducible refine below_set ?_ ?_ _ | (show (_ : Nat) ≤ _; (try simp) <;> omega))); done) | fail) hb5 (Nat.le_refl _)); have hz7 := B7.out.size; have O7 := Lib.hid (OwnRules.mono hor5 (show w.heap.size ≤ _ from (by (try simp) <;> omega))); (try (have ZX := Lib.hid (show Box w7 w4.heap.size 35 #[.slice none 0 0] from Box.below (by first | with_reducible exact box_new0 _ _ _ | (with_reducible exact Box.drew (box_new0 _ _ _))) hb5); have zc := ZX.out.cell 0; have zf := ZX.out.frozen 0; have lz := ZX.out.lt)); clear hor5 hb5))
          all_goals
            go_wp2_with fail
            go_meet
            first
              | with_reducible exact ⟨_, A5, c5, rfl, rfl, box_new0 _ _ _, O7.out.below ((Below.refl _ _).alloc (Nat.le_refl _) _), B7.out.alloc hz7 _, hz7⟩
              | exact ⟨_, A5, c5, rfl, rfl, ZX.out.set 0 _, O7.out.setBox ZX.out, below_set B7.out (Nat.le_refl _) _, Nat.le_refl _⟩
        case rest =>
        obtain ⟨K, A5, c5, rfl, rfl, hK, hO6, hbe, hKle⟩ := hcut
        rename World => w6
        obtain ⟨ln, hln⟩ : ∃ ln, ln = ((addL cur t).getD cur).length := ⟨_, rfl⟩
        have HLN := Lib.hid hln
        have O6 := Lib.hid hO6
        have E6 := Lib.hid (Below.then_ BE4.out hbe (Nat.le_refl _))
        have B6 := Lib.hid (Below.then_ B4.out hbe (Nat.le_refl _))
        have R6 := Lib.hid (R4.out.below hbe)
        have G6 := Lib.hid (G4.out.below hbe)
        rw [← hln] at hK
        have k6 : w6.cell? ⟨K, 0, none⟩ = some (.slice A5 ln c5) := hK.cell 0
        have ra : w6.cell? ⟨w.heap.size, 0, none⟩ = some (.slice none 0 0) := R6.out.cell 0
        have rb : w6.frozen? ⟨w.heap.size, 0, none⟩ = false := R6.out.frozen 0
        have ga : w6.cell? ⟨G, 0, none⟩ = some (.slice Ao cur.length co) := G6.out.cell 0
        have gb : w6.frozen? ⟨G, 0, none⟩ = false := G6.out.frozen 0
        clear hO6 hbe hK hln x4 y4
        cases hL : addL cur t with
        | none =>
          have hfin := Lib.hid (DS.out.bad HD.out HCM.out hL)
          rw [show (none : Option (List RuleD)).isSome = false from rfl]
          clear hL
          go_wp2_with fail
          skip
          have zz := R6.out.cell 0
          refine bodyPost_ret (v := .tuple #[.agg #[.slice none 0 0], .int .i64 ((q : Int) + 1)]) (by simp [results, Tryz.results20, go_sem, zz]) rfl ?_
          exact MadeL.mk_ hfin.out (by omega) ⟨[], rfl, by simpa using World.ownsRow_nil _ w.heap.size 30 8, by simp, by simp [blocks]⟩ (below_set B6.out (Nat.le_refl _) _)
        | some l' =>
          rw [hL, Option.getD_some] at HLN O6
          have HMO := Lib.hid (DS.out.more HD.out HCM.out hL)
          rw [show (some l').isSome = true from rfl]
          clear hL
          go_wp2_with fail
          go_roundw
          case rel =>
            skip
            refine ⟨q + 1, l', by omega, by go_num, ⟨HMO.out.1, HMO.out.2.1, HMO.out.2.2, ⟨A5, c5, ?_, ?_⟩, grown_set1 (grown_below DS.out.gb E6.out) _⟩⟩
            · rw [← HLN.out]; exact G6.out.set 0 _
            · rw [← HLN.out] at O6 ⊢; exact O6.out.setBox G6.out
          case measure => simp [intOf]; omega
    · obtain rfl : q = n := by omega
      have hla := Lib.hid (DS.out.last HN.out)
      have ra : wr.cell? ⟨w.heap.size, 0, none⟩ = some (.slice none 0 0) := RR.out.cell 0
      have rb : wr.frozen? ⟨w.heap.size, 0, none⟩ = false := RR.out.frozen 0
      by_cases hc0 : cur = []
      · have hfin : Hid (F = ([], q + 1)) := by show _ = _; rw [hla.out, if_pos hc0]
        have hz : cur.length = 0 := by rw [hc0]; rfl
        rw [hz] at x0
        clear hc0 hz
        go_wp2_with fail
        have zz := RR.out.cell 0
        refine bodyPost_ret (v := .tuple #[.agg #[.slice none 0 0], .int .i64 ((q : Int) + 1)]) (by simp [results, Tryz.results20, go_sem, zz]) rfl ?_
        exact MadeL.mk_ hfin.out (by omega) ⟨[], rfl, by simpa using World.ownsRow_nil _ w.heap.size 30 8, by simp, by simp [blocks]⟩ (below_set BR.out (Nat.le_refl _) _)
      · have hfin : Hid (F = (cur, 0)) := by show _ = _; rw [hla.out, if_neg hc0]
        have hz : 0 < cur.length := List.length_pos_iff.2 hc0
        have e0 : ((cur.length : Int) == 0) = false := by rw [beq_eq_false_iff_ne]; omega
        have e1 : (cur.length == 0) = false := by rw [beq_eq_false_iff_ne]; omega
        clear hc0
        go_wp2_with fail
        have zz := RR.out.cell 0
        refine bodyPost_ret (v := .tuple #[.agg #[.slice Ao cur.length co], .int .i64 0]) (by simp [results, Tryz.results20, go_sem, zz]) rfl ?_
        exact MadeL.mk_ hfin.out rfl (OR.out.setBox RR.out) (below_set BR.out (Nat.le_refl _) _)

end Go.Proofs.YtkjjgpkegihmhaaGreatDoor
