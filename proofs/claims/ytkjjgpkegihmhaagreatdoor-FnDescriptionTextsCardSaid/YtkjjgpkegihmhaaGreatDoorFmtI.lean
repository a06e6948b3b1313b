/-
  FormatRule of the program.
-/
import Derived.Test.YtkjjgpkegihmhaaGreatDoorGD
import Derived.Test.YtkjjgpkegihmhaaGreatDoorGB
import Derived.Deep.RegionHeld3
import Derived.Deep.DeepCutAuto
namespace Go.Proofs.YtkjjgpkegihmhaaGreatDoor
open Go.RowKit
set_option linter.unusedVariables false

theorem names_at {w : World} {A : Option Addr} {n c : Nat} {l : List ByteArray} (h : Rd w (.slice A n c) 1 l.length (cS l)) (hp : 0 < l.length) :
    ∃ b off, A = some ⟨b, off, none⟩ ∧ ∀ j (h : j < l.length), w.cell? ⟨b, off + j, none⟩ = some (.string l[j]) := by
  obtain ⟨_, A', c', e, _, _, hc⟩ := h
  injection e with e _ _
  obtain ⟨b, off, hA, hcell⟩ := hc (by rw [cS_len]; omega)
  exact ⟨b, off, by rw [e, hA], fun j hj => hcell j _ (cS_at hj)⟩
theorem words_new (u : World) (B g : Nat) (a b : ByteArray) (hB : B ≤ u.heap.size) (hx : Box u g 27 #[.slice none 0 0]) :
    WordsAt ((u.setCell ⟨g, 0, none⟩ (.slice (some ⟨u.heap.size, 0, none⟩) 2 2)).alloc (.cells #[.string a, .string b] 9)) B g [a.data.toList, b.data.toList] := by
  have hz : (u.setCell ⟨g, 0, none⟩ (.slice (some ⟨u.heap.size, 0, none⟩) 2 2)).heap.size = u.heap.size := by simp [World.setCell]
  refine ⟨_, (hx.set 0 _).alloc _, ?_⟩
  have h := World.ownsRow_lit (base := B) (e := 9) (size := 1) (u.setCell ⟨g, 0, none⟩ (.slice (some ⟨u.heap.size, 0, none⟩) 2 2)) #[.string a, .string b] 2 (by rw [hz]; exact hB) (by unfold maxLen; omega) (by simp)
  rw [hz] at h
  simpa [cS, tS, mkS_of] using h
theorem words_c1 (u : World) (B : Nat) (a b : ByteArray) (hB : B ≤ u.heap.size) :
    WordsAt ((u.alloc (.cells #[.string a, .string b] 9)).alloc (.cells #[.slice (some ⟨u.heap.size, 0, none⟩) 2 2] 27)) B (u.heap.size + 1) [a.data.toList, b.data.toList] := by
  have hx := Box.new (u.alloc (.cells #[.string a, .string b] 9)) 27 #[.slice (some ⟨u.heap.size, 0, none⟩) 2 2]
  rw [show (u.alloc (.cells #[.string a, .string b] 9)).heap.size = u.heap.size + 1 by simp] at hx
  refine ⟨_, hx, ?_⟩
  have h := World.ownsRow_lit (base := B) (e := 9) (size := 1) u #[.string a, .string b] 2 hB (by unfold maxLen; omega) (by simp)
  have h2 := h.alloc (.cells #[.slice (some ⟨u.heap.size, 0, none⟩) 2 2] 27)
  simpa [cS, tS, mkS_of] using h2
theorem words_c2 (u : World) (B : Nat) (a b : ByteArray) (hB : B ≤ u.heap.size) :
    WordsAt ((u.alloc (.cells #[.slice (some ⟨u.heap.size + 1, 0, none⟩) 2 2] 27)).alloc (.cells #[.string a, .string b] 9)) B u.heap.size [a.data.toList, b.data.toList] := by
  refine ⟨_, (Box.new u 27 #[.slice (some ⟨u.heap.size + 1, 0, none⟩) 2 2]).alloc _, ?_⟩
  have h := World.ownsRow_lit (base := B) (e := 9) (size := 1) (u.alloc (.cells #[.slice (some ⟨u.heap.size + 1, 0, none⟩) 2 2] 27)) #[.string a, .string b] 2 (by simp; omega) (by unfold maxLen; omega) (by simp)
  simpa [cS, tS, mkS_of] using h

set_option maxRecDepth 100000 in
set_option maxHeartbeats 20000000 in
theorem i_FormatRule (d : Value) (l : List RuleD) (i : Int) (hi : -9223372036854775808 ≤ i ∧ i ≤ 9223372036854775807) (hfit : ∀ r ∈ l, RuleFits r) (hsm : ∀ r ∈ l, RuleSmall r) (hnf : NamesFit l) (w : World) (ht : Tab w) (hd : RdDesc w d l) :
    Calls Tryz.prog 41 #[d, .int .i64 i] w fun e w' => e = .returned (.string (mkS (lineL l i))) ∧ Below w.heap.size w w' := by
  obtain ⟨v, rfl, hv⟩ := hd
  obtain ⟨A, c, rfl, hnc, hcm, hcell⟩ := hv.all
  unfold maxLen at hcm
  obtain ⟨F, hF⟩ : ∃ F, F = lineL l i := ⟨_, rfl⟩
  rw [← hF]
  obtain ⟨w0, hw0⟩ : ∃ w0, w0 = w.alloc (.cells #[.slice A l.length c] 35) := ⟨_, rfl⟩
  have b0 : Below w.heap.size w w0 := by rw [hw0]; exact below_box
  have HC := Lib.hid hcell
  have HV := Lib.hid hv
  have x0 : Box w0 w.heap.size 35 #[.slice A l.length c] := by rw [hw0]; exact Box.new w _ _
  have B0 := Lib.hid b0
  have X0 := Lib.hid x0
  have W0 := Lib.hid hw0
  have HF := Lib.hid hF
  have HFIT := Lib.hid hfit
  have HSM := Lib.hid hsm
  have HT := Lib.hid ht
  have HNF := Lib.hid hnf
  obtain ⟨V, hV⟩ : ∃ V, V = validR l i := ⟨_, rfl⟩
  have iv := fun w h => i_IsValidRule (.agg #[.slice A l.length c]) l i hi hfit hsm w h
  rw [← hV] at iv
  have IV := Lib.hid iv
  have HVV := Lib.hid hV
  clear hcell hv x0 b0 hw0 hF hfit hsm ht hnf iv hV
  go_enter Tryz.func41, Tryz.ntmps41
  go_wp2_with fail
  rw [← W0.out]
  have x0 := X0.out.cell 0
  refine (IV.out _ ⟨_, rfl, HV.out.below B0.out⟩).mono ?_
  rintro e w1 ⟨rfl, hb1⟩
  have B1 := Lib.hid (Below.then_ B0.out hb1 (Nat.le_refl _))
  have X1 := Lib.hid (X0.out.below hb1)
  have x1 := X1.out.cell 0
  clear hb1 x0
  cases V
  · have hfin : Hid ([] = F) := by show _ = _; rw [HF.out]; unfold lineL; rw [← HVV.out]; rfl
    go_wp2_with fail
    go_ret
    exact ⟨ret_str (by rw [← hfin.out]; rfl), B1.out⟩
  · obtain ⟨m, rfl, hml⟩ := hasL_nat (validR_has HVV.out.symm)
    have hmi : (m : Int) < (l.length : Int) := by omega
    have hm0 : (0 : Int) ≤ (m : Int) := by omega
    have hmc : (m : Int) ≤ (c : Int) := by omega
    obtain ⟨b, off, rfl, hcs⟩ := HC.out (by omega)
    obtain ⟨vb, vn, vt, vk, hr⟩ := hcs m hml
    rw [← ruleAt_eq hml] at hr
    obtain ⟨r, hr0⟩ : ∃ r, r = ruleAt l m := ⟨_, rfl⟩
    rw [← hr0] at hr
    have hmem : r ∈ l := by rw [hr0]; exact ruleAt_mem hml
    obtain ⟨⟨Ab, cb, rfl⟩, ⟨An, cn, rfl⟩, ⟨At, ct, rfl⟩, ⟨Ak, ck, rfl⟩⟩ := hr.slices
    obtain ⟨D0, D1, D2, D3, D4, D5, D6, D7⟩ := (hr.below B1.out).eight
    have HRD := Lib.hid hr.rd
    have HR0 := Lib.hid hr0
    have HRF := Lib.hid (HFIT.out r hmem)
    have HRS := Lib.hid (HSM.out r hmem)
    have HCS := Lib.hid hcs
    clear hr hcs hmem
    have HSH := Lib.hid (shape_of (validR_kind HVV.out.symm))
    have HWF := Lib.hid (wordsR_join HVV.out.symm HNF.out)
    rw [← HR0.out] at HSH HWF
    have HF2 : Hid (Lib.join (wordsR l m r) [32] = F) := by show _ = _; rw [HF.out]; unfold lineL; rw [← HVV.out, if_pos rfl, ← HR0.out]
    obtain ⟨w2, hw2⟩ : ∃ w2, w2 = w1.alloc (.cells #[.string r.name, .int .i64 r.kind, .int .i64 r.size, .bool r.little, .slice Ab r.bytes.length cb, .slice An r.names.length cn, .slice At r.tags.length ct, .slice Ak r.kids.length ck] 30) := ⟨_, rfl⟩
    have Y2 := Lib.hid (show Box w2 w1.heap.size 30 #[.string r.name, .int .i64 r.kind, .int .i64 r.size, .bool r.little, .slice Ab r.bytes.length cb, .slice An r.names.length cn, .slice At r.tags.length ct, .slice Ak r.kids.length ck] by rw [hw2]; exact Box.new _ _ _)
    have X2 := Lib.hid (show Box w2 w.heap.size 35 #[.slice (some ⟨b, off, none⟩) l.length c] by rw [hw2]; exact X1.out.alloc _)
    have B2 := Lib.hid (show Below w.heap.size w w2 by rw [hw2]; exact B1.out.alloc B1.out.size _)
    have W2 := Lib.hid hw2
    clear hw2 hr0
    go_wp2_with fail
    rw [← W2.out]
    obtain ⟨B, hB⟩ : ∃ B, B = w2.heap.size := ⟨_, rfl⟩
    have HB := Lib.hid hB
    have KN := Lib.hid (fun w => i_KindName r.kind w)
    have e0 := Y2.out.cell 0
    have e1 := Y2.out.cell 1
    clear D0 D1 D2 D3 D4 D5 D6 D7 x1 hB
    go_cut [6] (fun s6 wx => ∃ g, s6 = .pointer (some ⟨g, 0, none⟩) ∧ St w2 g [r.name.data.toList, (kindName r.kind).data.toList] wx)
    case first =>
      go_region_held3 (fun w' => w'.cell? ⟨w1.heap.size, 0, none⟩ = some (.string r.name) ∧ w'.cell? ⟨w1.heap.size, 1, none⟩ = some (.int .i64 r.kind))
        (first | go_keep | (exact ⟨K7.out.cell 0, K7.out.cell 1⟩) | (exact ⟨((K7.out.alloc _).alloc _).cell 0, ((K7.out.alloc _).alloc _).cell 1⟩) | (exact ⟨((K7.out.setOther ⟨w2.heap.size, 0, none⟩ (Nat.ne_of_lt Y2.out.lt) _).alloc _).cell 0, ((K7.out.setOther ⟨w2.heap.size, 0, none⟩ (Nat.ne_of_lt Y2.out.lt) _).alloc _).cell 1⟩))
        ((go_at_call 81; refine (KN.out _).mono ?_; rintro e w7 ⟨rfl, hb7⟩; have K7 := Lib.hid (show Box w7 w1.heap.size _ _ from (by first | exact (Y2.out.drewN 1).below hb7 | exact ((Y2.out.drewN 1).alloc _).below hb7)); have HB7 := Lib.hid (show Below B w2 w7 from (by rw [HB.out]; first | exact Below.then_ ((Below.refl _ w2).drew) hb7 (Nat.le_refl _) | exact Below.then_ (((Below.refl _ w2).drew).alloc (by simp) _) hb7 (by simp))); (try (have X7 : Box w7 w2.heap.size 27 #[.slice none 0 0] := (by first | exact ((Box.new w2 _ _).drewN 1).below hb7 | exact (Box.new w2.drew _ _).below hb7); have c7 : w7.cell? ⟨w2.heap.size, 0, none⟩ = some (.slice none 0 0) := X7.cell 0; have f7 : w7.frozen? ⟨w2.heap.size, 0, none⟩ = false := X7.frozen 0; have l7 : w2.heap.size < w7.heap.size := X7.lt; have XH := Lib.hid X7; clear X7))))
      all_goals
        go_wp2_with fail
        go_meet
        have hz := HB7.out.size
        first
          | exact ⟨_, rfl, words_c1 w7 _ _ _ hz, by omega, by have h := HB7.out; rw [HB.out] at h; exact (h.alloc (by omega) _).alloc (by simp; omega) _⟩
          | exact ⟨_, rfl, words_c2 w7 _ _ _ hz, by omega, by have h := HB7.out; rw [HB.out] at h; exact (h.alloc (by omega) _).alloc (by simp; omega) _⟩
          | exact ⟨_, rfl, words_new w7 _ w2.heap.size _ _ hz XH.out, Nat.le_refl _, by have h := HB7.out; rw [HB.out] at h; exact (below_set h (Nat.le_refl _) _).alloc (by simp [World.setCell]; exact hz) _⟩
    case rest =>
      obtain ⟨g, rfl, hst⟩ := hcut
      have S0 := Lib.hid hst
      have HWF0 := Lib.hid (show (wordsR l m r).length ≤ 4194304 ∧ Lib.lens (wordsR l m r) + ([32] : List UInt8).length * (wordsR l m r).length ≤ 35184372088832 from HWF.out)
      clear hst
      rcases HSH.out with h | h | h | h | h | h | h | h | h | h
      · obtain ⟨hk, hp1, hp2, hp3, hp4, hs1, hs4, hlit⟩ := h
        have HK := Lib.hid hk
        have FI := Lib.hid (fun w h => i_FormatInt r.size ⟨by omega, by omega⟩ w h)
        obtain ⟨lit, hl0⟩ : ∃ lit, lit = r.little := ⟨_, rfl⟩
        have HL := Lib.hid hl0
        clear hp1 hp2 hp3 hp4 hs1 hs4 hlit hl0
        have e1 := (S0.out.box Y2.out).cell 1
        have e2 := (S0.out.box Y2.out).cell 2
        have e3 := (S0.out.box Y2.out).cell 3
        have x9 := (S0.out.box X2.out).cell 0
        go_wp2_with fail
        refine (FI.out _ (HT.out.below (S0.out.from B2.out))).mono ?_
        rintro e w8 ⟨rfl, hb⟩
        have S1 := Lib.hid (S0.out.step hb)
        clear hb
        clear e1 e2 e3 x9
        go_wp2_with fail
        refine (i_addSt w2 g _ (mkS (fmtInt r.size)) (by simp) _ S1.out).mono ?_
        rintro e w9 ⟨rfl, hst⟩
        have S2 := Lib.hid hst
        clear hst
        have e3 := (S2.out.box Y2.out).cell 3
        have x9 := (S2.out.box X2.out).cell 0
        rw [← HL.out] at e3
        clear hk
        cases lit
        · have HWF := Lib.hid (St.to S2.out (show _ = wordsR l m r by unfold wordsR; rw [args_1 HK.out, ← HL.out]; rfl))
          obtain ⟨v, hbx, hown⟩ := HWF.out.wa
          have cw := hbx.cell 0
          have JT := Lib.hid (fun w h => i_JoinText v (wordsR l m r) [32] HWF0.out.1 HWF0.out.2 w h)
          have HOW := Lib.hid hown
          clear hbx hown
          go_wp2_with fail
          refine (JT.out _ (Rd.of_own HOW.out)).mono ?_
          rintro e wz ⟨rfl, hbz⟩
          have HBZ := Lib.hid (Below.then_ (HWF.out.from B2.out) hbz (Nat.le_refl _))
          clear hbz
          go_wp2_with fail
          go_ret
          exact ⟨ret_str (by rw [HF2.out]), HBZ.out⟩
        · go_wp2_with fail
          refine (i_addSt w2 g _ (⟨#[108, 105, 116, 116, 108, 101]⟩) (by simp) _ S2.out).mono ?_
          rintro e w10 ⟨rfl, hst⟩
          have S3 := Lib.hid hst
          clear hst
          clear e3 x9
          have HWF := Lib.hid (St.to S3.out (show _ = wordsR l m r by unfold wordsR; rw [args_1 HK.out, ← HL.out]; rfl))
          obtain ⟨v, hbx, hown⟩ := HWF.out.wa
          have cw := hbx.cell 0
          have JT := Lib.hid (fun w h => i_JoinText v (wordsR l m r) [32] HWF0.out.1 HWF0.out.2 w h)
          have HOW := Lib.hid hown
          clear hbx hown
          go_wp2_with fail
          refine (JT.out _ (Rd.of_own HOW.out)).mono ?_
          rintro e wz ⟨rfl, hbz⟩
          have HBZ := Lib.hid (Below.then_ (HWF.out.from B2.out) hbz (Nat.le_refl _))
          clear hbz
          go_wp2_with fail
          go_ret
          exact ⟨ret_str (by rw [HF2.out]), HBZ.out⟩
      · obtain ⟨hk, a1, a2, a3, a4, a5, a6⟩ := h
        have HK := Lib.hid hk
        have FH := Lib.hid (fun w h => i_FormatHex (.slice Ab r.bytes.length cb) r.bytes HRS.out.1 w h)
        clear a1 a2 a3 a4 a5 a6
        have e1 := (S0.out.box Y2.out).cell 1
        have e4 := (S0.out.box Y2.out).cell 4
        have x9 := (S0.out.box X2.out).cell 0
        go_wp2_with fail
        refine (FH.out _ ((rdRule_parts HRD.out).1.below (S0.out.from B2.out))).mono ?_
        rintro e w8 ⟨rfl, hb⟩
        have S1 := Lib.hid (S0.out.step hb)
        clear hb
        clear e1 e4 x9
        go_wp2_with fail
        refine (i_addSt w2 g _ (mkS (hexL r.bytes)) (by simp) _ S1.out).mono ?_
        rintro e w9 ⟨rfl, hst⟩
        have S2 := Lib.hid hst
        clear hst
        clear hk
        have HWF := Lib.hid (St.to S2.out (show _ = wordsR l m r by unfold wordsR; rw [args_2 (.inl HK.out)]; rfl))
        obtain ⟨v, hbx, hown⟩ := HWF.out.wa
        have cw := hbx.cell 0
        have JT := Lib.hid (fun w h => i_JoinText v (wordsR l m r) [32] HWF0.out.1 HWF0.out.2 w h)
        have HOW := Lib.hid hown
        clear hbx hown
        go_wp2_with fail
        refine (JT.out _ (Rd.of_own HOW.out)).mono ?_
        rintro e wz ⟨rfl, hbz⟩
        have HBZ := Lib.hid (Below.then_ (HWF.out.from B2.out) hbz (Nat.le_refl _))
        clear hbz
        go_wp2_with fail
        go_ret
        exact ⟨ret_str (by rw [HF2.out]), HBZ.out⟩
      · obtain ⟨hk, hp1, hp2, hp3, hp4, hs1, hs4⟩ := h
        have HK := Lib.hid hk
        have FI := Lib.hid (fun w h => i_FormatInt r.size ⟨by omega, by omega⟩ w h)
        clear hp1 hp2 hp3 hp4 hs1 hs4
        have e1 := (S0.out.box Y2.out).cell 1
        have e2 := (S0.out.box Y2.out).cell 2
        have x9 := (S0.out.box X2.out).cell 0
        go_wp2_with fail
        refine (FI.out _ (HT.out.below (S0.out.from B2.out))).mono ?_
        rintro e w8 ⟨rfl, hb⟩
        have S1 := Lib.hid (S0.out.step hb)
        clear hb
        clear e1 e2 x9
        go_wp2_with fail
        refine (i_addSt w2 g _ (mkS (fmtInt r.size)) (by simp) _ S1.out).mono ?_
        rintro e w9 ⟨rfl, hst⟩
        have S2 := Lib.hid hst
        clear hst
        clear hk
        have HWF := Lib.hid (St.to S2.out (show _ = wordsR l m r by unfold wordsR; rw [args_3 HK.out]; rfl))
        obtain ⟨v, hbx, hown⟩ := HWF.out.wa
        have cw := hbx.cell 0
        have JT := Lib.hid (fun w h => i_JoinText v (wordsR l m r) [32] HWF0.out.1 HWF0.out.2 w h)
        have HOW := Lib.hid hown
        clear hbx hown
        go_wp2_with fail
        refine (JT.out _ (Rd.of_own HOW.out)).mono ?_
        rintro e wz ⟨rfl, hbz⟩
        have HBZ := Lib.hid (Below.then_ (HWF.out.from B2.out) hbz (Nat.le_refl _))
        clear hbz
        go_wp2_with fail
        go_ret
        exact ⟨ret_str (by rw [HF2.out]), HBZ.out⟩
      · obtain ⟨hk, a1, a2, a3, a4, hl1, a5⟩ := h
        have HK := Lib.hid hk
        have HKL := Lib.hid hl1
        have KD := Lib.hid (fun w h => i_KidName (.agg #[.slice (some ⟨b, off, none⟩) l.length c]) l (m : Int) 0 hi ⟨by omega, by omega⟩ w h)
        clear a1 a2 a3 a4 hl1 a5
        have e1 := (S0.out.box Y2.out).cell 1
        have x9 := (S0.out.box X2.out).cell 0
        go_wp2_with fail
        refine (KD.out _ ⟨_, rfl, HV.out.below (S0.out.from B2.out)⟩).mono ?_
        rintro e w8 ⟨rfl, hb⟩
        have S1 := Lib.hid (S0.out.step hb)
        clear hb
        clear e1 x9
        go_wp2_with fail
        refine (i_addSt w2 g _ (kidL l (m : Int) 0) (by simp) _ S1.out).mono ?_
        rintro e w9 ⟨rfl, hst⟩
        have S2 := Lib.hid hst
        clear hst
        clear hk
        have HWF := Lib.hid (St.to S2.out (show _ = wordsR l m r by unfold wordsR; rw [args_k1 (.inl HK.out) HKL.out]; rfl))
        obtain ⟨v, hbx, hown⟩ := HWF.out.wa
        have cw := hbx.cell 0
        have JT := Lib.hid (fun w h => i_JoinText v (wordsR l m r) [32] HWF0.out.1 HWF0.out.2 w h)
        have HOW := Lib.hid hown
        clear hbx hown
        go_wp2_with fail
        refine (JT.out _ (Rd.of_own HOW.out)).mono ?_
        rintro e wz ⟨rfl, hbz⟩
        have HBZ := Lib.hid (Below.then_ (HWF.out.from B2.out) hbz (Nat.le_refl _))
        clear hbz
        go_wp2_with fail
        go_ret
        exact ⟨ret_str (by rw [HF2.out]), HBZ.out⟩
      · obtain ⟨hk, a1, a2, a3, a4, hl1, a5⟩ := h
        have HK := Lib.hid hk
        have HKL := Lib.hid hl1
        have KD := Lib.hid (fun w h => i_KidName (.agg #[.slice (some ⟨b, off, none⟩) l.length c]) l (m : Int) 0 hi ⟨by omega, by omega⟩ w h)
        have KE := Lib.hid (fun w h => i_KidName (.agg #[.slice (some ⟨b, off, none⟩) l.length c]) l (m : Int) 1 hi ⟨by omega, by omega⟩ w h)
        clear a1 a2 a3 a4 a5 hl1
        have e1 := (S0.out.box Y2.out).cell 1
        have x9 := (S0.out.box X2.out).cell 0
        go_wp2_with fail
        refine (KD.out _ ⟨_, rfl, HV.out.below (S0.out.from B2.out)⟩).mono ?_
        rintro e w8 ⟨rfl, hb⟩
        have S1 := Lib.hid (S0.out.step hb)
        clear hb
        clear e1 x9
        go_wp2_with fail
        refine (i_addSt w2 g _ (kidL l (m : Int) 0) (by simp) _ S1.out).mono ?_
        rintro e w9 ⟨rfl, hst⟩
        have S2 := Lib.hid hst
        clear hst
        have x9 := (S2.out.box X2.out).cell 0
        go_wp2_with fail
        refine (KE.out _ ⟨_, rfl, HV.out.below (S2.out.from B2.out)⟩).mono ?_
        rintro e w10 ⟨rfl, hb⟩
        have S3 := Lib.hid (S2.out.step hb)
        clear hb
        clear x9
        go_wp2_with fail
        refine (i_addSt w2 g _ (kidL l (m : Int) 1) (by simp) _ S3.out).mono ?_
        rintro e w11 ⟨rfl, hst⟩
        have S4 := Lib.hid hst
        clear hst
        clear hk
        have HWF := Lib.hid (St.to S4.out (show _ = wordsR l m r by unfold wordsR; rw [args_k2 HK.out HKL.out]; rfl))
        obtain ⟨v, hbx, hown⟩ := HWF.out.wa
        have cw := hbx.cell 0
        have JT := Lib.hid (fun w h => i_JoinText v (wordsR l m r) [32] HWF0.out.1 HWF0.out.2 w h)
        have HOW := Lib.hid hown
        clear hbx hown
        go_wp2_with fail
        refine (JT.out _ (Rd.of_own HOW.out)).mono ?_
        rintro e wz ⟨rfl, hbz⟩
        have HBZ := Lib.hid (Below.then_ (HWF.out.from B2.out) hbz (Nat.le_refl _))
        clear hbz
        go_wp2_with fail
        go_ret
        exact ⟨ret_str (by rw [HF2.out]), HBZ.out⟩
      · obtain ⟨hk, a1, a2, a3, hkn, a4, a5, hng⟩ := h
        have HK := Lib.hid hk
        have HKN := Lib.hid hkn
        obtain ⟨p, hp⟩ : ∃ p, p = r.names.length := ⟨_, rfl⟩
        have HP := Lib.hid hp
        have hp8 : p ≤ 8 := by omega
        have HRN := Lib.hid ((rdRule_parts HRD.out).2.1)
        have HNG := Lib.hid hng
        clear a1 a2 a3 a4 a5 hng hkn
        have e1 := (S0.out.box Y2.out).cell 1
        have e5 := (S0.out.box Y2.out).cell 5
        have x9 := (S0.out.box X2.out).cell 0
        rw [← hp] at e5
        clear hp
        go_wp2_with fail
        clear e1 e5 x9
        go_loopw [82] (fun j wr => ∃ k : Nat, k ≤ p ∧ j = .int .i64 k ∧ St w2 g ([r.name.data.toList, (kindName r.kind).data.toList] ++ (List.range k).map (seqW l m r)) wr) (fun j _ => p - (intOf j).toNat)
        case atStart => exact ⟨0, Nat.zero_le _, rfl, S0.out⟩
        case round =>
          obtain ⟨k, hkp, rfl, hst⟩ := hrel
          have S1 := Lib.hid hst
          clear hst
          by_cases hlt : k < p
          · have hkr : k < r.names.length := by rw [← HP.out]; exact hlt
            obtain ⟨bn, on, rfl, hnc⟩ := names_at (HRN.out.below (S1.out.from B2.out)) (by omega)
            have ny := hnc k hkr
            obtain ⟨nm, hnm⟩ : ∃ nm, nm = r.names[k] := ⟨_, rfl⟩
            rw [← hnm] at ny
            have HNM := Lib.hid hnm
            have hz1 : nm.size ≤ 12 := by have := (isName_len (namesGood_at HNG.out hkr).1).2; rw [len_of, ← HNM.out] at this; exact this
            have hz2 := kidL_len HNF.out (m : Int) (k : Int)
            have KD := Lib.hid (fun w h => i_KidName (.agg #[.slice (some ⟨b, off, none⟩) l.length c]) l (m : Int) (k : Int) hi ⟨by omega, by omega⟩ w h)
            have hkpi : (k : Int) < (p : Int) := by omega
            have hk0 : (0 : Int) ≤ (k : Int) := by omega
            have hlen : ([r.name.data.toList, (kindName r.kind).data.toList] ++ (List.range k).map (seqW l m r)).length ≤ 1000 := by simp; omega
            have x9 := (S1.out.box X2.out).cell 0
            clear hnc hnm
            go_wp2_with fail
            refine (KD.out _ ⟨_, rfl, HV.out.below (S1.out.from B2.out)⟩).mono ?_
            rintro e w8 ⟨rfl, hb⟩
            have S2 := Lib.hid (S1.out.step hb)
            clear hb
            clear x9
            go_wp2_with fail
            refine (i_addSt w2 g _ _ hlen _ S2.out).mono ?_
            rintro e w9 ⟨rfl, hst⟩
            have S3 := Lib.hid (hst.to (ws' := [r.name.data.toList, (kindName r.kind).data.toList] ++ (List.range (k + 1)).map (seqW l m r)) (by
              rw [List.range_succ, List.map_append, List.map_cons, List.map_nil, List.append_assoc]
              congr 2
              unfold seqW kidB
              rw [getD_at hkr, ← HNM.out]
              simp [ByteArray.data_append]))
            clear hst ny
            go_wp2_with fail
            go_roundw
            case rel => exact ⟨k + 1, by omega, by go_num, S3.out⟩
            case measure => simp [intOf]; omega
          · obtain rfl : k = p := by omega
            clear hk
            have HWF := Lib.hid (St.to S1.out (show _ = wordsR l m r by unfold wordsR; rw [args_6 HK.out, HKN.out, ← HP.out]; rfl))
            obtain ⟨v, hbx, hown⟩ := HWF.out.wa
            have cw := hbx.cell 0
            have JT := Lib.hid (fun w h => i_JoinText v (wordsR l m r) [32] HWF0.out.1 HWF0.out.2 w h)
            have HOW := Lib.hid hown
            clear hbx hown
            go_wp2_with fail
            refine (JT.out _ (Rd.of_own HOW.out)).mono ?_
            rintro e wz ⟨rfl, hbz⟩
            have HBZ := Lib.hid (Below.then_ (HWF.out.from B2.out) hbz (Nat.le_refl _))
            clear hbz
            go_wp2_with fail
            go_ret
            exact ⟨ret_str (by rw [HF2.out]), HBZ.out⟩
      · obtain ⟨hk, a1, a2, a3, hkn, a4, a5, htg, a6⟩ := h
        have HK := Lib.hid hk
        have HTG := Lib.hid htg
        obtain ⟨p, hp⟩ : ∃ p, p = r.tags.length := ⟨_, rfl⟩
        have HP := Lib.hid hp
        have hp8 : p ≤ 8 := by omega
        have HRN := Lib.hid ((rdRule_parts HRD.out).2.2.1)
        have KD := Lib.hid (fun w h => i_KidName (.agg #[.slice (some ⟨b, off, none⟩) l.length c]) l (m : Int) 0 hi ⟨by omega, by omega⟩ w h)
        clear a1 a2 a3 a4 a5 a6 htg hkn
        have e1 := (S0.out.box Y2.out).cell 1
        have x9 := (S0.out.box X2.out).cell 0
        go_wp2_with fail
        refine (KD.out _ ⟨_, rfl, HV.out.below (S0.out.from B2.out)⟩).mono ?_
        rintro e w8 ⟨rfl, hb⟩
        have S1 := Lib.hid (S0.out.step hb)
        clear hb
        clear e1 x9
        go_wp2_with fail
        refine (i_addSt w2 g _ (kidL l (m : Int) 0) (by simp) _ S1.out).mono ?_
        rintro e w9 ⟨rfl, hst⟩
        have S2 := Lib.hid hst
        clear hst
        have e6 := (S2.out.box Y2.out).cell 6
        have x9 := (S2.out.box X2.out).cell 0
        rw [← hp] at e6
        clear hp
        go_wp2_with fail
        clear e6 x9
        go_loopw [107] (fun j wr => ∃ k : Nat, k ≤ p ∧ j = .int .i64 k ∧ St w2 g ([r.name.data.toList, (kindName r.kind).data.toList, kidB l m 0] ++ (List.range k).map (choW l m r)) wr) (fun j _ => p - (intOf j).toNat)
        case atStart => exact ⟨0, Nat.zero_le _, rfl, S2.out⟩
        case round =>
          obtain ⟨k, hkp, rfl, hst⟩ := hrel
          have T1 := Lib.hid hst
          clear hst
          by_cases hlt : k < p
          · have hkr : k < r.tags.length := by rw [← HP.out]; exact hlt
            obtain ⟨bn, on, rfl, hnc⟩ := kids_at (HRN.out.below (T1.out.from B2.out)) (by omega)
            have ny := hnc k hkr
            obtain ⟨nm, hnm⟩ : ∃ nm, nm = r.tags[k] := ⟨_, rfl⟩
            rw [← hnm] at ny
            have HNM := Lib.hid hnm
            have hnb := tagsGood_at HTG.out hkr
            rw [← hnm] at hnb
            have hlm := limitL_range l (r.kids.getD 0 0)
            have ke := fun w h => i_KidName (.agg #[.slice (some ⟨b, off, none⟩) l.length c]) l (m : Int) ((k : Int) + 1) hi ⟨by omega, by omega⟩ w h
            have fi := fun w h => i_FormatInt nm ⟨by omega, by omega⟩ w h
            have hz1 : (mkS (fmtInt nm)).size ≤ 20 := fmtInt_len ⟨by omega, by omega⟩
            have hz2 := kidL_len HNF.out (m : Int) ((k : Int) + 1)
            obtain ⟨fs, hfs⟩ : ∃ fs, fs = mkS (fmtInt nm) := ⟨_, rfl⟩
            obtain ⟨kn, hkn⟩ : ∃ kn, kn = kidL l (m : Int) ((k : Int) + 1) := ⟨_, rfl⟩
            rw [← hfs] at fi hz1
            rw [← hkn] at ke hz2
            have KE := Lib.hid ke
            have FI := Lib.hid fi
            have HFS := Lib.hid hfs
            have HKN := Lib.hid hkn
            have hq1 : ¬ (9223372036854775807 < fs.size + 1) := by omega
            have hq2 : ¬ (9223372036854775807 < fs.size + 1 + kn.size) := by omega
            clear ke fi hfs hkn
            have hkpi : (k : Int) < (p : Int) := by omega
            have hk0 : (0 : Int) ≤ (k : Int) := by omega
            have hk1 : IntKind.i64.wrap ((k : Int) + 1) = (k : Int) + 1 := IntWalk.i64_in _ (by omega)
            have hlen : ([r.name.data.toList, (kindName r.kind).data.toList, kidB l m 0] ++ (List.range k).map (choW l m r)).length ≤ 1000 := by simp; omega
            clear hnc hnm hnb hlm
            go_wp2_with fail
            clear ny
            have x9 := (T1.out.box X2.out).cell 0
            go_region_held3 (fun w' => w'.cell? ⟨w.heap.size, 0, none⟩ = some (.slice (some ⟨b, off, none⟩) l.length c))
                (first | go_keep | (exact (T9.out.box X2.out).cell 0) | (exact (T8.out.box X2.out).cell 0) | (exact (T7.out.box X2.out).cell 0))
                (first
                  | (go_at_call 88; refine (FI.out _ (by first | exact (HT.out.below (T8.out.from B2.out)) | exact (HT.out.below (T1.out.drew.from B2.out)))).mono ?_; rintro e w7 ⟨rfl, hb7⟩; have T7 := Lib.hid (show St w2 g _ w7 from (by first | exact T8.out.step hb7 | exact T1.out.drew.step hb7)); clear hb7)
                  | (go_at_call 90; refine (KE.out _ (by first | exact ⟨_, rfl, HV.out.below (T7.out.from B2.out)⟩ | exact ⟨_, rfl, HV.out.below (T1.out.drew.from B2.out)⟩)).mono ?_; rintro e w8 ⟨rfl, hb8⟩; have T8 := Lib.hid (show St w2 g _ w8 from (by first | exact T7.out.step hb8 | exact T1.out.drew.step hb8)); clear hb8)
                  | (go_at_call 87; refine (i_addSt w2 g _ _ hlen _ (by first | exact T8.out | exact T7.out)).mono ?_; rintro e w9 ⟨rfl, hst⟩; have T9 := Lib.hid hst; clear hst))
            all_goals
              clear x9
              go_wp2_with fail
              go_roundw
              case rel =>
                refine ⟨k + 1, by omega, by go_num, T9.out.to ?_⟩
                rw [List.range_succ, List.map_append, List.map_cons, List.map_nil, List.append_assoc]
                congr 2
                unfold choW kidB
                rw [getD_at hkr, ← HNM.out, HFS.out, ← HKN.out]
                simp [ByteArray.data_append, mkS]
              case measure => simp [intOf]; omega
          · obtain rfl : k = p := by omega
            clear hk
            have HWF := Lib.hid (St.to T1.out (show _ = wordsR l m r by unfold wordsR; rw [args_7 HK.out, ← HP.out]; rfl))
            obtain ⟨v, hbx, hown⟩ := HWF.out.wa
            have cw := hbx.cell 0
            have JT := Lib.hid (fun w h => i_JoinText v (wordsR l m r) [32] HWF0.out.1 HWF0.out.2 w h)
            have HOW := Lib.hid hown
            clear hbx hown
            go_wp2_with fail
            refine (JT.out _ (Rd.of_own HOW.out)).mono ?_
            rintro e wz ⟨rfl, hbz⟩
            have HBZ := Lib.hid (Below.then_ (HWF.out.from B2.out) hbz (Nat.le_refl _))
            clear hbz
            go_wp2_with fail
            go_ret
            exact ⟨ret_str (by rw [HF2.out]), HBZ.out⟩
      · obtain ⟨hk, a1, a2, a3, a4, hl1⟩ := h
        have HK := Lib.hid hk
        have HKL := Lib.hid hl1
        have KD := Lib.hid (fun w h => i_KidName (.agg #[.slice (some ⟨b, off, none⟩) l.length c]) l (m : Int) 0 hi ⟨by omega, by omega⟩ w h)
        clear a1 a2 a3 a4 hl1
        have e1 := (S0.out.box Y2.out).cell 1
        have x9 := (S0.out.box X2.out).cell 0
        go_wp2_with fail
        refine (KD.out _ ⟨_, rfl, HV.out.below (S0.out.from B2.out)⟩).mono ?_
        rintro e w8 ⟨rfl, hb⟩
        have S1 := Lib.hid (S0.out.step hb)
        clear hb
        clear e1 x9
        go_wp2_with fail
        refine (i_addSt w2 g _ (kidL l (m : Int) 0) (by simp) _ S1.out).mono ?_
        rintro e w9 ⟨rfl, hst⟩
        have S2 := Lib.hid hst
        clear hst
        clear hk
        have HWF := Lib.hid (St.to S2.out (show _ = wordsR l m r by unfold wordsR; rw [args_k1 (.inr (.inl HK.out)) HKL.out]; rfl))
        obtain ⟨v, hbx, hown⟩ := HWF.out.wa
        have cw := hbx.cell 0
        have JT := Lib.hid (fun w h => i_JoinText v (wordsR l m r) [32] HWF0.out.1 HWF0.out.2 w h)
        have HOW := Lib.hid hown
        clear hbx hown
        go_wp2_with fail
        refine (JT.out _ (Rd.of_own HOW.out)).mono ?_
        rintro e wz ⟨rfl, hbz⟩
        have HBZ := Lib.hid (Below.then_ (HWF.out.from B2.out) hbz (Nat.le_refl _))
        clear hbz
        go_wp2_with fail
        go_ret
        exact ⟨ret_str (by rw [HF2.out]), HBZ.out⟩
      · obtain ⟨hk, a1, a2, a3, a4, hl1⟩ := h
        have HK := Lib.hid hk
        have HKL := Lib.hid hl1
        have KD := Lib.hid (fun w h => i_KidName (.agg #[.slice (some ⟨b, off, none⟩) l.length c]) l (m : Int) 0 hi ⟨by omega, by omega⟩ w h)
        clear a1 a2 a3 a4 hl1
        have e1 := (S0.out.box Y2.out).cell 1
        have x9 := (S0.out.box X2.out).cell 0
        go_wp2_with fail
        refine (KD.out _ ⟨_, rfl, HV.out.below (S0.out.from B2.out)⟩).mono ?_
        rintro e w8 ⟨rfl, hb⟩
        have S1 := Lib.hid (S0.out.step hb)
        clear hb
        clear e1 x9
        go_wp2_with fail
        refine (i_addSt w2 g _ (kidL l (m : Int) 0) (by simp) _ S1.out).mono ?_
        rintro e w9 ⟨rfl, hst⟩
        have S2 := Lib.hid hst
        clear hst
        clear hk
        have HWF := Lib.hid (St.to S2.out (show _ = wordsR l m r by unfold wordsR; rw [args_k1 (.inr (.inr HK.out)) HKL.out]; rfl))
        obtain ⟨v, hbx, hown⟩ := HWF.out.wa
        have cw := hbx.cell 0
        have JT := Lib.hid (fun w h => i_JoinText v (wordsR l m r) [32] HWF0.out.1 HWF0.out.2 w h)
        have HOW := Lib.hid hown
        clear hbx hown
        go_wp2_with fail
        refine (JT.out _ (Rd.of_own HOW.out)).mono ?_
        rintro e wz ⟨rfl, hbz⟩
        have HBZ := Lib.hid (Below.then_ (HWF.out.from B2.out) hbz (Nat.le_refl _))
        clear hbz
        go_wp2_with fail
        go_ret
        exact ⟨ret_str (by rw [HF2.out]), HBZ.out⟩
      · obtain ⟨hk, a1, a2, a3, a4, a5, a6⟩ := h
        have HK := Lib.hid hk
        have FH := Lib.hid (fun w h => i_FormatHex (.slice Ab r.bytes.length cb) r.bytes HRS.out.1 w h)
        clear a1 a2 a3 a4 a5 a6
        have e1 := (S0.out.box Y2.out).cell 1
        have e4 := (S0.out.box Y2.out).cell 4
        have x9 := (S0.out.box X2.out).cell 0
        go_wp2_with fail
        refine (FH.out _ ((rdRule_parts HRD.out).1.below (S0.out.from B2.out))).mono ?_
        rintro e w8 ⟨rfl, hb⟩
        have S1 := Lib.hid (S0.out.step hb)
        clear hb
        clear e1 e4 x9
        go_wp2_with fail
        refine (i_addSt w2 g _ (mkS (hexL r.bytes)) (by simp) _ S1.out).mono ?_
        rintro e w9 ⟨rfl, hst⟩
        have S2 := Lib.hid hst
        clear hst
        clear hk
        have HWF := Lib.hid (St.to S2.out (show _ = wordsR l m r by unfold wordsR; rw [args_2 (.inr HK.out)]; rfl))
        obtain ⟨v, hbx, hown⟩ := HWF.out.wa
        have cw := hbx.cell 0
        have JT := Lib.hid (fun w h => i_JoinText v (wordsR l m r) [32] HWF0.out.1 HWF0.out.2 w h)
        have HOW := Lib.hid hown
        clear hbx hown
        go_wp2_with fail
        refine (JT.out _ (Rd.of_own HOW.out)).mono ?_
        rintro e wz ⟨rfl, hbz⟩
        have HBZ := Lib.hid (Below.then_ (HWF.out.from B2.out) hbz (Nat.le_refl _))
        clear hbz
        go_wp2_with fail
        go_ret
        exact ⟨ret_str (by rw [HF2.out]), HBZ.out⟩

end Go.Proofs.YtkjjgpkegihmhaaGreatDoor
