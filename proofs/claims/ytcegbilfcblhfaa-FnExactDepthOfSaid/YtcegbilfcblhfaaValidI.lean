/-
  IsValidRule of the program.
-/
import Derived.Test.YtcegbilfcblhfaaValidPlain
namespace Go.Proofs.Ytcegbilfcblhfaa
open Go.RowKit
set_option linter.unusedVariables false

set_option maxRecDepth 100000 in
set_option maxHeartbeats 8000000 in
theorem i_IsValidRule (d : Value) (l : List RuleD) (i : Int) (hi : -9223372036854775808 ≤ i ∧ i ≤ 9223372036854775807) (hfit : ∀ r ∈ l, RuleFits r) (hsm : ∀ r ∈ l, RuleSmall r) (w : World) (hd : RdDesc w d l) :
    Calls Try.prog 42 #[d, .int .i64 i] w fun e w' => e = .returned (.bool (validR l i)) ∧ Below w.heap.size w w' := by
  obtain ⟨v, rfl, hv⟩ := hd
  obtain ⟨A, c, rfl, hnc, hcm, hcell⟩ := hv.all
  unfold maxLen at hcm
  obtain ⟨F, hF⟩ : ∃ F, F = validR l i := ⟨_, rfl⟩
  rw [← hF]
  obtain ⟨w0, hw0⟩ : ∃ w0, w0 = w.alloc (.cells #[.slice A l.length c] 29) := ⟨_, rfl⟩
  have b0 : Below w.heap.size w w0 := by rw [hw0]; exact below_box
  have HC := Lib.hid hcell
  have HV := Lib.hid hv
  have x0 : Box w0 w.heap.size 29 #[.slice A l.length c] := by rw [hw0]; exact Box.new w _ _
  have B0 := Lib.hid b0
  have X0 := Lib.hid x0
  have W0 := Lib.hid hw0
  have HF := Lib.hid hF
  have HFIT := Lib.hid hfit
  have HSM := Lib.hid hsm
  obtain ⟨H, hH⟩ : ∃ H, H = hasL l i := ⟨_, rfl⟩
  have HH := Lib.hid hH
  clear hcell hv x0 b0 hw0 hF hfit hsm
  have hr := fun w h => i_hasRule (.agg #[.slice A l.length c]) l i w h
  rw [← hH] at hr
  have L1 := Lib.hid hr
  clear hr hH
  go_enter Try.func42, Try.ntmps42
  go_wp2_with fail
  rw [← W0.out]
  refine (L1.out _ ⟨_, rfl, HV.out.below B0.out⟩).mono ?_
  rintro e w1 ⟨rfl, hb1⟩
  have B1 := Lib.hid (Below.then_ B0.out hb1 (Nat.le_refl _))
  have X1 := Lib.hid (X0.out.below hb1)
  have x1 := X1.out.cell 0
  clear hb1
  cases H
  · have hfin : Hid (false = F) := by show _ = _; rw [HF.out]; unfold validR; rw [← HH.out]; rfl
    go_wp2_with fail
    go_ret
    exact ⟨ret_bool hfin.out, B1.out⟩
  · obtain ⟨m, rfl, hml⟩ := hasL_nat HH.out.symm
    have hmi : (m : Int) < (l.length : Int) := by omega
    have hm0 : (0 : Int) ≤ (m : Int) := by omega
    have hmc : (m : Int) ≤ (c : Int) := by omega
    obtain ⟨b, off, rfl, hcs⟩ := HC.out (by omega)
    obtain ⟨vb, vn, vt, vk, hr⟩ := hcs m hml
    rw [← ruleAt_eq hml] at hr
    obtain ⟨r, hr0⟩ : ∃ r, r = ruleAt l m := ⟨_, rfl⟩
    rw [← hr0] at hr
    have hmem : r ∈ l := by rw [hr0]; exact ruleAt_mem hml
    obtain ⟨⟨Ab, cb, rfl⟩, ⟨An, cn, rfl⟩, ⟨At, ct, rfl⟩, ⟨Ak, ck, rfl⟩⟩ := hr.slices
    obtain ⟨D0, D1, D2, D3, D4, D5, D6, D7⟩ := (hr.below B1.out).eight
    have HRD := Lib.hid hr.rd
    have HR0 := Lib.hid hr0
    have HRF := Lib.hid (HFIT.out r hmem)
    have HRS := Lib.hid (HSM.out r hmem)
    have HCS := Lib.hid hcs
    clear hr hcs hmem
    obtain ⟨I, hI⟩ : ∃ I, I = isName r.name.data.toList := ⟨_, rfl⟩
    have isn := fun w => i_IsName r.name w
    rw [← hI] at isn
    have ISN := Lib.hid isn
    have HI := Lib.hid hI
    obtain ⟨w2, hw2⟩ : ∃ w2, w2 = w1.alloc (.cells #[.string r.name, .int .i64 r.kind, .int .i64 r.size, .bool r.little, .slice Ab r.bytes.length cb, .slice An r.names.length cn, .slice At r.tags.length ct, .slice Ak r.kids.length ck] 56) := ⟨_, rfl⟩
    have Y2 := Lib.hid (show Box w2 w1.heap.size 56 #[.string r.name, .int .i64 r.kind, .int .i64 r.size, .bool r.little, .slice Ab r.bytes.length cb, .slice An r.names.length cn, .slice At r.tags.length ct, .slice Ak r.kids.length ck] by rw [hw2]; exact Box.new _ _ _)
    have X2 := Lib.hid (show Box w2 w.heap.size 29 #[.slice (some ⟨b, off, none⟩) l.length c] by rw [hw2]; exact X1.out.alloc _)
    have B2 := Lib.hid (show Below w.heap.size w w2 by rw [hw2]; exact B1.out.alloc B1.out.size _)
    have W2 := Lib.hid hw2
    have HF2 : Hid (F = (I && (littleOk r && (nameNew l m && (kidsUnder r m && kindL l r))))) := by
      show _ = _
      rw [HF.out, HI.out]; unfold validR; rw [← HH.out, ← HR0.out, Int.toNat_natCast]; rfl
    clear isn hI hw2 hr0
    go_wp2_with fail
    rw [← W2.out]
    refine (ISN.out _).mono ?_
    rintro e w3 ⟨rfl, hb3⟩
    have Y3 := Lib.hid (Y2.out.below hb3)
    have X3 := Lib.hid (X2.out.below hb3)
    have B3 := Lib.hid (Below.then_ B2.out hb3 (Nat.le_refl _))
    clear hb3 D0 D1 D2 D3 D4 D5 D6 D7 x1
    have e0 := Y3.out.cell 0
    have e1 := Y3.out.cell 1
    have e2 := Y3.out.cell 2
    have e3 := Y3.out.cell 3
    have e4 := Y3.out.cell 4
    have e5 := Y3.out.cell 5
    have e6 := Y3.out.cell 6
    have e7 := Y3.out.cell 7
    have x3 := X3.out.cell 0
    cases I
    · have hfin : Hid (false = F) := by show _ = _; rw [HF2.out]; rfl
      go_wp2_with fail
      go_ret
      exact ⟨ret_bool hfin.out, B3.out⟩
    · obtain ⟨lit, hlit⟩ : ∃ lit, lit = r.little := ⟨_, rfl⟩
      rw [← hlit] at e3
      have HLIT := Lib.hid hlit
      clear hlit
      cases lit
      · have hlk : Hid (littleOk r = true) := by show _ = _; unfold littleOk; rw [← HLIT.out]; simp
        go_wp2_with fail
        go_loopw [37] (fun i wr => ∃ k : Nat, k ≤ m ∧ i = .int .i64 k ∧ (∀ j (h : j < l.length), j < k → l[j].name ≠ r.name) ∧ Below w3.heap.size w3 wr) (fun i _ => m - (intOf i).toNat)
        case atStart => exact ⟨0, Nat.zero_le _, rfl, fun j _ h => absurd h (by omega), Below.refl _ _⟩
        case round =>
          obtain ⟨k, hk, rfl, hno, hbr⟩ := hrel
          have HO := Lib.hid hno
          clear hno e0 e1 e2 e3 e4 e5 e6 e7 x3
          have HBR := Lib.hid hbr
          have Y4 := Lib.hid (Y3.out.below hbr)
          have X4 := Lib.hid (X3.out.below hbr)
          have B4 := Lib.hid (Below.then_ B3.out hbr (Nat.le_refl _))
          by_cases hlt : k < m
          · have hkl : k < l.length := by omega
            obtain ⟨ub, un, ut, uk, hq⟩ := HCS.out k hkl
            obtain ⟨⟨Eb, fb, rfl⟩, ⟨En, fn, rfl⟩, ⟨Et, ft, rfl⟩, ⟨Ek, fk, rfl⟩⟩ := hq.slices
            obtain ⟨D0, D1, D2, D3, D4, D5, D6, D7⟩ := (hq.below B4.out).eight
            obtain ⟨q, hq0⟩ : ∃ q, q = l[k] := ⟨_, rfl⟩
            rw [← hq0] at D0 D1 D2 D3 D4 D5 D6 D7
            have HQ := Lib.hid hq0
            obtain ⟨w5, hw5⟩ : ∃ w5, w5 = wr.alloc (.cells #[.string q.name, .int .i64 q.kind, .int .i64 q.size, .bool q.little, .slice Eb q.bytes.length fb, .slice En q.names.length fn, .slice Et q.tags.length ft, .slice Ek q.kids.length fk] 56) := ⟨_, rfl⟩
            have y5 : (wr.alloc (.cells #[.string q.name, .int .i64 q.kind, .int .i64 q.size, .bool q.little, .slice Eb q.bytes.length fb, .slice En q.names.length fn, .slice Et q.tags.length ft, .slice Ek q.kids.length fk] 56)).cell? ⟨w1.heap.size, 0, none⟩ = some (.string r.name) := (Y4.out.alloc _).cell 0
            clear hq hbr hq0 hw5
            by_cases he : q.name = r.name
            · have hqs := str_eqs he
              have hfin : Hid (false = F) := by show _ = _; rw [HF2.out, nameNew_bad HR0.out hkl hlt (by rw [← HQ.out]; exact he), hlk.out]; rfl
              clear he
              go_wp2_with fail
              go_ret
              exact ⟨ret_bool hfin.out, B4.out.alloc B4.out.size _⟩
            · have hqs := str_ne he
              have hall : Hid (∀ j (h : j < l.length), j < k + 1 → l[j].name ≠ r.name) := by
                intro j hj hjk
                rcases Nat.lt_or_ge j k with h1 | h1
                · exact HO.out j hj h1
                · obtain rfl : j = k := by omega
                  rw [← HQ.out]; exact he
              clear he
              go_wp2_with fail
              go_roundw
              case rel => exact ⟨k + 1, by omega, by go_num, hall.out, HBR.out.alloc HBR.out.size _⟩
              case measure => simp [intOf]; omega
          · obtain rfl : k = m := by omega
            have hnn : Hid (nameNew l k = true) := nameNew_all HR0.out HO.out
            have HF3 : Hid (F = (kidsUnder r k && kindL l r)) := by show _ = _; rw [HF2.out, hnn.out, hlk.out]; rfl
            have e0 := Y4.out.cell 0
            have e1 := Y4.out.cell 1
            have e2 := Y4.out.cell 2
            have e3 := Y4.out.cell 3
            have e4 := Y4.out.cell 4
            have e5 := Y4.out.cell 5
            have e6 := Y4.out.cell 6
            have e7 := Y4.out.cell 7
            have x4 := X4.out.cell 0
            have HRK := Lib.hid ((rdRule_parts HRD.out).2.2.2.below B4.out)
            obtain ⟨p, hp⟩ : ∃ p, p = r.kids.length := ⟨_, rfl⟩
            have HP := Lib.hid hp
            have hpb : p ≤ 1048576 := by rw [hp]; exact HRS.out.2.2.2
            rw [← hp] at e7
            have HE7 := Lib.hid e7
            clear hp hbr
            go_wp2_with fail
            go_loopw [50] (fun i w6 => ∃ j : Nat, j ≤ p ∧ i = .int .i64 j ∧ (∀ t (h : t < r.kids.length), t < j → inR r.kids[t] 0 ((k : Int) - 1) = true) ∧ w6 = wr) (fun i _ => p - (intOf i).toNat)
            case atStart => exact ⟨0, Nat.zero_le _, rfl, fun j _ h => absurd h (by omega), rfl⟩
            case round =>
              obtain ⟨j, hj, rfl, hno, rfl⟩ := hrel
              have HO2 := Lib.hid hno
              clear hno
              by_cases hlt2 : j < p
              · have hjl : j < r.kids.length := by rw [← HP.out]; exact hlt2
                obtain ⟨bk, ok, rfl, hkc⟩ := kids_at HRK.out (by omega)
                have hx := hkc j hjl
                obtain ⟨kid, hkid⟩ : ∃ kid, kid = r.kids[j] := ⟨_, rfl⟩
                rw [← hkid] at hx
                have HKID := Lib.hid hkid
                clear hkc hkid
                by_cases hb : inR kid 0 ((k : Int) - 1) = true
                · have hb2 : 0 ≤ kid ∧ kid ≤ (k : Int) - 1 := by simpa [inR] using hb
                  have d1 : decide (kid < 0) = false := by simp; omega
                  have d2 : decide ((k : Int) ≤ kid) = false := by simp; omega
                  have hall : Hid (∀ t (h : t < r.kids.length), t < j + 1 → inR r.kids[t] 0 ((k : Int) - 1) = true) := by
                    intro t ht htj
                    rcases Nat.lt_or_ge t j with h1 | h1
                    · exact HO2.out t ht h1
                    · obtain rfl : t = j := by omega
                      rw [← HKID.out]; exact hb
                  clear hb hb2
                  go_wp2_with fail
                  go_roundw
                  case rel => exact ⟨j + 1, by omega, by go_num, hall.out, by first | rfl | trivial⟩
                  case measure => simp [intOf]; omega
                · have hb1 : inR kid 0 ((k : Int) - 1) = false := by simpa using hb
                  have hfin : Hid (false = F) := by show _ = _; rw [HF3.out, kidsUnder_bad hjl (by rw [← HKID.out]; exact hb1)]; rfl
                  by_cases hneg : kid < 0
                  · have d1 : decide (kid < 0) = true := by simpa using hneg
                    clear hb hb1 hneg
                    go_wp2_with fail
                    go_ret
                    exact ⟨ret_bool hfin.out, B4.out⟩
                  · have d1 : decide (kid < 0) = false := by simpa using hneg
                    have d2 : decide ((k : Int) ≤ kid) = true := by simp [inR] at hb; simp; omega
                    clear hb hb1 hneg
                    go_wp2_with fail
                    go_ret
                    exact ⟨ret_bool hfin.out, B4.out⟩
              · obtain rfl : j = p := by omega
                have hku : Hid (kidsUnder r k = true) := kidsUnder_all fun t ht => HO2.out t ht (by rw [HP.out]; exact ht)
                have vk := i_validKind (.agg #[.slice (some ⟨b, off, none⟩) l.length c]) l r _ _ _ _ HRF.out.2.2.2.2.2 HRS.out.2.2.1 HRF.out.2.1 _ ⟨_, rfl, HV.out.below B4.out⟩ (HRD.out.below B4.out)
                have VK := Lib.hid vk
                have hfin : Hid (kindL l r = F) := by show _ = _; rw [HF3.out, hku.out]; rfl
                have hpj : j = r.kids.length := HP.out
                rw [hpj] at e7
                clear vk hpj
                go_wp2_with fail
                refine VK.out.mono ?_
                rintro e w7 ⟨rfl, hb7⟩
                have B7 := Lib.hid (Below.then_ B4.out hb7 (Nat.le_refl _))
                clear hb7
                go_wp2_with fail
                go_ret
                exact ⟨ret_bool hfin.out, B7.out⟩
      · by_cases hk1 : r.kind = 1
        · have hn1 : (r.kind != 1) = false := by simp [hk1]
          have hn2 : (r.kind == 1) = true := by simp [hk1]
          have hlk : Hid (littleOk r = true) := by show _ = _; unfold littleOk; simp [hk1]
          clear hk1
          go_wp2_with fail
          go_loopw [37] (fun i wr => ∃ k : Nat, k ≤ m ∧ i = .int .i64 k ∧ (∀ j (h : j < l.length), j < k → l[j].name ≠ r.name) ∧ Below w3.heap.size w3 wr) (fun i _ => m - (intOf i).toNat)
          case atStart => exact ⟨0, Nat.zero_le _, rfl, fun j _ h => absurd h (by omega), Below.refl _ _⟩
          case round =>
            obtain ⟨k, hk, rfl, hno, hbr⟩ := hrel
            have HO := Lib.hid hno
            clear hno e0 e1 e2 e3 e4 e5 e6 e7 x3
            have HBR := Lib.hid hbr
            have Y4 := Lib.hid (Y3.out.below hbr)
            have X4 := Lib.hid (X3.out.below hbr)
            have B4 := Lib.hid (Below.then_ B3.out hbr (Nat.le_refl _))
            by_cases hlt : k < m
            · have hkl : k < l.length := by omega
              obtain ⟨ub, un, ut, uk, hq⟩ := HCS.out k hkl
              obtain ⟨⟨Eb, fb, rfl⟩, ⟨En, fn, rfl⟩, ⟨Et, ft, rfl⟩, ⟨Ek, fk, rfl⟩⟩ := hq.slices
              obtain ⟨D0, D1, D2, D3, D4, D5, D6, D7⟩ := (hq.below B4.out).eight
              obtain ⟨q, hq0⟩ : ∃ q, q = l[k] := ⟨_, rfl⟩
              rw [← hq0] at D0 D1 D2 D3 D4 D5 D6 D7
              have HQ := Lib.hid hq0
              obtain ⟨w5, hw5⟩ : ∃ w5, w5 = wr.alloc (.cells #[.string q.name, .int .i64 q.kind, .int .i64 q.size, .bool q.little, .slice Eb q.bytes.length fb, .slice En q.names.length fn, .slice Et q.tags.length ft, .slice Ek q.kids.length fk] 56) := ⟨_, rfl⟩
              have y5 : (wr.alloc (.cells #[.string q.name, .int .i64 q.kind, .int .i64 q.size, .bool q.little, .slice Eb q.bytes.length fb, .slice En q.names.length fn, .slice Et q.tags.length ft, .slice Ek q.kids.length fk] 56)).cell? ⟨w1.heap.size, 0, none⟩ = some (.string r.name) := (Y4.out.alloc _).cell 0
              clear hq hbr hq0 hw5
              by_cases he : q.name = r.name
              · have hqs := str_eqs he
                have hfin : Hid (false = F) := by show _ = _; rw [HF2.out, nameNew_bad HR0.out hkl hlt (by rw [← HQ.out]; exact he), hlk.out]; rfl
                clear he
                go_wp2_with fail
                go_ret
                exact ⟨ret_bool hfin.out, B4.out.alloc B4.out.size _⟩
              · have hqs := str_ne he
                have hall : Hid (∀ j (h : j < l.length), j < k + 1 → l[j].name ≠ r.name) := by
                  intro j hj hjk
                  rcases Nat.lt_or_ge j k with h1 | h1
                  · exact HO.out j hj h1
                  · obtain rfl : j = k := by omega
                    rw [← HQ.out]; exact he
                clear he
                go_wp2_with fail
                go_roundw
                case rel => exact ⟨k + 1, by omega, by go_num, hall.out, HBR.out.alloc HBR.out.size _⟩
                case measure => simp [intOf]; omega
            · obtain rfl : k = m := by omega
              have hnn : Hid (nameNew l k = true) := nameNew_all HR0.out HO.out
              have HF3 : Hid (F = (kidsUnder r k && kindL l r)) := by show _ = _; rw [HF2.out, hnn.out, hlk.out]; rfl
              have e0 := Y4.out.cell 0
              have e1 := Y4.out.cell 1
              have e2 := Y4.out.cell 2
              have e3 := Y4.out.cell 3
              have e4 := Y4.out.cell 4
              have e5 := Y4.out.cell 5
              have e6 := Y4.out.cell 6
              have e7 := Y4.out.cell 7
              have x4 := X4.out.cell 0
              have HRK := Lib.hid ((rdRule_parts HRD.out).2.2.2.below B4.out)
              obtain ⟨p, hp⟩ : ∃ p, p = r.kids.length := ⟨_, rfl⟩
              have HP := Lib.hid hp
              have hpb : p ≤ 1048576 := by rw [hp]; exact HRS.out.2.2.2
              rw [← hp] at e7
              have HE7 := Lib.hid e7
              clear hp hbr
              go_wp2_with fail
              go_loopw [50] (fun i w6 => ∃ j : Nat, j ≤ p ∧ i = .int .i64 j ∧ (∀ t (h : t < r.kids.length), t < j → inR r.kids[t] 0 ((k : Int) - 1) = true) ∧ w6 = wr) (fun i _ => p - (intOf i).toNat)
              case atStart => exact ⟨0, Nat.zero_le _, rfl, fun j _ h => absurd h (by omega), rfl⟩
              case round =>
                obtain ⟨j, hj, rfl, hno, rfl⟩ := hrel
                have HO2 := Lib.hid hno
                clear hno
                by_cases hlt2 : j < p
                · have hjl : j < r.kids.length := by rw [← HP.out]; exact hlt2
                  obtain ⟨bk, ok, rfl, hkc⟩ := kids_at HRK.out (by omega)
                  have hx := hkc j hjl
                  obtain ⟨kid, hkid⟩ : ∃ kid, kid = r.kids[j] := ⟨_, rfl⟩
                  rw [← hkid] at hx
                  have HKID := Lib.hid hkid
                  clear hkc hkid
                  by_cases hb : inR kid 0 ((k : Int) - 1) = true
                  · have hb2 : 0 ≤ kid ∧ kid ≤ (k : Int) - 1 := by simpa [inR] using hb
                    have d1 : decide (kid < 0) = false := by simp; omega
                    have d2 : decide ((k : Int) ≤ kid) = false := by simp; omega
                    have hall : Hid (∀ t (h : t < r.kids.length), t < j + 1 → inR r.kids[t] 0 ((k : Int) - 1) = true) := by
                      intro t ht htj
                      rcases Nat.lt_or_ge t j with h1 | h1
                      · exact HO2.out t ht h1
                      · obtain rfl : t = j := by omega
                        rw [← HKID.out]; exact hb
                    clear hb hb2
                    go_wp2_with fail
                    go_roundw
                    case rel => exact ⟨j + 1, by omega, by go_num, hall.out, by first | rfl | trivial⟩
                    case measure => simp [intOf]; omega
                  · have hb1 : inR kid 0 ((k : Int) - 1) = false := by simpa using hb
                    have hfin : Hid (false = F) := by show _ = _; rw [HF3.out, kidsUnder_bad hjl (by rw [← HKID.out]; exact hb1)]; rfl
                    by_cases hneg : kid < 0
                    · have d1 : decide (kid < 0) = true := by simpa using hneg
                      clear hb hb1 hneg
                      go_wp2_with fail
                      go_ret
                      exact ⟨ret_bool hfin.out, B4.out⟩
                    · have d1 : decide (kid < 0) = false := by simpa using hneg
                      have d2 : decide ((k : Int) ≤ kid) = true := by simp [inR] at hb; simp; omega
                      clear hb hb1 hneg
                      go_wp2_with fail
                      go_ret
                      exact ⟨ret_bool hfin.out, B4.out⟩
                · obtain rfl : j = p := by omega
                  have hku : Hid (kidsUnder r k = true) := kidsUnder_all fun t ht => HO2.out t ht (by rw [HP.out]; exact ht)
                  have vk := i_validKind (.agg #[.slice (some ⟨b, off, none⟩) l.length c]) l r _ _ _ _ HRF.out.2.2.2.2.2 HRS.out.2.2.1 HRF.out.2.1 _ ⟨_, rfl, HV.out.below B4.out⟩ (HRD.out.below B4.out)
                  have VK := Lib.hid vk
                  have hfin : Hid (kindL l r = F) := by show _ = _; rw [HF3.out, hku.out]; rfl
                  have hpj : j = r.kids.length := HP.out
                  rw [hpj] at e7
                  clear vk hpj
                  go_wp2_with fail
                  refine VK.out.mono ?_
                  rintro e w7 ⟨rfl, hb7⟩
                  have B7 := Lib.hid (Below.then_ B4.out hb7 (Nat.le_refl _))
                  clear hb7
                  go_wp2_with fail
                  go_ret
                  exact ⟨ret_bool hfin.out, B7.out⟩
        · have hn1 : (r.kind != 1) = true := by simp [hk1]
          have hn2 : (r.kind == 1) = false := by simp [hk1]
          have hn3 : decide (r.kind = 1) = false := by simp [hk1]
          have hlk : Hid (littleOk r = false) := by show _ = _; unfold littleOk; rw [← HLIT.out]; simp [hk1]
          have hfin : Hid (false = F) := by show _ = _; rw [HF2.out, hlk.out]; rfl
          clear hk1
          go_wp2_with fail
          go_ret
          exact ⟨ret_bool hfin.out, B3.out⟩

end Go.Proofs.Ytcegbilfcblhfaa
