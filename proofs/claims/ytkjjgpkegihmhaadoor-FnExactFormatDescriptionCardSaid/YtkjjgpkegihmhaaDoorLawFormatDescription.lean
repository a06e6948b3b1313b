/-
  The law FnExactFormatDescription.
-/
import Derived.Test.YtkjjgpkegihmhaaDoorLines
import Derived.Test.YtkjjgpkegihmhaaDoorGD
import Derived.Test.YtkjjgpkegihmhaaDoorGB
namespace Go.Proofs.YtkjjgpkegihmhaaDoor
open Go.RowKit
set_option linter.unusedVariables false

set_option maxHeartbeats 4000000 in
theorem law_FnExactFormatDescription (d : Value) (l : List RuleD)  (w : World) (hd : RdDesc w d l ∧ ∀ r ∈ l, RuleFits r)  (ht : Tab w) :
    Calls Tryd.prog 5 #[d] w fun e w' => e = .returned (.bool true) ∧ Below w.heap.size w w' := by
  obtain ⟨⟨v, rfl, hv⟩, hfit⟩ := hd
  have HT := Lib.hid ht
  clear ht
  obtain ⟨q, hq⟩ : ∃ q, q = szN (descSize l) 1048576 := ⟨_, rfl⟩
  have sz := fun w h => l_szDescription (.agg #[v]) l 1048576 (by omega) (by omega) hfit w h
  rw [← hq] at sz
  have SZ := Lib.hid sz
  have B0 : Box (w.alloc (.cells #[v] 24)) w.heap.size 24 #[v] := Box.new w _ _
  have X0 := Lib.hid B0
  have HV := Lib.hid hv
  obtain ⟨A, p, rfl⟩ : ∃ A c, v = .slice A l.length c := by
    obtain ⟨A, c, h, _⟩ := hv
    exact ⟨A, c, h⟩
  by_cases hsz : (descSize l : Int) ≤ 1048576
  · have hq0 : 0 ≤ q := by rw [hq, szN_pos hsz]; omega
    have tod := fun w h => l_toDescription (.agg #[.slice A l.length p]) l (desc_len hsz) (desc_small hsz) w h
    have TO := Lib.hid tod
    have hln := desc_len hsz
    have SF := Lib.hid (fun d w ht h => s_FormatDescription d l   (desc_len hsz) hfit (desc_small hsz) (desc_names hsz) w ht h)
    have IF := Lib.hid (fun d w ht h => i_FormatDescription d l   (desc_len hsz) hfit (desc_small hsz) (desc_names hsz) w ht h)
    obtain ⟨R, hR⟩ : ∃ R, R = (.string (mkS (descT l)) : Value) := ⟨_, rfl⟩
    clear tod sz hv B0 hq hsz hfit hR
    go_enter Tryd.func5, Tryd.ntmps5
    go_wp2_with fail
    refine (SZ.out _ ⟨_, rfl, HV.out.below below_box⟩).mono ?_
    rintro e w1 ⟨rfl, hb1⟩
    have c1 : w1.cell? ⟨w.heap.size, 0, none⟩ = some (.slice A l.length p) := (X0.out.below hb1).cell 0
    have HB1 := Lib.hid (Below.then_ below_box hb1 (Nat.le_refl _))
    have X1 := Lib.hid (X0.out.below hb1)
    clear hb1
    go_wp2_with fail
    refine (TO.out _ ⟨_, rfl, HV.out.below HB1.out⟩).mono ?_
    rintro e w2 ⟨v2, rfl, ho2, hb2⟩
    have HO2 := Lib.hid ho2.rd
    have HB2 := Lib.hid (Below.then_ HB1.out hb2 (Nat.le_refl _))
    have X2 := Lib.hid (X1.out.below hb2)
    clear ho2 hb2 c1
    go_wp2_with fail
    refine (SF.out (.agg #[v2]) _ (HT.out.below HB2.out) ⟨_, rfl, HO2.out⟩).mono ?_
    rintro e w3 ⟨rfl, hb3⟩
    have c3 : w3.cell? ⟨w.heap.size, 0, none⟩ = some (.slice A l.length p) := (X2.out.below hb3).cell 0
    have HB3 := Lib.hid (Below.then_ HB2.out hb3 (Nat.le_refl _))
    have X3 := Lib.hid (X2.out.below hb3)
    clear hb3
    go_wp2_with fail
    refine (TO.out _ ⟨_, rfl, HV.out.below HB3.out⟩).mono ?_
    rintro e w4 ⟨v4, rfl, ho4, hb4⟩
    have HO4 := Lib.hid ho4.rd
    obtain ⟨A4, p4, rfl⟩ : ∃ A c, v4 = .slice A l.length c := by
      obtain ⟨A, c, h, _⟩ := ho4.rd
      exact ⟨A, c, h⟩
    have HB4 := Lib.hid (Below.then_ HB3.out hb4 (Nat.le_refl _))
    have X4 := Lib.hid (X3.out.below hb4)
    have Y4 := Lib.hid (Box.new w4 29 #[.slice A4 l.length p4])
    clear ho4 hb4 c3
    go_wp2_with fail
    refine (IF.out (.agg #[.slice A4 l.length p4]) _ (HT.out.below (HB4.out.alloc HB4.out.size _)) ⟨_, rfl, HO4.out.below below_box⟩).mono ?_
    rintro e w5 ⟨rfl, hb5⟩
    have HO5 := Lib.hid ((HO4.out.below below_box).below hb5)
    have HB5 := Lib.hid (Below.then_ (HB4.out.alloc HB4.out.size _) hb5 (Nat.le_refl _))
    have X5 := Lib.hid ((X4.out.alloc _).below hb5)
    have Y5 := Lib.hid (Y4.out.below hb5)
    have c5 : w5.cell? ⟨w.heap.size, 0, none⟩ = some (.slice A l.length p) := X5.out.cell 0
    have d5 : w5.cell? ⟨w4.heap.size, 0, none⟩ = some (.slice A4 l.length p4) := Y5.out.cell 0
    clear hb5
    go_wp2_with fail
    go_region_held3 (fun w' => w'.cell? ⟨w4.heap.size, 0, none⟩ = some (.slice A4 l.length p4) ∧ w'.cell? ⟨w.heap.size, 0, none⟩ = some (.slice A l.length p))
      (first | go_keep | (exact ⟨(Y5.out.below (Below.then_ (Below.refl _ _).drew hb6 (Nat.le_refl _))).cell 0, (X5.out.below (Below.then_ (Below.refl _ _).drew hb6 (Nat.le_refl _))).cell 0⟩) | (exact ⟨((Y5.out.below (Below.then_ (Below.refl _ _).drew HB6.out (Nat.le_refl _))).below hb7).cell 0, ((X5.out.below (Below.then_ (Below.refl _ _).drew HB6.out (Nat.le_refl _))).below hb7).cell 0⟩))
      (first | (go_at_call 10; refine (TO.out _ ⟨_, rfl, HV.out.below HB5.out.drew⟩).mono ?_; rintro e w6 ⟨v6, rfl, ho6, hb6⟩; have HB6 := Lib.hid hb6) | (go_at_call 12; refine (l_eqDescription _ _ l l _ ⟨_, rfl, HO5.out.below (Below.then_ (Below.refl _ _).drew HB6.out (Nat.le_refl _))⟩ ⟨_, rfl, ho6.rd⟩).mono ?_; rw [decide_eq_true rfl]; rintro e w7 ⟨rfl, hb7⟩))
    have HBZ := Lib.hid (Below.then_ (Below.then_ HB5.out.drew HB6.out (Nat.le_refl _)) hb7 (Nat.le_refl _))
    clear hb7
    go_wp2_with fail
    go_ret
    exact ⟨rfl, HBZ.out⟩
  · have hq0 : q < 0 := by rw [hq, szN_neg hsz]; omega
    clear sz hv B0 hq hsz hfit
    go_enter Tryd.func5, Tryd.ntmps5
    go_wp2_with fail
    refine (SZ.out _ ⟨_, rfl, HV.out.below below_box⟩).mono ?_
    rintro e w1 ⟨rfl, hb1⟩
    have HB1 := Lib.hid (Below.then_ below_box hb1 (Nat.le_refl _))
    clear hb1
    go_wp2_with fail
    go_ret
    exact ⟨rfl, HB1.out⟩

end Go.Proofs.YtkjjgpkegihmhaaDoor
