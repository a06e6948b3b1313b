/-
  The law FnExactAddRule.
-/
import Derived.Test.YtkjjgpkegihmhaaGreatDoorAddI
import Derived.Test.YtkjjgpkegihmhaaGreatDoorAddS
import Derived.Test.YtkjjgpkegihmhaaGreatDoorGK
import Derived.Test.YtkjjgpkegihmhaaGreatDoorGB
import Derived.Test.YtkjjgpkegihmhaaGreatDoorGD
namespace Go.Proofs.YtkjjgpkegihmhaaGreatDoor
open Go.RowKit
set_option linter.unusedVariables false

set_option maxRecDepth 100000 in
set_option maxHeartbeats 8000000 in
theorem law_FnExactAddRule (d : Value) (l : List RuleD) (s : ByteArray) (w : World) (hd : RdDesc w d l ∧ ∀ r ∈ l, RuleFits r) (hs : s.size ≤ maxLen) (ht : Tab w) :
    Calls Tryz.prog 4 #[d, .string s] w fun e w' => e = .returned (.bool true) ∧ Below w.heap.size w w' := by
  obtain ⟨⟨v, rfl, hv⟩, hfit⟩ := hd
  unfold maxLen at hs
  have HT := Lib.hid ht
  clear ht
  obtain ⟨q, hq⟩ : ∃ q, q = szN (descSize l) 1048576 := ⟨_, rfl⟩
  have sz := fun w h => l_szDescription (.agg #[v]) l 1048576 (by omega) (by omega) hfit w h
  rw [← hq] at sz
  have SZ := Lib.hid sz
  have B0 : Box (w.alloc (.cells #[v] 24)) w.heap.size 24 #[v] := Box.new w _ _
  have X0 := Lib.hid B0
  have HV := Lib.hid hv
  obtain ⟨A, p, rfl⟩ : ∃ A c, v = .slice A l.length c := by
    obtain ⟨A, c, h, _⟩ := hv
    exact ⟨A, c, h⟩
  by_cases hbig : (1048576 : Int) < (s.size : Int)
  · have hdd : decide ((1048576 : Int) < (s.size : Int)) = true := by simpa using hbig
    clear sz hv B0 hq
    go_enter Tryz.func4, Tryz.ntmps4
    go_wp2_with fail
    go_ret
    exact ⟨rfl, below_box⟩
  have hdd : decide ((1048576 : Int) < (s.size : Int)) = false := by simpa using hbig
  by_cases hsz : (descSize l : Int) ≤ 1048576
  · have hq0 : 0 ≤ q := by rw [hq, szN_pos hsz]; omega
    have TO := Lib.hid (fun w h => l_toDescription (.agg #[.slice A l.length p]) l (desc_len hsz) (desc_small hsz) w h)
    have hcount : 1 + countTo l l.length ≤ 1099511627776 := by
      have h1 := countTo_size l
      unfold descSize at hsz
      omega
    have sn := fun d w ht h => s_AddRule d l s (by omega) (desc_len hsz) hfit (desc_small hsz) (desc_names hsz) w ht h
    have im := fun d w ht h => i_AddRule d l s (by omega) (desc_len hsz) hfit (desc_small hsz) (desc_names hsz) w ht h
    have hcount2 := addL_marks (s := s.data.toList) hsz
    obtain ⟨o, ho⟩ : ∃ o, o = addL l s.data.toList := ⟨_, rfl⟩
    rw [← ho] at sn im hcount2
    have SN := Lib.hid sn
    have IN := Lib.hid im
    obtain ⟨l2, hl2⟩ : ∃ l2, l2 = o.getD l := ⟨_, rfl⟩
    rw [← hl2] at hcount2
    have HL2 := Lib.hid hl2
    obtain ⟨ob, hob⟩ : ∃ ob, ob = o.isSome := ⟨_, rfl⟩
    have HOB := Lib.hid hob
    have EQ2 := Lib.hid (fun a b w (h : RdDesc w a l2) (h' : RdDesc w b l2) => show Calls Tryz.prog 13 #[a, b] w fun e w' => e = .returned (.bool true) ∧ Below w.heap.size w w' from by
      have := l_eqDescription a b l2 l2 w h h'
      rwa [decide_eq_true rfl] at this)
    have HCT2 := Lib.hid hcount2
    obtain ⟨y, hy⟩ : ∃ y : Int, y = ((1 + countTo l2 l2.length : Nat) : Int) := ⟨_, rfl⟩
    have hy0 : 0 ≤ y := by omega
    have HY := Lib.hid hy
    have hbb : (ob != ob) = false := by simp
    clear sn im hcount2 ho hl2 hob hy
    have EQD := Lib.hid (fun a b w (h : RdDesc w a l) (h' : RdDesc w b l) => show Calls Tryz.prog 13 #[a, b] w fun e w' => e = .returned (.bool true) ∧ Below w.heap.size w w' from by
      have := l_eqDescription a b l l w h h'
      rwa [decide_eq_true rfl] at this)
    have hln := desc_len hsz
    have HCT := Lib.hid hcount
    obtain ⟨z, hz⟩ : ∃ z : Int, z = ((1 + countTo l l.length : Nat) : Int) := ⟨_, rfl⟩
    have hz0 : 0 ≤ z := by omega
    have HZ := Lib.hid hz
    clear sz hv B0 hq hsz hfit hcount hz hs hbig
    go_enter Tryz.func4, Tryz.ntmps4
    go_wp2_with fail
    refine (SZ.out _ ⟨_, rfl, HV.out.below below_box⟩).mono ?_
    rintro e w1 ⟨rfl, hb1⟩
    have c1 : w1.cell? ⟨w.heap.size, 0, none⟩ = some (.slice A l.length p) := (X0.out.below hb1).cell 0
    have HB1 := Lib.hid (Below.then_ below_box hb1 (Nat.le_refl _))
    have X1 := Lib.hid (X0.out.below hb1)
    clear hb1
    go_wp2_with fail
    refine (TO.out _ ⟨_, rfl, HV.out.below HB1.out⟩).mono ?_
    rintro e w2 ⟨v2, rfl, ho2, hb2⟩
    have HO2 := Lib.hid ho2.rd
    have HB2 := Lib.hid (Below.then_ HB1.out hb2 (Nat.le_refl _))
    have X2 := Lib.hid (X1.out.below hb2)
    clear ho2 hb2 c1
    go_wp2_with fail
    refine (SN.out (.agg #[v2]) _ (HT.out.below HB2.out) ⟨_, rfl, HO2.out⟩).mono ?_
    rintro e w3 ⟨vw, rfl, how, hb3⟩
    rw [← HL2.out] at how
    rw [← HOB.out]
    obtain ⟨Aw, pw, rfl⟩ : ∃ A c, vw = .slice A l2.length c := by
      obtain ⟨A, c, h, _⟩ := how.rd
      exact ⟨A, c, h⟩
    obtain ⟨w3', hw3⟩ : ∃ w3', w3' = w3.alloc (.cells #[.slice Aw l2.length pw] 35) := ⟨_, rfl⟩
    have b3 : Below w3.heap.size w3 w3' := by rw [hw3]; exact below_box
    have e3 : w3'.heap.size = w3.heap.size + 1 := by rw [hw3]; simp
    have y3 : Box w3' w3.heap.size 35 #[.slice Aw l2.length pw] := by rw [hw3]; exact Box.new _ _ _
    have OW3 := Lib.hid ((OwnIn.of_own how).below b3)
    have HB3 := Lib.hid (Below.then_ (Below.then_ HB2.out hb3 (Nat.le_refl _)) b3 (Nat.le_refl _))
    have X3 := Lib.hid ((X2.out.below hb3).below b3)
    have Y3 := Lib.hid y3
    have c3 : (w3.alloc (.cells #[.slice Aw l2.length pw] 35)).cell? ⟨w.heap.size, 0, none⟩ = some (.slice A l.length p) := by rw [← hw3]; exact X3.out.cell 0
    have HW3 := Lib.hid hw3
    have E3 := Lib.hid e3
    clear how hb3 b3 y3 hw3 e3
    go_wp2_with fail
    rw [← HW3.out]
    refine (TO.out _ ⟨_, rfl, HV.out.below HB3.out⟩).mono ?_
    rintro e w4 ⟨v4, rfl, ho4, hb4⟩
    obtain ⟨A4, p4, rfl⟩ : ∃ A c, v4 = .slice A l.length c := by
      obtain ⟨A, c, h, _⟩ := ho4.rd
      exact ⟨A, c, h⟩
    obtain ⟨w4', hw4⟩ : ∃ w4', w4' = w4.alloc (.cells #[.slice A4 l.length p4] 35) := ⟨_, rfl⟩
    have b4 : Below w4.heap.size w4 w4' := by rw [hw4]; exact below_box
    have e4 : w4'.heap.size = w4.heap.size + 1 := by rw [hw4]; simp
    have z4 : Box w4' w4.heap.size 35 #[.slice A4 l.length p4] := by rw [hw4]; exact Box.new _ _ _
    have OI4 := Lib.hid ((OwnIn.of_own ho4).below b4)
    have OW4 := Lib.hid ((OW3.out.below hb4).below b4)
    have HB4 := Lib.hid (Below.then_ (Below.then_ HB3.out hb4 (Nat.le_refl _)) b4 (Nat.le_refl _))
    have X4 := Lib.hid ((X3.out.below hb4).below b4)
    have Y4 := Lib.hid ((Y3.out.below hb4).below b4)
    have Z4 := Lib.hid z4
    have HW4 := Lib.hid hw4
    have S4 := Lib.hid (show w3'.heap.size ≤ w4.heap.size from hb4.size)
    have E4 := Lib.hid e4
    clear ho4 hb4 b4 z4 c3 hw4 e4
    go_wp2_with fail
    rw [← HW4.out]
    refine (IN.out (.agg #[.slice A4 l.length p4]) _ (HT.out.below HB4.out) ⟨_, rfl, OI4.out.rd⟩).mono ?_
    rintro e w5 ⟨vg, rfl, hog, hb5⟩
    rw [← HL2.out] at hog
    rw [← HOB.out]
    obtain ⟨Ag, pg, rfl⟩ : ∃ A c, vg = .slice A l2.length c := by
      obtain ⟨A, c, h, _⟩ := hog.rd
      exact ⟨A, c, h⟩
    obtain ⟨w5', hw5⟩ : ∃ w5', w5' = w5.alloc (.cells #[.slice Ag l2.length pg] 35) := ⟨_, rfl⟩
    have b5 : Below w5.heap.size w5 w5' := by rw [hw5]; exact below_box
    have z5 : Box w5' w5.heap.size 35 #[.slice Ag l2.length pg] := by rw [hw5]; exact Box.new _ _ _
    have OG5 := Lib.hid ((OwnIn.of_own hog).below b5)
    have OI5 := Lib.hid ((OI4.out.below hb5).below b5)
    have OW5 := Lib.hid ((OW4.out.below hb5).below b5)
    have HB5 := Lib.hid (Below.then_ (Below.then_ HB4.out hb5 (Nat.le_refl _)) b5 (Nat.le_refl _))
    have X5 := Lib.hid ((X4.out.below hb5).below b5)
    have Y5 := Lib.hid ((Y4.out.below hb5).below b5)
    have Z5 := Lib.hid ((Z4.out.below hb5).below b5)
    have G5 := Lib.hid z5
    have c5 : (w5.alloc (.cells #[.slice Ag l2.length pg] 35)).cell? ⟨w3.heap.size, 0, none⟩ = some (.slice Aw l2.length pw) := by rw [← hw5]; exact Y5.out.cell 0
    have HW5 := Lib.hid hw5
    have S5 := Lib.hid (show w4'.heap.size ≤ w5.heap.size from hb5.size)
    clear hog hb5 b5 z5 hw5
    go_wp2_with fail
    rw [← HW5.out]
    refine (EQ2.out (.agg #[.slice Ag l2.length pg]) (.agg #[.slice Aw l2.length pw]) _ ⟨_, rfl, OG5.out.rd⟩ ⟨_, rfl, OW5.out.rd⟩).mono ?_
    rintro e w6 ⟨rfl, hb6⟩
    have OG6 := Lib.hid (OG5.out.below hb6)
    have OW6 := Lib.hid (OW5.out.below hb6)
    have OI6 := Lib.hid (OI5.out.below hb6)
    have HB6 := Lib.hid (Below.then_ HB5.out hb6 (Nat.le_refl _))
    have X6 := Lib.hid (X5.out.below hb6)
    have Y6 := Lib.hid (Y5.out.below hb6)
    have Z6 := Lib.hid (Z5.out.below hb6)
    have G6 := Lib.hid (G5.out.below hb6)
    have c6 : w6.cell? ⟨w.heap.size, 0, none⟩ = some (.slice A l.length p) := X6.out.cell 0
    have d6 : w6.cell? ⟨w4.heap.size, 0, none⟩ = some (.slice A4 l.length p4) := Z6.out.cell 0
    have DR6 := Lib.hid (Below.refl w6.heap.size w6).drew
    clear hb6 c5
    go_wp2_with fail
    go_region_held3 (fun w' => w'.cell? ⟨w4.heap.size, 0, none⟩ = some (.slice A4 l.length p4) ∧ w'.cell? ⟨w.heap.size, 0, none⟩ = some (.slice A l.length p))
      (first | go_keep | (exact ⟨(Z6.out.below hbt).cell 0, (X6.out.below hbt).cell 0⟩) | (exact ⟨(Z6.out.below hbe).cell 0, (X6.out.below hbe).cell 0⟩))
      (first | (go_at_call 10; refine (TO.out _ ⟨_, rfl, HV.out.below (Below.then_ HB6.out DR6.out (Nat.le_refl _))⟩).mono ?_; rintro e w7 ⟨v7, rfl, ho7, hbt0⟩; have hbt := Below.then_ DR6.out hbt0 (Nat.le_refl _); have HO7 := Lib.hid ho7.rd; clear ho7 hbt0) | (go_at_call 13; refine (l_eqDescription _ _ l l _ ⟨_, rfl, OI6.out.rd.below hbt⟩ ⟨_, rfl, HO7.out⟩).mono ?_; rw [decide_eq_true rfl]; rintro e w8 ⟨rfl, hbe0⟩; have hbe := Below.then_ hbt hbe0 (Nat.le_refl _); clear hbe0))
    have OG8 := Lib.hid (OG6.out.below hbe)
    have OW8 := Lib.hid (OW6.out.below hbe)
    have OI8 := Lib.hid (OI6.out.below hbe)
    have HB8 := Lib.hid (Below.then_ HB6.out hbe (Nat.le_refl _))
    have X8 := Lib.hid (X6.out.below hbe)
    have Y8 := Lib.hid (Y6.out.below hbe)
    have G8 := Lib.hid (G6.out.below hbe)
    have d8 : w8.cell? ⟨w4.heap.size, 0, none⟩ = some (.slice A4 l.length p4) := (Z6.out.below hbe).cell 0
    have md := l_markDescription (.slice A4 l.length p4) w3'.heap.size w4.heap.size l 1 HCT.out w8 OI8.out
    rw [← HZ.out] at md
    have MD := Lib.hid md
    clear hbt hbe c6 d6 md
    go_wp2_with fail
    refine MD.out.mono ?_
    rintro e w9 ⟨rfl, _, hwi⟩
    have OG9 := Lib.hid (OG8.out.within hwi (.inl (by have := E4.out; omega)))
    have OW9 := Lib.hid (OW8.out.within hwi (.inr (by have := E3.out; omega)))
    have HB9 := Lib.hid (Within.below HB8.out hwi HB3.out.size HB8.out.size)
    have X9 := Lib.hid (X8.out.within hwi (.inl X3.out.lt))
    have Y9 := Lib.hid (Y8.out.within hwi (.inl Y3.out.lt))
    have G9 := Lib.hid (G8.out.within hwi (.inr (by have h1 := E4.out; have h2 := S5.out; omega)))
    have c9 : w9.cell? ⟨w5.heap.size, 0, none⟩ = some (.slice Ag l2.length pg) := G9.out.cell 0
    have d9 : w9.cell? ⟨w3.heap.size, 0, none⟩ = some (.slice Aw l2.length pw) := Y9.out.cell 0
    clear hwi d8
    go_wp2_with fail
    refine (EQ2.out (.agg #[.slice Ag l2.length pg]) (.agg #[.slice Aw l2.length pw]) _ ⟨_, rfl, OG9.out.rd⟩ ⟨_, rfl, OW9.out.rd⟩).mono ?_
    rintro e w10 ⟨rfl, hb10⟩
    have ms := l_markDescription (.slice Ag l2.length pg) w4'.heap.size w5.heap.size l2 1 HCT2.out w10 (OG9.out.below hb10)
    have hs := fun w h => l_heldDescription (.slice Ag l2.length pg) l2 1 HCT2.out w h
    rw [← HY.out] at ms hs
    have MS := Lib.hid ms
    have HS := Lib.hid hs
    have OW10 := Lib.hid (OW9.out.below hb10)
    have HB10 := Lib.hid (Below.then_ HB9.out hb10 (Nat.le_refl _))
    have X10 := Lib.hid (X9.out.below hb10)
    have Y10 := Lib.hid (Y9.out.below hb10)
    have G10 := Lib.hid (G9.out.below hb10)
    have c10 : w10.cell? ⟨w5.heap.size, 0, none⟩ = some (.slice Ag l2.length pg) := G10.out.cell 0
    clear hb10 ms hs c9 d9
    go_wp2_with fail
    refine MS.out.mono ?_
    rintro e w11 ⟨rfl, hog, hwi⟩
    have RG11 := Lib.hid hog.rd
    have OW11 := Lib.hid (OW10.out.within hwi (.inr (by have h1 := E3.out; have h2 := S4.out; have h3 := E4.out; omega)))
    have HB11 := Lib.hid (Within.below HB10.out hwi HB4.out.size HB10.out.size)
    have X11 := Lib.hid (X10.out.within hwi (.inl X4.out.lt))
    have Y11 := Lib.hid (Y10.out.within hwi (.inl Y4.out.lt))
    have G11 := Lib.hid (G10.out.within hwi (.inr (Nat.le_refl _)))
    have c11 : w11.cell? ⟨w5.heap.size, 0, none⟩ = some (.slice Ag l2.length pg) := G11.out.cell 0
    clear hog hwi c10
    go_wp2_with fail
    refine (HS.out _ RG11.out).mono ?_
    rintro e w12 ⟨rfl, hb12⟩
    have RG12 := Lib.hid (RG11.out.below hb12)
    have OW12 := Lib.hid (OW11.out.below hb12)
    have HB12 := Lib.hid (Below.then_ HB11.out hb12 (Nat.le_refl _))
    have Y12 := Lib.hid (Y11.out.below hb12)
    have G12 := Lib.hid (G11.out.below hb12)
    have c12 : w12.cell? ⟨w.heap.size, 0, none⟩ = some (.slice A l.length p) := (X11.out.below hb12).cell 0
    clear hb12 c11
    go_wp2_with fail
    refine (TO.out _ ⟨_, rfl, HV.out.below HB12.out⟩).mono ?_
    rintro e w13 ⟨v13, rfl, ho13, hb13⟩
    have HO13 := Lib.hid ho13.rd
    have RG13 := Lib.hid (RG12.out.below hb13)
    have OW13 := Lib.hid (OW12.out.below hb13)
    have HB13 := Lib.hid (Below.then_ HB12.out hb13 (Nat.le_refl _))
    have Y13 := Lib.hid (Y12.out.below hb13)
    have G13 := Lib.hid (G12.out.below hb13)
    clear ho13 hb13 c12
    go_wp2_with fail
    refine (IN.out (.agg #[v13]) _ (HT.out.below HB13.out) ⟨_, rfl, HO13.out⟩).mono ?_
    rintro e w14 ⟨vh, rfl, hoh, hb14⟩
    rw [← HL2.out] at hoh
    rw [← HOB.out]
    obtain ⟨Ah, ph, rfl⟩ : ∃ A c, vh = .slice A l2.length c := by
      obtain ⟨A, c, h, _⟩ := hoh.rd
      exact ⟨A, c, h⟩
    obtain ⟨w14', hw14⟩ : ∃ w14', w14' = w14.alloc (.cells #[.slice Ah l2.length ph] 35) := ⟨_, rfl⟩
    have b14 : Below w14.heap.size w14 w14' := by rw [hw14]; exact below_box
    have RH14 := Lib.hid (hoh.rd.below b14)
    have RG14 := Lib.hid ((RG13.out.below hb14).below b14)
    have OW14 := Lib.hid ((OW13.out.below hb14).below b14)
    have HB14 := Lib.hid (Below.then_ (Below.then_ HB13.out hb14 (Nat.le_refl _)) b14 (Nat.le_refl _))
    have Y14 := Lib.hid ((Y13.out.below hb14).below b14)
    have G14 := Lib.hid ((G13.out.below hb14).below b14)
    have c14 : (w14.alloc (.cells #[.slice Ah l2.length ph] 35)).cell? ⟨w3.heap.size, 0, none⟩ = some (.slice Aw l2.length pw) := by rw [← hw14]; exact Y14.out.cell 0
    have HW14 := Lib.hid hw14
    clear hoh hb14 b14 hw14
    go_wp2_with fail
    rw [← HW14.out]
    refine (EQ2.out (.agg #[.slice Ah l2.length ph]) (.agg #[.slice Aw l2.length pw]) _ ⟨_, rfl, RH14.out⟩ ⟨_, rfl, OW14.out.rd⟩).mono ?_
    rintro e w15 ⟨rfl, hb15⟩
    have RG15 := Lib.hid (RG14.out.below hb15)
    have HB15 := Lib.hid (Below.then_ HB14.out hb15 (Nat.le_refl _))
    have c15 : w15.cell? ⟨w5.heap.size, 0, none⟩ = some (.slice Ag l2.length pg) := (G14.out.below hb15).cell 0
    clear hb15 c14
    go_wp2_with fail
    refine (HS.out _ RG15.out).mono ?_
    rintro e w16 ⟨rfl, hb16⟩
    have HB16 := Lib.hid (Below.then_ HB15.out hb16 (Nat.le_refl _))
    clear hb16 c15
    go_wp2_with fail
    go_ret
    exact ⟨rfl, HB16.out⟩
  · have hq0 : q < 0 := by rw [hq, szN_neg hsz]; omega
    clear sz hv B0 hq hsz hfit
    go_enter Tryz.func4, Tryz.ntmps4
    go_wp2_with fail
    refine (SZ.out _ ⟨_, rfl, HV.out.below below_box⟩).mono ?_
    rintro e w1 ⟨rfl, hb1⟩
    have HB1 := Lib.hid (Below.then_ below_box hb1 (Nat.le_refl _))
    clear hb1
    go_wp2_with fail
    go_ret
    exact ⟨rfl, HB1.out⟩

end Go.Proofs.YtkjjgpkegihmhaaGreatDoor
