/-
  The law FnExactParseDescription, from the contracts.
-/
import Derived.Test.YtkjjgpkegihmhaaGreatDoorPDescI
import Derived.Test.YtkjjgpkegihmhaaGreatDoorPDescS
import Derived.Test.YtkjjgpkegihmhaaGreatDoorGK
namespace Go.Proofs.YtkjjgpkegihmhaaGreatDoor
open Go.RowKit
set_option linter.unusedVariables false

set_option maxRecDepth 100000 in
set_option maxHeartbeats 8000000 in
theorem law_FnExactParseDescription (s : ByteArray) (w : World) (hs : s.size ≤ maxLen) (ht : Tab w) :
    Calls Tryz.prog 5 #[.string s] w fun e w' => e = .returned (.bool true) ∧ Below w.heap.size w w' := by
  unfold maxLen at hs
  have HT := Lib.hid ht
  clear ht
  by_cases hb : s.size ≤ 1048576
  · have sn := fun w ht => s_ParseDescription s hb w ht
    have im := fun w ht => i_ParseDescription s hb w ht
    have hm := descP_marks s.data.toList
    obtain ⟨F, hF⟩ : ∃ F, F = descP s.data.toList := ⟨_, rfl⟩
    rw [← hF] at sn im hm
    clear hF
    obtain ⟨l, k⟩ := F
    have SN := Lib.hid sn
    have IN := Lib.hid im
    have HCT := Lib.hid (show 1 + countTo l l.length ≤ 1099511627776 from hm)
    have EQD := Lib.hid (fun a b w (h : RdDesc w a l) (h' : RdDesc w b l) => show Calls Tryz.prog 13 #[a, b] w fun e w' => e = .returned (.bool true) ∧ Below w.heap.size w w' from by
      have := l_eqDescription a b l l w h h'
      rwa [decide_eq_true rfl] at this)
    obtain ⟨z, hz⟩ : ∃ z : Int, z = ((1 + countTo l l.length : Nat) : Int) := ⟨_, rfl⟩
    have hz0 : 0 ≤ z := by omega
    have HZ := Lib.hid hz
    have d1 : decide ((1048576 : Int) < (s.size : Int)) = false := by simp; omega
    clear sn im hm hz
    go_enter Tryz.func5, Tryz.ntmps5
    go_wp2_with fail
    refine (SN.out _ HT.out).mono ?_
    rintro e w1 ⟨v0, rfl, ho1, hb1⟩
    obtain ⟨Aw, pw, rfl⟩ := ho1.slice
    obtain ⟨w2, hw2⟩ : ∃ w2, w2 = w1.alloc (.cells #[.slice Aw l.length pw] 35) := ⟨_, rfl⟩
    have b2 : Below w1.heap.size w1 w2 := by rw [hw2]; exact below_box
    have e2 : w2.heap.size = w1.heap.size + 1 := by rw [hw2]; simp
    have Y2 := Lib.hid (show Box w2 w1.heap.size 35 #[.slice Aw l.length pw] by rw [hw2]; exact Box.new _ _ _)
    have OW2 := Lib.hid ((OwnIn.of_own ho1).below b2)
    have HB2 := Lib.hid (Below.then_ hb1 b2 (Nat.le_refl _))
    have W2 := Lib.hid hw2
    have E2 := Lib.hid e2
    clear ho1 hb1 b2 e2 hw2
    go_wp2_with fail
    rw [← W2.out]
    refine (IN.out _ (HT.out.below HB2.out)).mono ?_
    rintro e w3 ⟨vg, rfl, hog, hb3⟩
    obtain ⟨Ag, pg, rfl⟩ := hog.slice
    obtain ⟨w4, hw4⟩ : ∃ w4, w4 = w3.alloc (.cells #[.slice Ag l.length pg] 35) := ⟨_, rfl⟩
    have b4 : Below w3.heap.size w3 w4 := by rw [hw4]; exact below_box
    have G4 := Lib.hid (show Box w4 w3.heap.size 35 #[.slice Ag l.length pg] by rw [hw4]; exact Box.new _ _ _)
    have OG4 := Lib.hid ((OwnIn.of_own hog).below b4)
    have OW4 := Lib.hid ((OW2.out.below hb3).below b4)
    have HB4 := Lib.hid (Below.then_ (Below.then_ HB2.out hb3 (Nat.le_refl _)) b4 (Nat.le_refl _))
    have Y4 := Lib.hid ((Y2.out.below hb3).below b4)
    have c4 : (w3.alloc (.cells #[.slice Ag l.length pg] 35)).cell? ⟨w1.heap.size, 0, none⟩ = some (.slice Aw l.length pw) := by rw [← hw4]; exact Y4.out.cell 0
    have W4 := Lib.hid hw4
    have S4 := Lib.hid (show w2.heap.size ≤ w3.heap.size from hb3.size)
    clear hog hb3 b4 hw4
    go_wp2_with fail
    rw [← W4.out]
    refine (EQD.out (.agg #[.slice Ag l.length pg]) (.agg #[.slice Aw l.length pw]) _ ⟨_, rfl, OG4.out.rd⟩ ⟨_, rfl, OW4.out.rd⟩).mono ?_
    rintro e w6 ⟨rfl, hb6⟩
    have OG6 := Lib.hid (OG4.out.below hb6)
    have OW6 := Lib.hid (OW4.out.below hb6)
    have HB6 := Lib.hid (Below.then_ HB4.out hb6 (Nat.le_refl _))
    have Y6 := Lib.hid (Y4.out.below hb6)
    have G6 := Lib.hid (G4.out.below hb6)
    have c6 : w6.cell? ⟨w3.heap.size, 0, none⟩ = some (.slice Ag l.length pg) := G6.out.cell 0
    have ms := l_markDescription (.slice Ag l.length pg) w2.heap.size w3.heap.size l 1 HCT.out w6 OG6.out
    have hh := fun w h => l_heldDescription (.slice Ag l.length pg) l 1 HCT.out w h
    rw [← HZ.out] at ms hh
    have MS := Lib.hid ms
    have HH := Lib.hid hh
    clear hb6 c4 ms hh
    go_wp2_with fail
    refine MS.out.mono ?_
    rintro e w7 ⟨rfl, hog, hwi⟩
    have RG7 := Lib.hid hog.rd
    have OW7 := Lib.hid (OW6.out.within hwi (.inr (by have h1 := E2.out; omega)))
    have HB7 := Lib.hid (Within.below HB6.out hwi HB2.out.size HB6.out.size)
    have Y7 := Lib.hid (Y6.out.within hwi (.inl Y2.out.lt))
    have G7 := Lib.hid (G6.out.within hwi (.inr (Nat.le_refl _)))
    have c7 : w7.cell? ⟨w3.heap.size, 0, none⟩ = some (.slice Ag l.length pg) := G7.out.cell 0
    clear hog hwi c6
    go_wp2_with fail
    refine (HH.out _ RG7.out).mono ?_
    rintro e w8 ⟨rfl, hb8⟩
    have RG8 := Lib.hid (RG7.out.below hb8)
    have OW8 := Lib.hid (OW7.out.below hb8)
    have HB8 := Lib.hid (Below.then_ HB7.out hb8 (Nat.le_refl _))
    have Y8 := Lib.hid (Y7.out.below hb8)
    have G8 := Lib.hid (G7.out.below hb8)
    clear hb8 c7
    go_wp2_with fail
    refine (IN.out _ (HT.out.below HB8.out)).mono ?_
    rintro e w9 ⟨vh, rfl, hoh, hb9⟩
    obtain ⟨Ah, ph, rfl⟩ := hoh.slice
    obtain ⟨w10, hw10⟩ : ∃ w10, w10 = w9.alloc (.cells #[.slice Ah l.length ph] 35) := ⟨_, rfl⟩
    have b10 : Below w9.heap.size w9 w10 := by rw [hw10]; exact below_box
    have RH10 := Lib.hid (hoh.rd.below b10)
    have RG10 := Lib.hid ((RG8.out.below hb9).below b10)
    have OW10 := Lib.hid ((OW8.out.below hb9).below b10)
    have HB10 := Lib.hid (Below.then_ (Below.then_ HB8.out hb9 (Nat.le_refl _)) b10 (Nat.le_refl _))
    have Y10 := Lib.hid ((Y8.out.below hb9).below b10)
    have G10 := Lib.hid ((G8.out.below hb9).below b10)
    have c10 : (w9.alloc (.cells #[.slice Ah l.length ph] 35)).cell? ⟨w1.heap.size, 0, none⟩ = some (.slice Aw l.length pw) := by rw [← hw10]; exact Y10.out.cell 0
    have W10 := Lib.hid hw10
    clear hoh hb9 b10 hw10
    go_wp2_with fail
    rw [← W10.out]
    refine (EQD.out (.agg #[.slice Ah l.length ph]) (.agg #[.slice Aw l.length pw]) _ ⟨_, rfl, RH10.out⟩ ⟨_, rfl, OW10.out.rd⟩).mono ?_
    rintro e w11 ⟨rfl, hb11⟩
    have RG11 := Lib.hid (RG10.out.below hb11)
    have HB11 := Lib.hid (Below.then_ HB10.out hb11 (Nat.le_refl _))
    have c11 : w11.cell? ⟨w3.heap.size, 0, none⟩ = some (.slice Ag l.length pg) := (G10.out.below hb11).cell 0
    clear hb11 c10
    go_wp2_with fail
    refine (HH.out _ RG11.out).mono ?_
    rintro e w12 ⟨rfl, hb12⟩
    have HB12 := Lib.hid (Below.then_ HB11.out hb12 (Nat.le_refl _))
    clear hb12 c11
    go_wp2_with fail
    go_ret
    exact ⟨rfl, HB12.out⟩
  · have d1 : decide ((1048576 : Int) < (s.size : Int)) = true := by simp; omega
    go_enter Tryz.func5, Tryz.ntmps5
    go_wp2_with fail
    go_ret
    exact ⟨rfl, Below.refl _ _⟩

end Go.Proofs.YtkjjgpkegihmhaaGreatDoor
