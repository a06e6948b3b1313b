/-
  The law FnExactDescriptionNames.
-/
import Derived.Test.YtcegbilfcblhfaaDescNames
import Derived.Test.YtcegbilfcblhfaaMarkD
import Derived.Test.YtcegbilfcblhfaaOpenDesc
import Derived.Test.YtcegbilfcblhfaaDescLaw
namespace Go.Proofs.Ytcegbilfcblhfaa
open Go.RowKit
set_option linter.unusedVariables false

set_option maxRecDepth 100000 in
set_option maxHeartbeats 8000000 in
theorem law_FnExactDescriptionNames (d : Value) (l : List RuleD) (w : World) (hd : RdDesc w d l ∧ ∀ r ∈ l, RuleFits r) :
    Calls Try.prog 9 #[d] w fun e w' => e = .returned (.bool true) ∧ Below w.heap.size w w' := by
  obtain ⟨⟨v, rfl, hv⟩, hfit⟩ := hd
  obtain ⟨q, hq⟩ : ∃ q, q = szN (descSize l) 1048576 := ⟨_, rfl⟩
  have sz := fun w h => l_szDescription (.agg #[v]) l 1048576 (by omega) (by omega) hfit w h
  rw [← hq] at sz
  have SZ := Lib.hid sz
  have B0 : Box (w.alloc (.cells #[v] 24)) w.heap.size 24 #[v] := Box.new w _ _
  have X0 := Lib.hid B0
  have HV := Lib.hid hv
  obtain ⟨A, p, rfl⟩ : ∃ A c, v = .slice A l.length c := by
    obtain ⟨A, c, h, _⟩ := hv
    exact ⟨A, c, h⟩
  by_cases hsz : (descSize l : Int) ≤ 1048576
  · have hq0 : 0 ≤ q := by rw [hq, szN_pos hsz]; omega
    have TO := Lib.hid (fun w h => l_toDescription (.agg #[.slice A l.length p]) l (desc_len hsz) (desc_small hsz) w h)
    have hln := desc_len hsz
    have hcount : 1 + countTo l l.length ≤ 1099511627776 := by
      have h1 := countTo_size l
      unfold descSize at hsz
      omega
    obtain ⟨N, hN⟩ : ∃ N, N = namesL l := ⟨_, rfl⟩
    have hNl : l.length = N.length := by rw [hN, namesL_len]
    have sn := fun d w h => s_DescriptionNames d l hln w h
    have inn := fun d w h => i_DescriptionNames d l hln w h
    have eqs := fun va vb w h h' => l_eqStringS va vb N N w h h'
    rw [← hN] at sn inn
    have SN := Lib.hid (fun d w h => show Calls Try.prog 30 #[d] w (Made 9 1 N.length (cS N) w) from by rw [← hNl]; exact sn d w h)
    have IN := Lib.hid (fun d w h => show Calls Try.prog 31 #[d] w (Made 9 1 N.length (cS N) w) from by rw [← hNl]; exact inn d w h)
    have EQS := Lib.hid (fun va vb w h h' => show Calls Try.prog 32 #[va, vb] w fun e w' => e = .returned (.bool true) ∧ Below w.heap.size w w' from by
      have := eqs va vb w h h'
      rwa [decide_eq_true rfl] at this)
    have hN1 : N.length ≤ 1048576 := by omega
    have HCT := Lib.hid hcount
    clear sz hv B0 hq hsz hfit hN hNl sn inn eqs hcount
    go_enter Try.func9, Try.ntmps9
    go_wp2_with fail
    refine (SZ.out _ ⟨_, rfl, HV.out.below below_box⟩).mono ?_
    rintro e w1 ⟨rfl, hb1⟩
    have c1 : w1.cell? ⟨w.heap.size, 0, none⟩ = some (.slice A l.length p) := (X0.out.below hb1).cell 0
    have HB1 := Lib.hid (Below.then_ below_box hb1 (Nat.le_refl _))
    have X1 := Lib.hid (X0.out.below hb1)
    clear hb1
    go_wp2_with fail
    refine (TO.out _ ⟨_, rfl, HV.out.below HB1.out⟩).mono ?_
    rintro e w2 ⟨v2, rfl, ho2, hb2⟩
    have HO2 := Lib.hid ho2.rd
    have HB2 := Lib.hid (Below.then_ HB1.out hb2 (Nat.le_refl _))
    have X2 := Lib.hid (X1.out.below hb2)
    clear ho2 hb2 c1
    go_wp2_with fail
    refine (SN.out (.agg #[v2]) _ ⟨_, rfl, HO2.out⟩).mono ?_
    rintro e w3 ⟨vw, rfl, how, hb3⟩
    have c3 : w3.cell? ⟨w.heap.size, 0, none⟩ = some (.slice A l.length p) := (X2.out.below hb3).cell 0
    have HB3 := Lib.hid (Below.then_ HB2.out hb3 (Nat.le_refl _))
    have X3 := Lib.hid (X2.out.below hb3)
    have OW3 := Lib.hid how
    have WLT := Lib.hid (fun k hk => (how.lt k hk).2)
    clear how hb3
    go_wp2_with fail
    refine (TO.out _ ⟨_, rfl, HV.out.below HB3.out⟩).mono ?_
    rintro e w4 ⟨v4, rfl, ho4, hb4⟩
    obtain ⟨A4, p4, rfl⟩ : ∃ A c, v4 = .slice A l.length c := by
      obtain ⟨A, c, h, _⟩ := ho4.rd
      exact ⟨A, c, h⟩
    obtain ⟨w4', hw4⟩ : ∃ w4', w4' = w4.alloc (.cells #[.slice A4 l.length p4] 29) := ⟨_, rfl⟩
    have b4 : Below w4.heap.size w4 w4' := by rw [hw4]; exact below_box
    have z4 : Box w4' w4.heap.size 29 #[.slice A4 l.length p4] := by rw [hw4]; exact Box.new _ _ _
    have OI4 := Lib.hid ((OwnIn.of_own ho4).below b4)
    have HB4 := Lib.hid (Below.then_ (Below.then_ HB3.out hb4 (Nat.le_refl _)) b4 (Nat.le_refl _))
    have X4 := Lib.hid ((X3.out.below hb4).below b4)
    have OW4 := Lib.hid (own_below (own_below OW3.out hb4) b4)
    have Y4 := Lib.hid z4
    have HW4 := Lib.hid hw4
    have S4 := Lib.hid (show w4.heap.size ≤ w4'.heap.size from b4.size)
    have S3 := Lib.hid (show w3.heap.size ≤ w4.heap.size from hb4.size)
    clear ho4 hb4 b4 z4 c3 hw4
    go_wp2_with fail
    rw [← HW4.out]
    refine (IN.out (.agg #[.slice A4 l.length p4]) _ ⟨_, rfl, OI4.out.rd⟩).mono ?_
    rintro e w5 ⟨gv, rfl, hog, hb5⟩
    have GLO := Lib.hid (fun k hk => (hog.lt k hk).1)
    have OG5 := Lib.hid hog
    have OW5 := Lib.hid (own_below OW4.out hb5)
    have OI5 := Lib.hid (OI4.out.below hb5)
    have HB5 := Lib.hid (Below.then_ HB4.out hb5 (Nat.le_refl _))
    have X5 := Lib.hid (X4.out.below hb5)
    have Y5 := Lib.hid (Y4.out.below hb5)
    clear hog hb5
    go_wp2_with fail
    refine (EQS.out gv vw _ (Rd.of_own OG5.out) (Rd.of_own OW5.out)).mono ?_
    rintro e w6 ⟨rfl, hb6⟩
    have OG6 := Lib.hid (own_below OG5.out hb6)
    have OW6 := Lib.hid (own_below OW5.out hb6)
    have OI6 := Lib.hid (OI5.out.below hb6)
    have HB6 := Lib.hid (Below.then_ HB5.out hb6 (Nat.le_refl _))
    have X6 := Lib.hid (X5.out.below hb6)
    have Y6 := Lib.hid (Y5.out.below hb6)
    have c6 : w6.cell? ⟨w.heap.size, 0, none⟩ = some (.slice A l.length p) := X6.out.cell 0
    have d6 : w6.cell? ⟨w4.heap.size, 0, none⟩ = some (.slice A4 l.length p4) := Y6.out.cell 0
    have DR6 := Lib.hid (Below.refl w6.heap.size w6).drew
    clear hb6
    go_wp2_with fail
    go_region_held3 (fun w' => w'.cell? ⟨w4.heap.size, 0, none⟩ = some (.slice A4 l.length p4) ∧ w'.cell? ⟨w.heap.size, 0, none⟩ = some (.slice A l.length p))
      (first | go_keep | (exact ⟨(Y6.out.below hbt).cell 0, (X6.out.below hbt).cell 0⟩) | (exact ⟨(Y6.out.below hbe).cell 0, (X6.out.below hbe).cell 0⟩))
      (first | (go_at_call 17; refine (TO.out _ ⟨_, rfl, HV.out.below (Below.then_ HB6.out DR6.out (Nat.le_refl _))⟩).mono ?_; rintro e w7 ⟨v7, rfl, ho7, hbt0⟩; have hbt := Below.then_ DR6.out hbt0 (Nat.le_refl _); have HO7 := Lib.hid ho7.rd; clear ho7 hbt0) | (go_at_call 19; refine (l_eqDescription _ _ l l _ ⟨_, rfl, OI6.out.rd.below hbt⟩ ⟨_, rfl, HO7.out⟩).mono ?_; rw [decide_eq_true rfl]; rintro e w8 ⟨rfl, hbe0⟩; have hbe := Below.then_ hbt hbe0 (Nat.le_refl _); clear hbe0))
    have OG8 := Lib.hid (own_below OG6.out hbe)
    have OW8 := Lib.hid (own_below OW6.out hbe)
    have OI8 := Lib.hid (OI6.out.below hbe)
    have HB8 := Lib.hid (Below.then_ HB6.out hbe (Nat.le_refl _))
    have X8 := Lib.hid (X6.out.below hbe)
    have d8 : w8.cell? ⟨w4.heap.size, 0, none⟩ = some (.slice A4 l.length p4) := (Y6.out.below hbe).cell 0
    have md := l_markDescription (.slice A4 l.length p4) w3.heap.size w4.heap.size l 1 HCT.out w8 OI8.out
    obtain ⟨z, hz⟩ : ∃ z : Int, z = ((1 + countTo l l.length : Nat) : Int) := ⟨_, rfl⟩
    rw [← hz] at md
    have hz0 : 0 ≤ z := by omega
    have MD := Lib.hid md
    clear hbt hbe c6 d6 md hz
    go_wp2_with fail
    refine MD.out.mono ?_
    rintro e w9 ⟨rfl, _, hwi⟩
    have OG9 := Lib.hid (own_within OG8.out hwi (fun k hk => .inr (Nat.le_trans S4.out (GLO.out k hk))))
    have OW9 := Lib.hid (own_within OW8.out hwi (fun k hk => .inl (WLT.out k hk)))
    have HB9 := Lib.hid (Within.below HB8.out hwi HB3.out.size HB8.out.size)
    have X9 := Lib.hid (X8.out.within hwi (.inl X3.out.lt))
    clear hwi d8
    go_wp2_with fail
    refine (EQS.out gv vw _ (Rd.of_own OG9.out) (Rd.of_own OW9.out)).mono ?_
    rintro e w10 ⟨rfl, hb10⟩
    have ms := l_markStringS gv w4'.heap.size 1 N.length _ (by omega) w10 (own_below OG9.out hb10)
    obtain ⟨y, hy⟩ : ∃ y : Int, y = ((1 : Nat) : Int) + (N.length : Int) := ⟨_, rfl⟩
    rw [← hy] at ms
    have hy0 : 0 ≤ y := by omega
    have hs := fun w h => l_heldStringS gv 1 N.length (by omega) w h
    rw [← hy] at hs
    have MS := Lib.hid ms
    have HS := Lib.hid hs
    have OW10 := Lib.hid (own_below OW9.out hb10)
    have HB10 := Lib.hid (Below.then_ HB9.out hb10 (Nat.le_refl _))
    have X10 := Lib.hid (X9.out.below hb10)
    clear hb10 ms hs hy
    go_wp2_with fail
    refine MS.out.mono ?_
    rintro e w11 ⟨rfl, hog, hgr⟩
    have OG11 := Lib.hid hog
    have OW11 := Lib.hid (own_apart OW10.out hgr WLT.out (fun k hk => Nat.le_trans S3.out (Nat.le_trans S4.out (GLO.out k hk))))
    have HB11 := Lib.hid (HB10.out.grown hgr HB10.out.size (fun k hk => Nat.le_trans HB3.out.size (Nat.le_trans S3.out (Nat.le_trans S4.out (GLO.out k hk)))))
    have X11 := Lib.hid (X10.out.grown hgr (fun e => by have h1 := X3.out.lt; have h2 := GLO.out _ e.symm; have h3 := S3.out; have h4 := S4.out; omega))
    clear hog hgr
    go_wp2_with fail
    refine (HS.out _ (Rd.of_own OG11.out)).mono ?_
    rintro e w12 ⟨rfl, hb12⟩
    have OG12 := Lib.hid (own_below OG11.out hb12)
    have OW12 := Lib.hid (own_below OW11.out hb12)
    have HB12 := Lib.hid (Below.then_ HB11.out hb12 (Nat.le_refl _))
    have X12 := Lib.hid (X11.out.below hb12)
    have c12 : w12.cell? ⟨w.heap.size, 0, none⟩ = some (.slice A l.length p) := X12.out.cell 0
    clear hb12
    go_wp2_with fail
    refine (TO.out _ ⟨_, rfl, HV.out.below HB12.out⟩).mono ?_
    rintro e w13 ⟨v13, rfl, ho13, hb13⟩
    have HO13 := Lib.hid ho13.rd
    have OG13 := Lib.hid (own_below OG12.out hb13)
    have OW13 := Lib.hid (own_below OW12.out hb13)
    have HB13 := Lib.hid (Below.then_ HB12.out hb13 (Nat.le_refl _))
    clear ho13 hb13 c12
    go_wp2_with fail
    refine (IN.out (.agg #[v13]) _ ⟨_, rfl, HO13.out⟩).mono ?_
    rintro e w14 ⟨hv, rfl, hoh, hb14⟩
    have OH14 := Lib.hid hoh
    have OG14 := Lib.hid (own_below OG13.out hb14)
    have OW14 := Lib.hid (own_below OW13.out hb14)
    have HB14 := Lib.hid (Below.then_ HB13.out hb14 (Nat.le_refl _))
    clear hoh hb14
    go_wp2_with fail
    refine (EQS.out hv vw _ (Rd.of_own OH14.out) (Rd.of_own OW14.out)).mono ?_
    rintro e w15 ⟨rfl, hb15⟩
    have OG15 := Lib.hid (own_below OG14.out hb15)
    have HB15 := Lib.hid (Below.then_ HB14.out hb15 (Nat.le_refl _))
    clear hb15
    go_wp2_with fail
    refine (HS.out _ (Rd.of_own OG15.out)).mono ?_
    rintro e w16 ⟨rfl, hb16⟩
    have HB16 := Lib.hid (Below.then_ HB15.out hb16 (Nat.le_refl _))
    clear hb16
    go_wp2_with fail
    go_ret
    exact ⟨rfl, HB16.out⟩
  · have hq0 : q < 0 := by rw [hq, szN_neg hsz]; omega
    clear sz hv B0 hq hsz hfit
    go_enter Try.func9, Try.ntmps9
    go_wp2_with fail
    refine (SZ.out _ ⟨_, rfl, HV.out.below below_box⟩).mono ?_
    rintro e w1 ⟨rfl, hb1⟩
    have HB1 := Lib.hid (Below.then_ below_box hb1 (Nat.le_refl _))
    clear hb1
    go_wp2_with fail
    go_ret
    exact ⟨rfl, HB1.out⟩

end Go.Proofs.Ytcegbilfcblhfaa
