/-
  The law FnExactCopyDescription.
-/
import Derived.Test.YtcegbilfcblhfaaCopyDesc
import Derived.Test.YtcegbilfcblhfaaMarkD
import Derived.Test.YtcegbilfcblhfaaHeldDesc
import Derived.Test.YtcegbilfcblhfaaOpenDesc
import Derived.Test.YtcegbilfcblhfaaDescLaw
namespace Go.Proofs.Ytcegbilfcblhfaa
open Go.RowKit
set_option linter.unusedVariables false

theorem OwnIn.within {w w' : World} {lo hi lo' hi' : Nat} {v : Value} {l : List RuleD} (h : OwnIn w lo' hi' v l) (hw : Within lo hi w w') (ha : hi ≤ lo' ∨ hi' ≤ lo) : OwnIn w' lo' hi' v l := by
  rcases h with h | ⟨g, cap, css, e, h1, h2, h3⟩
  · exact .inl h
  · refine .inr ⟨g, cap, css, e, h1, h2, ⟨h3.len, h3.rlen, ?_, ?_, h3.nodup, h3.lt, h3.ghi⟩⟩
    · exact own_within h3.row hw (fun k hk => by
        have e1 := (h3.row.lt k hk).1
        have e2 : k = g := by simpa [Value.ownBlock] using hk.symm
        have := h3.ghi
        omega)
    · intro i cs r hi' hr
      have hblk := (h3.each i cs r hi' hr).blocks_lt
      have hlt := h3.mem_blocks hi'
      obtain ⟨vb, vn, vt, vk, rfl, k1, k2, k3, k4⟩ := h3.each i cs r hi' hr
      have far : ∀ u ∈ [vb, vn, vt, vk], ∀ k, u.ownBlock = some k → k < lo ∨ hi ≤ k := by
        intro u hu k hk
        have hm : k ∈ blocks (ruleCells r vb vn vt vk) := by rw [blocks_rule]; exact List.mem_filterMap.2 ⟨u, hu, hk⟩
        have e1 := (hblk k hm).1
        have e2 := h3.lt k (hlt k hm)
        omega
      exact ⟨vb, vn, vt, vk, rfl, own_within k1 hw (far vb (by simp)), own_within k2 hw (far vn (by simp)), own_within k3 hw (far vt (by simp)), own_within k4 hw (far vk (by simp))⟩

set_option maxRecDepth 100000 in
set_option maxHeartbeats 8000000 in
theorem law_FnExactCopyDescription (d : Value) (l : List RuleD) (w : World) (hd : RdDesc w d l ∧ ∀ r ∈ l, RuleFits r) :
    Calls Try.prog 11 #[d] w fun e w' => e = .returned (.bool true) ∧ Below w.heap.size w w' := by
  obtain ⟨⟨v, rfl, hv⟩, hfit⟩ := hd
  obtain ⟨q, hq⟩ : ∃ q, q = szN (descSize l) 1048576 := ⟨_, rfl⟩
  have sz := fun w h => l_szDescription (.agg #[v]) l 1048576 (by omega) (by omega) hfit w h
  rw [← hq] at sz
  have SZ := Lib.hid sz
  have B0 : Box (w.alloc (.cells #[v] 24)) w.heap.size 24 #[v] := Box.new w _ _
  have X0 := Lib.hid B0
  have HV := Lib.hid hv
  obtain ⟨A, p, rfl⟩ : ∃ A c, v = .slice A l.length c := by
    obtain ⟨A, c, h, _⟩ := hv
    exact ⟨A, c, h⟩
  by_cases hsz : (descSize l : Int) ≤ 1048576
  · have hq0 : 0 ≤ q := by rw [hq, szN_pos hsz]; omega
    have TO := Lib.hid (fun w h => l_toDescription (.agg #[.slice A l.length p]) l (desc_len hsz) (desc_small hsz) w h)
    have hcount : 1 + countTo l l.length ≤ 1099511627776 := by
      have h1 := countTo_size l
      unfold descSize at hsz
      omega
    have SN := Lib.hid (fun d w h => s_CopyDescription d l (desc_len hsz) (desc_small hsz) w h)
    have IN := Lib.hid (fun d w h => i_CopyDescription d l (desc_len hsz) (desc_small hsz) w h)
    have EQD := Lib.hid (fun a b w (h : RdDesc w a l) (h' : RdDesc w b l) => show Calls Try.prog 19 #[a, b] w fun e w' => e = .returned (.bool true) ∧ Below w.heap.size w w' from by
      have := l_eqDescription a b l l w h h'
      rwa [decide_eq_true rfl] at this)
    have hln := desc_len hsz
    have HCT := Lib.hid hcount
    obtain ⟨z, hz⟩ : ∃ z : Int, z = ((1 + countTo l l.length : Nat) : Int) := ⟨_, rfl⟩
    have hz0 : 0 ≤ z := by omega
    have HZ := Lib.hid hz
    clear sz hv B0 hq hsz hfit hcount hz
    go_enter Try.func11, Try.ntmps11
    go_wp2_with fail
    refine (SZ.out _ ⟨_, rfl, HV.out.below below_box⟩).mono ?_
    rintro e w1 ⟨rfl, hb1⟩
    have c1 : w1.cell? ⟨w.heap.size, 0, none⟩ = some (.slice A l.length p) := (X0.out.below hb1).cell 0
    have HB1 := Lib.hid (Below.then_ below_box hb1 (Nat.le_refl _))
    have X1 := Lib.hid (X0.out.below hb1)
    clear hb1
    go_wp2_with fail
    refine (TO.out _ ⟨_, rfl, HV.out.below HB1.out⟩).mono ?_
    rintro e w2 ⟨v2, rfl, ho2, hb2⟩
    have HO2 := Lib.hid ho2.rd
    have HB2 := Lib.hid (Below.then_ HB1.out hb2 (Nat.le_refl _))
    have X2 := Lib.hid (X1.out.below hb2)
    clear ho2 hb2 c1
    go_wp2_with fail
    refine (SN.out (.agg #[v2]) _ ⟨_, rfl, HO2.out⟩).mono ?_
    rintro e w3 ⟨vw, rfl, how, hb3⟩
    obtain ⟨Aw, pw, rfl⟩ : ∃ A c, vw = .slice A l.length c := by
      obtain ⟨A, c, h, _⟩ := how.rd
      exact ⟨A, c, h⟩
    obtain ⟨w3', hw3⟩ : ∃ w3', w3' = w3.alloc (.cells #[.slice Aw l.length pw] 29) := ⟨_, rfl⟩
    have b3 : Below w3.heap.size w3 w3' := by rw [hw3]; exact below_box
    have e3 : w3'.heap.size = w3.heap.size + 1 := by rw [hw3]; simp
    have y3 : Box w3' w3.heap.size 29 #[.slice Aw l.length pw] := by rw [hw3]; exact Box.new _ _ _
    have OW3 := Lib.hid ((OwnIn.of_own how).below b3)
    have HB3 := Lib.hid (Below.then_ (Below.then_ HB2.out hb3 (Nat.le_refl _)) b3 (Nat.le_refl _))
    have X3 := Lib.hid ((X2.out.below hb3).below b3)
    have Y3 := Lib.hid y3
    have c3 : (w3.alloc (.cells #[.slice Aw l.length pw] 29)).cell? ⟨w.heap.size, 0, none⟩ = some (.slice A l.length p) := by rw [← hw3]; exact X3.out.cell 0
    have HW3 := Lib.hid hw3
    have E3 := Lib.hid e3
    clear how hb3 b3 y3 hw3 e3
    go_wp2_with fail
    rw [← HW3.out]
    refine (TO.out _ ⟨_, rfl, HV.out.below HB3.out⟩).mono ?_
    rintro e w4 ⟨v4, rfl, ho4, hb4⟩
    obtain ⟨A4, p4, rfl⟩ : ∃ A c, v4 = .slice A l.length c := by
      obtain ⟨A, c, h, _⟩ := ho4.rd
      exact ⟨A, c, h⟩
    obtain ⟨w4', hw4⟩ : ∃ w4', w4' = w4.alloc (.cells #[.slice A4 l.length p4] 29) := ⟨_, rfl⟩
    have b4 : Below w4.heap.size w4 w4' := by rw [hw4]; exact below_box
    have e4 : w4'.heap.size = w4.heap.size + 1 := by rw [hw4]; simp
    have z4 : Box w4' w4.heap.size 29 #[.slice A4 l.length p4] := by rw [hw4]; exact Box.new _ _ _
    have OI4 := Lib.hid ((OwnIn.of_own ho4).below b4)
    have OW4 := Lib.hid ((OW3.out.below hb4).below b4)
    have HB4 := Lib.hid (Below.then_ (Below.then_ HB3.out hb4 (Nat.le_refl _)) b4 (Nat.le_refl _))
    have X4 := Lib.hid ((X3.out.below hb4).below b4)
    have Y4 := Lib.hid ((Y3.out.below hb4).below b4)
    have Z4 := Lib.hid z4
    have HW4 := Lib.hid hw4
    have S4 := Lib.hid (show w3'.heap.size ≤ w4.heap.size from hb4.size)
    have E4 := Lib.hid e4
    clear ho4 hb4 b4 z4 c3 hw4 e4
    go_wp2_with fail
    rw [← HW4.out]
    refine (IN.out (.agg #[.slice A4 l.length p4]) _ ⟨_, rfl, OI4.out.rd⟩).mono ?_
    rintro e w5 ⟨vg, rfl, hog, hb5⟩
    obtain ⟨Ag, pg, rfl⟩ : ∃ A c, vg = .slice A l.length c := by
      obtain ⟨A, c, h, _⟩ := hog.rd
      exact ⟨A, c, h⟩
    obtain ⟨w5', hw5⟩ : ∃ w5', w5' = w5.alloc (.cells #[.slice Ag l.length pg] 29) := ⟨_, rfl⟩
    have b5 : Below w5.heap.size w5 w5' := by rw [hw5]; exact below_box
    have z5 : Box w5' w5.heap.size 29 #[.slice Ag l.length pg] := by rw [hw5]; exact Box.new _ _ _
    have OG5 := Lib.hid ((OwnIn.of_own hog).below b5)
    have OI5 := Lib.hid ((OI4.out.below hb5).below b5)
    have OW5 := Lib.hid ((OW4.out.below hb5).below b5)
    have HB5 := Lib.hid (Below.then_ (Below.then_ HB4.out hb5 (Nat.le_refl _)) b5 (Nat.le_refl _))
    have X5 := Lib.hid ((X4.out.below hb5).below b5)
    have Y5 := Lib.hid ((Y4.out.below hb5).below b5)
    have Z5 := Lib.hid ((Z4.out.below hb5).below b5)
    have G5 := Lib.hid z5
    have c5 : (w5.alloc (.cells #[.slice Ag l.length pg] 29)).cell? ⟨w3.heap.size, 0, none⟩ = some (.slice Aw l.length pw) := by rw [← hw5]; exact Y5.out.cell 0
    have HW5 := Lib.hid hw5
    have S5 := Lib.hid (show w4'.heap.size ≤ w5.heap.size from hb5.size)
    clear hog hb5 b5 z5 hw5
    go_wp2_with fail
    rw [← HW5.out]
    refine (EQD.out (.agg #[.slice Ag l.length pg]) (.agg #[.slice Aw l.length pw]) _ ⟨_, rfl, OG5.out.rd⟩ ⟨_, rfl, OW5.out.rd⟩).mono ?_
    rintro e w6 ⟨rfl, hb6⟩
    have OG6 := Lib.hid (OG5.out.below hb6)
    have OW6 := Lib.hid (OW5.out.below hb6)
    have OI6 := Lib.hid (OI5.out.below hb6)
    have HB6 := Lib.hid (Below.then_ HB5.out hb6 (Nat.le_refl _))
    have X6 := Lib.hid (X5.out.below hb6)
    have Y6 := Lib.hid (Y5.out.below hb6)
    have Z6 := Lib.hid (Z5.out.below hb6)
    have G6 := Lib.hid (G5.out.below hb6)
    have c6 : w6.cell? ⟨w.heap.size, 0, none⟩ = some (.slice A l.length p) := X6.out.cell 0
    have d6 : w6.cell? ⟨w4.heap.size, 0, none⟩ = some (.slice A4 l.length p4) := Z6.out.cell 0
    have DR6 := Lib.hid (Below.refl w6.heap.size w6).drew
    clear hb6 c5
    go_wp2_with fail
    go_region_held3 (fun w' => w'.cell? ⟨w4.heap.size, 0, none⟩ = some (.slice A4 l.length p4) ∧ w'.cell? ⟨w.heap.size, 0, none⟩ = some (.slice A l.length p))
      (first | go_keep | (exact ⟨(Z6.out.below hbt).cell 0, (X6.out.below hbt).cell 0⟩) | (exact ⟨(Z6.out.below hbe).cell 0, (X6.out.below hbe).cell 0⟩))
      (first | (go_at_call 17; refine (TO.out _ ⟨_, rfl, HV.out.below (Below.then_ HB6.out DR6.out (Nat.le_refl _))⟩).mono ?_; rintro e w7 ⟨v7, rfl, ho7, hbt0⟩; have hbt := Below.then_ DR6.out hbt0 (Nat.le_refl _); have HO7 := Lib.hid ho7.rd; clear ho7 hbt0) | (go_at_call 19; refine (l_eqDescription _ _ l l _ ⟨_, rfl, OI6.out.rd.below hbt⟩ ⟨_, rfl, HO7.out⟩).mono ?_; rw [decide_eq_true rfl]; rintro e w8 ⟨rfl, hbe0⟩; have hbe := Below.then_ hbt hbe0 (Nat.le_refl _); clear hbe0))
    have OG8 := Lib.hid (OG6.out.below hbe)
    have OW8 := Lib.hid (OW6.out.below hbe)
    have OI8 := Lib.hid (OI6.out.below hbe)
    have HB8 := Lib.hid (Below.then_ HB6.out hbe (Nat.le_refl _))
    have X8 := Lib.hid (X6.out.below hbe)
    have Y8 := Lib.hid (Y6.out.below hbe)
    have G8 := Lib.hid (G6.out.below hbe)
    have d8 : w8.cell? ⟨w4.heap.size, 0, none⟩ = some (.slice A4 l.length p4) := (Z6.out.below hbe).cell 0
    have md := l_markDescription (.slice A4 l.length p4) w3'.heap.size w4.heap.size l 1 HCT.out w8 OI8.out
    rw [← HZ.out] at md
    have MD := Lib.hid md
    clear hbt hbe c6 d6 md
    go_wp2_with fail
    refine MD.out.mono ?_
    rintro e w9 ⟨rfl, _, hwi⟩
    have OG9 := Lib.hid (OG8.out.within hwi (.inl (by have := E4.out; omega)))
    have OW9 := Lib.hid (OW8.out.within hwi (.inr (by have := E3.out; omega)))
    have HB9 := Lib.hid (Within.below HB8.out hwi HB3.out.size HB8.out.size)
    have X9 := Lib.hid (X8.out.within hwi (.inl X3.out.lt))
    have Y9 := Lib.hid (Y8.out.within hwi (.inl Y3.out.lt))
    have G9 := Lib.hid (G8.out.within hwi (.inr (by have h1 := E4.out; have h2 := S5.out; omega)))
    have c9 : w9.cell? ⟨w5.heap.size, 0, none⟩ = some (.slice Ag l.length pg) := G9.out.cell 0
    have d9 : w9.cell? ⟨w3.heap.size, 0, none⟩ = some (.slice Aw l.length pw) := Y9.out.cell 0
    clear hwi d8
    go_wp2_with fail
    refine (EQD.out (.agg #[.slice Ag l.length pg]) (.agg #[.slice Aw l.length pw]) _ ⟨_, rfl, OG9.out.rd⟩ ⟨_, rfl, OW9.out.rd⟩).mono ?_
    rintro e w10 ⟨rfl, hb10⟩
    have ms := l_markDescription (.slice Ag l.length pg) w4'.heap.size w5.heap.size l 1 HCT.out w10 (OG9.out.below hb10)
    have hs := fun w h => l_heldDescription (.slice Ag l.length pg) l 1 HCT.out w h
    rw [← HZ.out] at ms hs
    have MS := Lib.hid ms
    have HS := Lib.hid hs
    have OW10 := Lib.hid (OW9.out.below hb10)
    have HB10 := Lib.hid (Below.then_ HB9.out hb10 (Nat.le_refl _))
    have X10 := Lib.hid (X9.out.below hb10)
    have Y10 := Lib.hid (Y9.out.below hb10)
    have G10 := Lib.hid (G9.out.below hb10)
    have c10 : w10.cell? ⟨w5.heap.size, 0, none⟩ = some (.slice Ag l.length pg) := G10.out.cell 0
    clear hb10 ms hs c9 d9
    go_wp2_with fail
    refine MS.out.mono ?_
    rintro e w11 ⟨rfl, hog, hwi⟩
    have RG11 := Lib.hid hog.rd
    have OW11 := Lib.hid (OW10.out.within hwi (.inr (by have h1 := E3.out; have h2 := S4.out; have h3 := E4.out; omega)))
    have HB11 := Lib.hid (Within.below HB10.out hwi HB4.out.size HB10.out.size)
    have X11 := Lib.hid (X10.out.within hwi (.inl X4.out.lt))
    have Y11 := Lib.hid (Y10.out.within hwi (.inl Y4.out.lt))
    have G11 := Lib.hid (G10.out.within hwi (.inr (Nat.le_refl _)))
    have c11 : w11.cell? ⟨w5.heap.size, 0, none⟩ = some (.slice Ag l.length pg) := G11.out.cell 0
    clear hog hwi c10
    go_wp2_with fail
    refine (HS.out _ RG11.out).mono ?_
    rintro e w12 ⟨rfl, hb12⟩
    have RG12 := Lib.hid (RG11.out.below hb12)
    have OW12 := Lib.hid (OW11.out.below hb12)
    have HB12 := Lib.hid (Below.then_ HB11.out hb12 (Nat.le_refl _))
    have Y12 := Lib.hid (Y11.out.below hb12)
    have G12 := Lib.hid (G11.out.below hb12)
    have c12 : w12.cell? ⟨w.heap.size, 0, none⟩ = some (.slice A l.length p) := (X11.out.below hb12).cell 0
    clear hb12 c11
    go_wp2_with fail
    refine (TO.out _ ⟨_, rfl, HV.out.below HB12.out⟩).mono ?_
    rintro e w13 ⟨v13, rfl, ho13, hb13⟩
    have HO13 := Lib.hid ho13.rd
    have RG13 := Lib.hid (RG12.out.below hb13)
    have OW13 := Lib.hid (OW12.out.below hb13)
    have HB13 := Lib.hid (Below.then_ HB12.out hb13 (Nat.le_refl _))
    have Y13 := Lib.hid (Y12.out.below hb13)
    have G13 := Lib.hid (G12.out.below hb13)
    clear ho13 hb13 c12
    go_wp2_with fail
    refine (IN.out (.agg #[v13]) _ ⟨_, rfl, HO13.out⟩).mono ?_
    rintro e w14 ⟨vh, rfl, hoh, hb14⟩
    obtain ⟨Ah, ph, rfl⟩ : ∃ A c, vh = .slice A l.length c := by
      obtain ⟨A, c, h, _⟩ := hoh.rd
      exact ⟨A, c, h⟩
    obtain ⟨w14', hw14⟩ : ∃ w14', w14' = w14.alloc (.cells #[.slice Ah l.length ph] 29) := ⟨_, rfl⟩
    have b14 : Below w14.heap.size w14 w14' := by rw [hw14]; exact below_box
    have RH14 := Lib.hid (hoh.rd.below b14)
    have RG14 := Lib.hid ((RG13.out.below hb14).below b14)
    have OW14 := Lib.hid ((OW13.out.below hb14).below b14)
    have HB14 := Lib.hid (Below.then_ (Below.then_ HB13.out hb14 (Nat.le_refl _)) b14 (Nat.le_refl _))
    have Y14 := Lib.hid ((Y13.out.below hb14).below b14)
    have G14 := Lib.hid ((G13.out.below hb14).below b14)
    have c14 : (w14.alloc (.cells #[.slice Ah l.length ph] 29)).cell? ⟨w3.heap.size, 0, none⟩ = some (.slice Aw l.length pw) := by rw [← hw14]; exact Y14.out.cell 0
    have HW14 := Lib.hid hw14
    clear hoh hb14 b14 hw14
    go_wp2_with fail
    rw [← HW14.out]
    refine (EQD.out (.agg #[.slice Ah l.length ph]) (.agg #[.slice Aw l.length pw]) _ ⟨_, rfl, RH14.out⟩ ⟨_, rfl, OW14.out.rd⟩).mono ?_
    rintro e w15 ⟨rfl, hb15⟩
    have RG15 := Lib.hid (RG14.out.below hb15)
    have HB15 := Lib.hid (Below.then_ HB14.out hb15 (Nat.le_refl _))
    have c15 : w15.cell? ⟨w5.heap.size, 0, none⟩ = some (.slice Ag l.length pg) := (G14.out.below hb15).cell 0
    clear hb15 c14
    go_wp2_with fail
    refine (HS.out _ RG15.out).mono ?_
    rintro e w16 ⟨rfl, hb16⟩
    have HB16 := Lib.hid (Below.then_ HB15.out hb16 (Nat.le_refl _))
    clear hb16 c15
    go_wp2_with fail
    go_ret
    exact ⟨rfl, HB16.out⟩
  · have hq0 : q < 0 := by rw [hq, szN_neg hsz]; omega
    clear sz hv B0 hq hsz hfit
    go_enter Try.func11, Try.ntmps11
    go_wp2_with fail
    refine (SZ.out _ ⟨_, rfl, HV.out.below below_box⟩).mono ?_
    rintro e w1 ⟨rfl, hb1⟩
    have HB1 := Lib.hid (Below.then_ below_box hb1 (Nat.le_refl _))
    clear hb1
    go_wp2_with fail
    go_ret
    exact ⟨rfl, HB1.out⟩

end Go.Proofs.Ytcegbilfcblhfaa
