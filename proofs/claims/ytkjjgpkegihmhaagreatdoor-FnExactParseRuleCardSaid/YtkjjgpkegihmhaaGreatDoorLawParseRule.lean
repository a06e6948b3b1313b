/-
  The law FnExactParseRule.
-/
import Derived.Test.YtkjjgpkegihmhaaGreatDoorParseI
import Derived.Test.YtkjjgpkegihmhaaGreatDoorParseS
import Derived.Test.YtkjjgpkegihmhaaGreatDoorGK
import Derived.Test.YtkjjgpkegihmhaaGreatDoorMarkR
import Derived.Test.YtkjjgpkegihmhaaGreatDoorGH
import Derived.Test.YtkjjgpkegihmhaaGreatDoorGB
import Derived.Test.YtkjjgpkegihmhaaGreatDoorGD
namespace Go.Proofs.YtkjjgpkegihmhaaGreatDoor
open Go.RowKit
set_option linter.unusedVariables false

theorem shape_small {ll : List RuleD} {r : RuleD} (h : Shape ll r) : RuleSmall r := by
  unfold RuleSmall
  rcases h with h | h | h | h | h | h | h | h | h | h
  · rw [h.2.1, h.2.2.1, h.2.2.2.1, h.2.2.2.2.1]; simp
  · rw [h.2.2.1, h.2.2.2.1, h.2.2.2.2.1]; simp; omega
  · rw [h.2.1, h.2.2.1, h.2.2.2.1, h.2.2.2.2.1]; simp
  · rw [h.2.2.1, h.2.2.2.1, h.2.2.2.2.1]; simp; omega
  · rw [h.2.2.1, h.2.2.2.1, h.2.2.2.2.1]; simp; omega
  · rw [h.2.2.1, h.2.2.2.1]; simp; omega
  · rw [h.2.2.1, h.2.2.2.1]; simp; omega
  · rw [h.2.2.1, h.2.2.2.1, h.2.2.2.2.1]; simp; omega
  · rw [h.2.2.1, h.2.2.2.1, h.2.2.2.2.1]; simp; omega
  · rw [h.2.2.1, h.2.2.2.1, h.2.2.2.2.1]; simp; omega
theorem parse_marks (l : List RuleD) (s : List UInt8) : 1 + ((parseI l s).getD rZ).bytes.length + ((parseI l s).getD rZ).names.length + ((parseI l s).getD rZ).tags.length + ((parseI l s).getD rZ).kids.length ≤ 1099511627776 := by
  cases h : parseI l s with
  | none => simp [rZ]
  | some r =>
    rw [Option.getD_some]
    have h1 := shape_small (shape_of (validR_kind (parse_sound h).1))
    rw [ruleAt_new] at h1
    unfold RuleSmall at h1
    omega

set_option maxRecDepth 100000 in
set_option maxHeartbeats 16000000 in
theorem law_FnExactParseRule (d : Value) (l : List RuleD) (s : ByteArray) (w : World) (hd : RdDesc w d l ∧ ∀ r ∈ l, RuleFits r) (hs : s.size ≤ maxLen) (ht : Tab w) :
    Calls Tryz.prog 3 #[d, .string s] w fun e w' => e = .returned (.bool true) ∧ Below w.heap.size w w' := by
  obtain ⟨⟨v, rfl, hv⟩, hfit⟩ := hd
  unfold maxLen at hs
  have HT := Lib.hid ht
  clear ht
  obtain ⟨q, hq⟩ : ∃ q, q = szN (descSize l) 1048576 := ⟨_, rfl⟩
  have sz := fun w h => l_szDescription (.agg #[v]) l 1048576 (by omega) (by omega) hfit w h
  rw [← hq] at sz
  have SZ := Lib.hid sz
  have B0 : Box (w.alloc (.cells #[v] 24)) w.heap.size 24 #[v] := Box.new w _ _
  have X0 := Lib.hid B0
  have HV := Lib.hid hv
  obtain ⟨A, p, rfl⟩ : ∃ A c, v = .slice A l.length c := by
    obtain ⟨A, c, h, _⟩ := hv
    exact ⟨A, c, h⟩
  by_cases hbig : (1048576 : Int) < (s.size : Int)
  · have hdd : decide ((1048576 : Int) < (s.size : Int)) = true := by simpa using hbig
    clear sz hv B0 hq
    go_enter Tryz.func3, Tryz.ntmps3
    go_wp2_with fail
    go_ret
    exact ⟨rfl, below_box⟩
  have hdd : decide ((1048576 : Int) < (s.size : Int)) = false := by simpa using hbig
  by_cases hsz : (descSize l : Int) ≤ 1048576
  · have hq0 : 0 ≤ q := by rw [hq, szN_pos hsz]; omega
    have TO := Lib.hid (fun w h => l_toDescription (.agg #[.slice A l.length p]) l (desc_len hsz) (desc_small hsz) w h)
    have hcount : 1 + countTo l l.length ≤ 1099511627776 := by
      have h1 := countTo_size l
      unfold descSize at hsz
      omega
    have sn := fun d w ht h => s_ParseRule d l s (by omega) (desc_len hsz) hfit (desc_small hsz) (desc_names hsz) w ht h
    have im := fun d w ht h => i_ParseRule d l s (by omega) (desc_len hsz) hfit (desc_small hsz) (desc_names hsz) w ht h
    have hpm := parse_marks l s.data.toList
    obtain ⟨o, ho⟩ : ∃ o, o = parseI l s.data.toList := ⟨_, rfl⟩
    rw [← ho] at sn im hpm
    have SN := Lib.hid sn
    have IN := Lib.hid im
    obtain ⟨r, hr⟩ : ∃ r, r = o.getD rZ := ⟨_, rfl⟩
    rw [← hr] at hpm
    have HR := Lib.hid hr
    obtain ⟨ob, hob⟩ : ∃ ob, ob = o.isSome := ⟨_, rfl⟩
    have HOB := Lib.hid hob
    have EQR := Lib.hid (fun vb vn vt vk ub un ut uk w (h : RdRule w (ruleCells r vb vn vt vk) r) (h' : RdRule w (ruleCells r ub un ut uk) r) => show Calls Tryz.prog 12 #[.agg #[.string r.name, .int .i64 r.kind, .int .i64 r.size, .bool r.little, vb, vn, vt, vk], .agg #[.string r.name, .int .i64 r.kind, .int .i64 r.size, .bool r.little, ub, un, ut, uk]] w fun e w' => e = .returned (.bool true) ∧ Below w.heap.size w w' from by
      have := l_eqRule r r vb vn vt vk ub un ut uk w h h'
      rwa [decide_eq_true rfl] at this)
    have HPM := Lib.hid hpm
    have hln := desc_len hsz
    have HCT := Lib.hid hcount
    obtain ⟨z, hz⟩ : ∃ z : Int, z = ((1 + countTo l l.length : Nat) : Int) := ⟨_, rfl⟩
    have hz0 : 0 ≤ z := by omega
    have HZ := Lib.hid hz
    obtain ⟨y, hy⟩ : ∃ y : Int, y = ((1 + r.bytes.length + r.names.length + r.tags.length + r.kids.length : Nat) : Int) := ⟨_, rfl⟩
    have hy0 : 0 ≤ y := by omega
    have HY := Lib.hid hy
    have hbb : (ob != ob) = false := by simp
    clear sz hv B0 hq hsz hfit hcount hz hs hbig sn im hpm ho hr hob hy
    go_enter Tryz.func3, Tryz.ntmps3
    go_wp2_with fail
    refine (SZ.out _ ⟨_, rfl, HV.out.below below_box⟩).mono ?_
    rintro e w1 ⟨rfl, hb1⟩
    have c1 : w1.cell? ⟨w.heap.size, 0, none⟩ = some (.slice A l.length p) := (X0.out.below hb1).cell 0
    have HB1 := Lib.hid (Below.then_ below_box hb1 (Nat.le_refl _))
    have X1 := Lib.hid (X0.out.below hb1)
    clear hb1
    go_wp2_with fail
    refine (TO.out _ ⟨_, rfl, HV.out.below HB1.out⟩).mono ?_
    rintro e w2 ⟨v2, rfl, ho2, hb2⟩
    have HO2 := Lib.hid ho2.rd
    have HB2 := Lib.hid (Below.then_ HB1.out hb2 (Nat.le_refl _))
    have X2 := Lib.hid (X1.out.below hb2)
    clear ho2 hb2 c1
    go_wp2_with fail
    refine (SN.out (.agg #[v2]) _ (HT.out.below HB2.out) ⟨_, rfl, HO2.out⟩).mono ?_
    rintro e w3 ⟨ub, un, ut, uk, rfl, how, hb3⟩
    rw [← HR.out] at how ⊢
    rw [← HOB.out]
    obtain ⟨Abw, cbw, Anw, cnw, Atw, ctw, Akw, ckw, rfl, rfl, rfl, rfl⟩ := how.slices
    unfold rCells
    obtain ⟨w3', hw3⟩ : ∃ w3', w3' = w3.alloc (.cells #[.string r.name, .int .i64 r.kind, .int .i64 r.size, .bool r.little, .slice Abw r.bytes.length cbw, .slice Anw r.names.length cnw, .slice Atw r.tags.length ctw, .slice Akw r.kids.length ckw] 30) := ⟨_, rfl⟩
    have b3 : Below w3.heap.size w3 w3' := by rw [hw3]; exact (Below.refl _ _).alloc (Nat.le_refl _) _
    have e3 : w3'.heap.size = w3.heap.size + 1 := by rw [hw3]; simp
    have y3 : Box w3' w3.heap.size 30 #[.string r.name, .int .i64 r.kind, .int .i64 r.size, .bool r.little, .slice Abw r.bytes.length cbw, .slice Anw r.names.length cnw, .slice Atw r.tags.length ctw, .slice Akw r.kids.length ckw] := by rw [hw3]; exact Box.new _ _ _
    have OW3 := Lib.hid (how.below b3)
    have UW := Lib.hid (how.under)
    have HB3 := Lib.hid (Below.then_ (Below.then_ HB2.out hb3 (Nat.le_refl _)) b3 (Nat.le_refl _))
    have X3 := Lib.hid ((X2.out.below hb3).below b3)
    have Y3 := Lib.hid y3
    have c3 : (w3.alloc (.cells #[.string r.name, .int .i64 r.kind, .int .i64 r.size, .bool r.little, .slice Abw r.bytes.length cbw, .slice Anw r.names.length cnw, .slice Atw r.tags.length ctw, .slice Akw r.kids.length ckw] 30)).cell? ⟨w.heap.size, 0, none⟩ = some (.slice A l.length p) := by rw [← hw3]; exact X3.out.cell 0
    have HW3 := Lib.hid hw3
    have E3 := Lib.hid e3
    clear how hb3 b3 y3 hw3 e3
    go_wp2_with fail
    rw [← HW3.out]
    refine (TO.out _ ⟨_, rfl, HV.out.below HB3.out⟩).mono ?_
    rintro e w4 ⟨v4, rfl, ho4, hb4⟩
    obtain ⟨A4, p4, rfl⟩ : ∃ A c, v4 = .slice A l.length c := by
      obtain ⟨A, c, h, _⟩ := ho4.rd
      exact ⟨A, c, h⟩
    obtain ⟨w4', hw4⟩ : ∃ w4', w4' = w4.alloc (.cells #[.slice A4 l.length p4] 35) := ⟨_, rfl⟩
    have b4 : Below w4.heap.size w4 w4' := by rw [hw4]; exact below_box
    have e4 : w4'.heap.size = w4.heap.size + 1 := by rw [hw4]; simp
    have z4 : Box w4' w4.heap.size 35 #[.slice A4 l.length p4] := by rw [hw4]; exact Box.new _ _ _
    have OI4 := Lib.hid ((OwnIn.of_own ho4).below b4)
    have OW4 := Lib.hid ((OW3.out.below hb4).below b4)
    have HB4 := Lib.hid (Below.then_ (Below.then_ HB3.out hb4 (Nat.le_refl _)) b4 (Nat.le_refl _))
    have X4 := Lib.hid ((X3.out.below hb4).below b4)
    have Y4 := Lib.hid ((Y3.out.below hb4).below b4)
    have Z4 := Lib.hid z4
    have HW4 := Lib.hid hw4
    have S4 := Lib.hid (show w3'.heap.size ≤ w4.heap.size from hb4.size)
    have E4 := Lib.hid e4
    clear ho4 hb4 b4 z4 c3 hw4 e4
    go_wp2_with fail
    rw [← HW4.out]
    refine (IN.out (.agg #[.slice A4 l.length p4]) _ (HT.out.below HB4.out) ⟨_, rfl, OI4.out.rd⟩).mono ?_
    rintro e w5 ⟨ub, un, ut, uk, rfl, hog, hb5⟩
    rw [← HR.out] at hog ⊢
    rw [← HOB.out]
    obtain ⟨Abg, cbg, Ang, cng, Atg, ctg, Akg, ckg, rfl, rfl, rfl, rfl⟩ := hog.slices
    unfold rCells
    obtain ⟨w5', hw5⟩ : ∃ w5', w5' = w5.alloc (.cells #[.string r.name, .int .i64 r.kind, .int .i64 r.size, .bool r.little, .slice Abg r.bytes.length cbg, .slice Ang r.names.length cng, .slice Atg r.tags.length ctg, .slice Akg r.kids.length ckg] 30) := ⟨_, rfl⟩
    have b5 : Below w5.heap.size w5 w5' := by rw [hw5]; exact (Below.refl _ _).alloc (Nat.le_refl _) _
    have z5 : Box w5' w5.heap.size 30 #[.string r.name, .int .i64 r.kind, .int .i64 r.size, .bool r.little, .slice Abg r.bytes.length cbg, .slice Ang r.names.length cng, .slice Atg r.tags.length ctg, .slice Akg r.kids.length ckg] := by rw [hw5]; exact Box.new _ _ _
    have OG5 := Lib.hid (hog.below b5)
    have UG := Lib.hid hog.under
    have OI5 := Lib.hid ((OI4.out.below hb5).below b5)
    have OW5 := Lib.hid ((OW4.out.below hb5).below b5)
    have HB5 := Lib.hid (Below.then_ (Below.then_ HB4.out hb5 (Nat.le_refl _)) b5 (Nat.le_refl _))
    have X5 := Lib.hid ((X4.out.below hb5).below b5)
    have Y5 := Lib.hid ((Y4.out.below hb5).below b5)
    have Z5 := Lib.hid ((Z4.out.below hb5).below b5)
    have G5 := Lib.hid z5
    have Y5r := Y5.out
    rw [hw5] at Y5r
    have y0 : (w5.alloc (.cells #[.string r.name, .int .i64 r.kind, .int .i64 r.size, .bool r.little, .slice Abg r.bytes.length cbg, .slice Ang r.names.length cng, .slice Atg r.tags.length ctg, .slice Akg r.kids.length ckg] 30)).cell? ⟨w3.heap.size, 0, none⟩ = some (.string r.name) := Y5r.cell 0
    have y1 : (w5.alloc (.cells #[.string r.name, .int .i64 r.kind, .int .i64 r.size, .bool r.little, .slice Abg r.bytes.length cbg, .slice Ang r.names.length cng, .slice Atg r.tags.length ctg, .slice Akg r.kids.length ckg] 30)).cell? ⟨w3.heap.size, 1, none⟩ = some (.int .i64 r.kind) := Y5r.cell 1
    have y2 : (w5.alloc (.cells #[.string r.name, .int .i64 r.kind, .int .i64 r.size, .bool r.little, .slice Abg r.bytes.length cbg, .slice Ang r.names.length cng, .slice Atg r.tags.length ctg, .slice Akg r.kids.length ckg] 30)).cell? ⟨w3.heap.size, 2, none⟩ = some (.int .i64 r.size) := Y5r.cell 2
    have y3 : (w5.alloc (.cells #[.string r.name, .int .i64 r.kind, .int .i64 r.size, .bool r.little, .slice Abg r.bytes.length cbg, .slice Ang r.names.length cng, .slice Atg r.tags.length ctg, .slice Akg r.kids.length ckg] 30)).cell? ⟨w3.heap.size, 3, none⟩ = some (.bool r.little) := Y5r.cell 3
    have y4 : (w5.alloc (.cells #[.string r.name, .int .i64 r.kind, .int .i64 r.size, .bool r.little, .slice Abg r.bytes.length cbg, .slice Ang r.names.length cng, .slice Atg r.tags.length ctg, .slice Akg r.kids.length ckg] 30)).cell? ⟨w3.heap.size, 4, none⟩ = some (.slice Abw r.bytes.length cbw) := Y5r.cell 4
    have y5 : (w5.alloc (.cells #[.string r.name, .int .i64 r.kind, .int .i64 r.size, .bool r.little, .slice Abg r.bytes.length cbg, .slice Ang r.names.length cng, .slice Atg r.tags.length ctg, .slice Akg r.kids.length ckg] 30)).cell? ⟨w3.heap.size, 5, none⟩ = some (.slice Anw r.names.length cnw) := Y5r.cell 5
    have y6 : (w5.alloc (.cells #[.string r.name, .int .i64 r.kind, .int .i64 r.size, .bool r.little, .slice Abg r.bytes.length cbg, .slice Ang r.names.length cng, .slice Atg r.tags.length ctg, .slice Akg r.kids.length ckg] 30)).cell? ⟨w3.heap.size, 6, none⟩ = some (.slice Atw r.tags.length ctw) := Y5r.cell 6
    have y7 : (w5.alloc (.cells #[.string r.name, .int .i64 r.kind, .int .i64 r.size, .bool r.little, .slice Abg r.bytes.length cbg, .slice Ang r.names.length cng, .slice Atg r.tags.length ctg, .slice Akg r.kids.length ckg] 30)).cell? ⟨w3.heap.size, 7, none⟩ = some (.slice Akw r.kids.length ckw) := Y5r.cell 7
    have HW5 := Lib.hid hw5
    have S5 := Lib.hid (show w4'.heap.size ≤ w5.heap.size from hb5.size)
    clear hog hb5 b5 z5 hw5 Y5r
    go_wp2_with fail
    rw [← HW5.out]
    refine (EQR.out (.slice Abg r.bytes.length cbg) (.slice Ang r.names.length cng) (.slice Atg r.tags.length ctg) (.slice Akg r.kids.length ckg) (.slice Abw r.bytes.length cbw) (.slice Anw r.names.length cnw) (.slice Atw r.tags.length ctw) (.slice Akw r.kids.length ckw) _ OG5.out.rule OW5.out.rule).mono ?_
    rintro e w6 ⟨rfl, hb6⟩
    have OG6 := Lib.hid (OG5.out.below hb6)
    have OW6 := Lib.hid (OW5.out.below hb6)
    have OI6 := Lib.hid (OI5.out.below hb6)
    have HB6 := Lib.hid (Below.then_ HB5.out hb6 (Nat.le_refl _))
    have X6 := Lib.hid (X5.out.below hb6)
    have Y6 := Lib.hid (Y5.out.below hb6)
    have Z6 := Lib.hid (Z5.out.below hb6)
    have G6 := Lib.hid (G5.out.below hb6)
    have c6 : w6.cell? ⟨w.heap.size, 0, none⟩ = some (.slice A l.length p) := X6.out.cell 0
    have d6 : w6.cell? ⟨w4.heap.size, 0, none⟩ = some (.slice A4 l.length p4) := Z6.out.cell 0
    have DR6 := Lib.hid (Below.refl w6.heap.size w6).drew
    clear hb6 y0 y1 y2 y3 y4 y5 y6 y7
    go_wp2_with fail
    go_region_held3 (fun w' => w'.cell? ⟨w4.heap.size, 0, none⟩ = some (.slice A4 l.length p4) ∧ w'.cell? ⟨w.heap.size, 0, none⟩ = some (.slice A l.length p))
      (first | go_keep | (exact ⟨(Z6.out.below hbt).cell 0, (X6.out.below hbt).cell 0⟩) | (exact ⟨(Z6.out.below hbe).cell 0, (X6.out.below hbe).cell 0⟩))
      (first | (go_at_call 10; refine (TO.out _ ⟨_, rfl, HV.out.below (Below.then_ HB6.out DR6.out (Nat.le_refl _))⟩).mono ?_; rintro e w7 ⟨v7, rfl, ho7, hbt0⟩; have hbt := Below.then_ DR6.out hbt0 (Nat.le_refl _); have HO7 := Lib.hid ho7.rd; clear ho7 hbt0) | (go_at_call 13; refine (l_eqDescription _ _ l l _ ⟨_, rfl, OI6.out.rd.below hbt⟩ ⟨_, rfl, HO7.out⟩).mono ?_; rw [decide_eq_true rfl]; rintro e w8 ⟨rfl, hbe0⟩; have hbe := Below.then_ hbt hbe0 (Nat.le_refl _); clear hbe0))
    have OG8 := Lib.hid (OG6.out.below hbe)
    have OW8 := Lib.hid (OW6.out.below hbe)
    have OI8 := Lib.hid (OI6.out.below hbe)
    have HB8 := Lib.hid (Below.then_ HB6.out hbe (Nat.le_refl _))
    have X8 := Lib.hid (X6.out.below hbe)
    have Y8 := Lib.hid (Y6.out.below hbe)
    have G8 := Lib.hid (G6.out.below hbe)
    have d8 : w8.cell? ⟨w4.heap.size, 0, none⟩ = some (.slice A4 l.length p4) := (Z6.out.below hbe).cell 0
    have md := l_markDescription (.slice A4 l.length p4) w3'.heap.size w4.heap.size l 1 HCT.out w8 OI8.out
    rw [← HZ.out] at md
    have MD := Lib.hid md
    clear hbt hbe c6 d6 md
    go_wp2_with fail
    refine MD.out.mono ?_
    rintro e w9 ⟨rfl, _, hwi⟩
    have OG9 := Lib.hid (OG8.out.within UG.out hwi (.inl (by have := E4.out; omega)))
    have OW9 := Lib.hid (OW8.out.within UW.out hwi (.inr (by have := E3.out; omega)))
    have HB9 := Lib.hid (Within.below HB8.out hwi HB3.out.size HB8.out.size)
    have X9 := Lib.hid (X8.out.within hwi (.inl X3.out.lt))
    have Y9 := Lib.hid (Y8.out.within hwi (.inl Y3.out.lt))
    have G9 := Lib.hid (G8.out.within hwi (.inr (by have h1 := E4.out; have h2 := S5.out; omega)))
    have x0 : w9.cell? ⟨w5.heap.size, 0, none⟩ = some (.string r.name) := G9.out.cell 0
    have x1 : w9.cell? ⟨w5.heap.size, 1, none⟩ = some (.int .i64 r.kind) := G9.out.cell 1
    have x2 : w9.cell? ⟨w5.heap.size, 2, none⟩ = some (.int .i64 r.size) := G9.out.cell 2
    have x3 : w9.cell? ⟨w5.heap.size, 3, none⟩ = some (.bool r.little) := G9.out.cell 3
    have x4 : w9.cell? ⟨w5.heap.size, 4, none⟩ = some (.slice Abg r.bytes.length cbg) := G9.out.cell 4
    have x5 : w9.cell? ⟨w5.heap.size, 5, none⟩ = some (.slice Ang r.names.length cng) := G9.out.cell 5
    have x6 : w9.cell? ⟨w5.heap.size, 6, none⟩ = some (.slice Atg r.tags.length ctg) := G9.out.cell 6
    have x7 : w9.cell? ⟨w5.heap.size, 7, none⟩ = some (.slice Akg r.kids.length ckg) := G9.out.cell 7
    have y0 : w9.cell? ⟨w3.heap.size, 0, none⟩ = some (.string r.name) := Y9.out.cell 0
    have y1 : w9.cell? ⟨w3.heap.size, 1, none⟩ = some (.int .i64 r.kind) := Y9.out.cell 1
    have y2 : w9.cell? ⟨w3.heap.size, 2, none⟩ = some (.int .i64 r.size) := Y9.out.cell 2
    have y3 : w9.cell? ⟨w3.heap.size, 3, none⟩ = some (.bool r.little) := Y9.out.cell 3
    have y4 : w9.cell? ⟨w3.heap.size, 4, none⟩ = some (.slice Abw r.bytes.length cbw) := Y9.out.cell 4
    have y5 : w9.cell? ⟨w3.heap.size, 5, none⟩ = some (.slice Anw r.names.length cnw) := Y9.out.cell 5
    have y6 : w9.cell? ⟨w3.heap.size, 6, none⟩ = some (.slice Atw r.tags.length ctw) := Y9.out.cell 6
    have y7 : w9.cell? ⟨w3.heap.size, 7, none⟩ = some (.slice Akw r.kids.length ckw) := Y9.out.cell 7
    clear hwi d8
    go_wp2_with fail
    refine (EQR.out (.slice Abg r.bytes.length cbg) (.slice Ang r.names.length cng) (.slice Atg r.tags.length ctg) (.slice Akg r.kids.length ckg) (.slice Abw r.bytes.length cbw) (.slice Anw r.names.length cnw) (.slice Atw r.tags.length ctw) (.slice Akw r.kids.length ckw) _ OG9.out.rule OW9.out.rule).mono ?_
    rintro e w10 ⟨rfl, hb10⟩
    have ms := l_markRule r (.slice Abg r.bytes.length cbg) (.slice Ang r.names.length cng) (.slice Atg r.tags.length ctg) (.slice Akg r.kids.length ckg) w4'.heap.size w5.heap.size 1 HPM.out w10 (OG9.out.below hb10) UG.out
    have hh := fun w h => l_heldRule r (.slice Abg r.bytes.length cbg) (.slice Ang r.names.length cng) (.slice Atg r.tags.length ctg) (.slice Akg r.kids.length ckg) w4'.heap.size 1 HPM.out w h
    rw [← HY.out] at ms hh
    unfold rCells at ms hh
    have MS := Lib.hid ms
    have HH := Lib.hid hh
    have OW10 := Lib.hid (OW9.out.below hb10)
    have HB10 := Lib.hid (Below.then_ HB9.out hb10 (Nat.le_refl _))
    have X10 := Lib.hid (X9.out.below hb10)
    have Y10 := Lib.hid (Y9.out.below hb10)
    have G10 := Lib.hid (G9.out.below hb10)
    clear hb10 ms hh x0 x1 x2 x3 x4 x5 x6 x7 y0 y1 y2 y3 y4 y5 y6 y7
    have x0 : w10.cell? ⟨w5.heap.size, 0, none⟩ = some (.string r.name) := G10.out.cell 0
    have x1 : w10.cell? ⟨w5.heap.size, 1, none⟩ = some (.int .i64 r.kind) := G10.out.cell 1
    have x2 : w10.cell? ⟨w5.heap.size, 2, none⟩ = some (.int .i64 r.size) := G10.out.cell 2
    have x3 : w10.cell? ⟨w5.heap.size, 3, none⟩ = some (.bool r.little) := G10.out.cell 3
    have x4 : w10.cell? ⟨w5.heap.size, 4, none⟩ = some (.slice Abg r.bytes.length cbg) := G10.out.cell 4
    have x5 : w10.cell? ⟨w5.heap.size, 5, none⟩ = some (.slice Ang r.names.length cng) := G10.out.cell 5
    have x6 : w10.cell? ⟨w5.heap.size, 6, none⟩ = some (.slice Atg r.tags.length ctg) := G10.out.cell 6
    have x7 : w10.cell? ⟨w5.heap.size, 7, none⟩ = some (.slice Akg r.kids.length ckg) := G10.out.cell 7
    go_wp2_with fail
    refine MS.out.mono ?_
    rintro e w11 ⟨rfl, hm11, hwi⟩
    have M11 := Lib.hid hm11
    have OW11 := Lib.hid (OW10.out.within UW.out hwi (.inr (by have h1 := E3.out; have h2 := S4.out; have h3 := E4.out; omega)))
    have HB11 := Lib.hid (Within.below HB10.out hwi HB4.out.size HB10.out.size)
    have X11 := Lib.hid (X10.out.within hwi (.inl X4.out.lt))
    have Y11 := Lib.hid (Y10.out.within hwi (.inl Y4.out.lt))
    have G11 := Lib.hid (G10.out.within hwi (.inr (Nat.le_refl _)))
    clear hm11 hwi x0 x1 x2 x3 x4 x5 x6 x7
    have x0 : w11.cell? ⟨w5.heap.size, 0, none⟩ = some (.string r.name) := G11.out.cell 0
    have x1 : w11.cell? ⟨w5.heap.size, 1, none⟩ = some (.int .i64 r.kind) := G11.out.cell 1
    have x2 : w11.cell? ⟨w5.heap.size, 2, none⟩ = some (.int .i64 r.size) := G11.out.cell 2
    have x3 : w11.cell? ⟨w5.heap.size, 3, none⟩ = some (.bool r.little) := G11.out.cell 3
    have x4 : w11.cell? ⟨w5.heap.size, 4, none⟩ = some (.slice Abg r.bytes.length cbg) := G11.out.cell 4
    have x5 : w11.cell? ⟨w5.heap.size, 5, none⟩ = some (.slice Ang r.names.length cng) := G11.out.cell 5
    have x6 : w11.cell? ⟨w5.heap.size, 6, none⟩ = some (.slice Atg r.tags.length ctg) := G11.out.cell 6
    have x7 : w11.cell? ⟨w5.heap.size, 7, none⟩ = some (.slice Akg r.kids.length ckg) := G11.out.cell 7
    go_wp2_with fail
    refine (HH.out _ M11.out).mono ?_
    rintro e w12 ⟨rfl, hb12⟩
    have M12 := Lib.hid (M11.out.below hb12)
    have OW12 := Lib.hid (OW11.out.below hb12)
    have HB12 := Lib.hid (Below.then_ HB11.out hb12 (Nat.le_refl _))
    have Y12 := Lib.hid (Y11.out.below hb12)
    have G12 := Lib.hid (G11.out.below hb12)
    have c12 : w12.cell? ⟨w.heap.size, 0, none⟩ = some (.slice A l.length p) := (X11.out.below hb12).cell 0
    clear hb12 x0 x1 x2 x3 x4 x5 x6 x7
    go_wp2_with fail
    refine (TO.out _ ⟨_, rfl, HV.out.below HB12.out⟩).mono ?_
    rintro e w13 ⟨v13, rfl, ho13, hb13⟩
    have HO13 := Lib.hid ho13.rd
    have M13 := Lib.hid (M12.out.below hb13)
    have OW13 := Lib.hid (OW12.out.below hb13)
    have HB13 := Lib.hid (Below.then_ HB12.out hb13 (Nat.le_refl _))
    have Y13 := Lib.hid (Y12.out.below hb13)
    have G13 := Lib.hid (G12.out.below hb13)
    clear ho13 hb13 c12
    go_wp2_with fail
    refine (IN.out (.agg #[v13]) _ (HT.out.below HB13.out) ⟨_, rfl, HO13.out⟩).mono ?_
    rintro e w14 ⟨ub, un, ut, uk, rfl, hoh, hb14⟩
    rw [← HR.out] at hoh ⊢
    rw [← HOB.out]
    obtain ⟨Abh, cbh, Anh, cnh, Ath, cth, Akh, ckh, rfl, rfl, rfl, rfl⟩ := hoh.slices
    unfold rCells
    obtain ⟨w14', hw14⟩ : ∃ w14', w14' = w14.alloc (.cells #[.string r.name, .int .i64 r.kind, .int .i64 r.size, .bool r.little, .slice Abh r.bytes.length cbh, .slice Anh r.names.length cnh, .slice Ath r.tags.length cth, .slice Akh r.kids.length ckh] 30) := ⟨_, rfl⟩
    have b14 : Below w14.heap.size w14 w14' := by rw [hw14]; exact (Below.refl _ _).alloc (Nat.le_refl _) _
    have OH14 := Lib.hid (hoh.below b14)
    have M14 := Lib.hid ((M13.out.below hb14).below b14)
    have OW14 := Lib.hid ((OW13.out.below hb14).below b14)
    have HB14 := Lib.hid (Below.then_ (Below.then_ HB13.out hb14 (Nat.le_refl _)) b14 (Nat.le_refl _))
    have Y14 := Lib.hid ((Y13.out.below hb14).below b14)
    have G14 := Lib.hid ((G13.out.below hb14).below b14)
    have Y14r := Y14.out
    rw [hw14] at Y14r
    have y0 : (w14.alloc (.cells #[.string r.name, .int .i64 r.kind, .int .i64 r.size, .bool r.little, .slice Abh r.bytes.length cbh, .slice Anh r.names.length cnh, .slice Ath r.tags.length cth, .slice Akh r.kids.length ckh] 30)).cell? ⟨w3.heap.size, 0, none⟩ = some (.string r.name) := Y14r.cell 0
    have y1 : (w14.alloc (.cells #[.string r.name, .int .i64 r.kind, .int .i64 r.size, .bool r.little, .slice Abh r.bytes.length cbh, .slice Anh r.names.length cnh, .slice Ath r.tags.length cth, .slice Akh r.kids.length ckh] 30)).cell? ⟨w3.heap.size, 1, none⟩ = some (.int .i64 r.kind) := Y14r.cell 1
    have y2 : (w14.alloc (.cells #[.string r.name, .int .i64 r.kind, .int .i64 r.size, .bool r.little, .slice Abh r.bytes.length cbh, .slice Anh r.names.length cnh, .slice Ath r.tags.length cth, .slice Akh r.kids.length ckh] 30)).cell? ⟨w3.heap.size, 2, none⟩ = some (.int .i64 r.size) := Y14r.cell 2
    have y3 : (w14.alloc (.cells #[.string r.name, .int .i64 r.kind, .int .i64 r.size, .bool r.little, .slice Abh r.bytes.length cbh, .slice Anh r.names.length cnh, .slice Ath r.tags.length cth, .slice Akh r.kids.length ckh] 30)).cell? ⟨w3.heap.size, 3, none⟩ = some (.bool r.little) := Y14r.cell 3
    have y4 : (w14.alloc (.cells #[.string r.name, .int .i64 r.kind, .int .i64 r.size, .bool r.little, .slice Abh r.bytes.length cbh, .slice Anh r.names.length cnh, .slice Ath r.tags.length cth, .slice Akh r.kids.length ckh] 30)).cell? ⟨w3.heap.size, 4, none⟩ = some (.slice Abw r.bytes.length cbw) := Y14r.cell 4
    have y5 : (w14.alloc (.cells #[.string r.name, .int .i64 r.kind, .int .i64 r.size, .bool r.little, .slice Abh r.bytes.length cbh, .slice Anh r.names.length cnh, .slice Ath r.tags.length cth, .slice Akh r.kids.length ckh] 30)).cell? ⟨w3.heap.size, 5, none⟩ = some (.slice Anw r.names.length cnw) := Y14r.cell 5
    have y6 : (w14.alloc (.cells #[.string r.name, .int .i64 r.kind, .int .i64 r.size, .bool r.little, .slice Abh r.bytes.length cbh, .slice Anh r.names.length cnh, .slice Ath r.tags.length cth, .slice Akh r.kids.length ckh] 30)).cell? ⟨w3.heap.size, 6, none⟩ = some (.slice Atw r.tags.length ctw) := Y14r.cell 6
    have y7 : (w14.alloc (.cells #[.string r.name, .int .i64 r.kind, .int .i64 r.size, .bool r.little, .slice Abh r.bytes.length cbh, .slice Anh r.names.length cnh, .slice Ath r.tags.length cth, .slice Akh r.kids.length ckh] 30)).cell? ⟨w3.heap.size, 7, none⟩ = some (.slice Akw r.kids.length ckw) := Y14r.cell 7
    have HW14 := Lib.hid hw14
    clear hoh hb14 b14 hw14 Y14r
    go_wp2_with fail
    rw [← HW14.out]
    refine (EQR.out (.slice Abh r.bytes.length cbh) (.slice Anh r.names.length cnh) (.slice Ath r.tags.length cth) (.slice Akh r.kids.length ckh) (.slice Abw r.bytes.length cbw) (.slice Anw r.names.length cnw) (.slice Atw r.tags.length ctw) (.slice Akw r.kids.length ckw) _ OH14.out.rule OW14.out.rule).mono ?_
    rintro e w15 ⟨rfl, hb15⟩
    have M15 := Lib.hid (M14.out.below hb15)
    have HB15 := Lib.hid (Below.then_ HB14.out hb15 (Nat.le_refl _))
    have G15 := Lib.hid (G14.out.below hb15)
    clear hb15 y0 y1 y2 y3 y4 y5 y6 y7
    have x0 : w15.cell? ⟨w5.heap.size, 0, none⟩ = some (.string r.name) := G15.out.cell 0
    have x1 : w15.cell? ⟨w5.heap.size, 1, none⟩ = some (.int .i64 r.kind) := G15.out.cell 1
    have x2 : w15.cell? ⟨w5.heap.size, 2, none⟩ = some (.int .i64 r.size) := G15.out.cell 2
    have x3 : w15.cell? ⟨w5.heap.size, 3, none⟩ = some (.bool r.little) := G15.out.cell 3
    have x4 : w15.cell? ⟨w5.heap.size, 4, none⟩ = some (.slice Abg r.bytes.length cbg) := G15.out.cell 4
    have x5 : w15.cell? ⟨w5.heap.size, 5, none⟩ = some (.slice Ang r.names.length cng) := G15.out.cell 5
    have x6 : w15.cell? ⟨w5.heap.size, 6, none⟩ = some (.slice Atg r.tags.length ctg) := G15.out.cell 6
    have x7 : w15.cell? ⟨w5.heap.size, 7, none⟩ = some (.slice Akg r.kids.length ckg) := G15.out.cell 7
    go_wp2_with fail
    refine (HH.out _ M15.out).mono ?_
    rintro e w16 ⟨rfl, hb16⟩
    have HB16 := Lib.hid (Below.then_ HB15.out hb16 (Nat.le_refl _))
    clear hb16 x0 x1 x2 x3 x4 x5 x6 x7
    go_wp2_with fail
    go_ret
    exact ⟨rfl, HB16.out⟩
  · have hq0 : q < 0 := by rw [hq, szN_neg hsz]; omega
    clear sz hv B0 hq hsz hfit
    go_enter Tryz.func3, Tryz.ntmps3
    go_wp2_with fail
    refine (SZ.out _ ⟨_, rfl, HV.out.below below_box⟩).mono ?_
    rintro e w1 ⟨rfl, hb1⟩
    have HB1 := Lib.hid (Below.then_ below_box hb1 (Nat.le_refl _))
    clear hb1
    go_wp2_with fail
    go_ret
    exact ⟨rfl, HB1.out⟩

end Go.Proofs.YtkjjgpkegihmhaaGreatDoor
