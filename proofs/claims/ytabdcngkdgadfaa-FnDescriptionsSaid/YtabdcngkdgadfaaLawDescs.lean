/-
  The law FnDescriptions: every beginning of a valid description is valid, and a rule never refers to itself or to later rules.
-/
import Derived.Test.YtabdcngkdgadfaaL4Desc
import Derived.Test.YtabdcngkdgadfaaLawsPlain
import Derived.Test.YtabdcngkdgadfaaSpoil
import Derived.Test.YtabdcngkdgadfaaEqualRules
import Derived.Test.YtabdcngkdgadfaaGB
import Derived.Test.YtabdcngkdgadfaaBig
import Derived.Test.YtabdcngkdgadfaaGA
import Derived.BigGuard
import Derived.Deep.RegionLaw
import Derived.Deep.DeepCutAuto
namespace Go.Proofs.Ytabdcngkdgadfaa
open Go.RowKit
set_option linter.unusedVariables false

set_option maxRecDepth 100000 in
set_option maxHeartbeats 8000000 in
theorem law_FnDescriptions (v : Value) (bs : List UInt8) (w : World) (hr : Rd w v 1 bs.length (cB bs)) :
    Calls Try.prog 3 #[v] w fun e w' => e = .returned (.bool true) ∧ Below w.heap.size w w' := by
  by_cases hbig : (1048576 : Int) < (bs.length : Int)
  · have hd : decide ((1048576 : Int) < (bs.length : Int)) = true := by simpa using hbig
    go_enter Try.func3, Try.ntmps3
    go_wp2_with fail
    refine (l_big v bs _ hr).mono ?_
    rintro e w1 ⟨rfl, rfl⟩
    go_wp2_with fail
    go_ret
    exact ⟨rfl, Below.refl _ _⟩
  · have hd : decide ((1048576 : Int) < (bs.length : Int)) = false := by simpa using hbig
    go_enter Try.func3, Try.ntmps3
    go_wp2_with fail
    refine (l_big v bs _ hr).mono ?_
    rintro e w1 ⟨rfl, rfl⟩
    go_wp2_with fail
    refine (s_DrawDescription v bs (by omega) _ hr).mono ?_
    rintro e w1 ⟨A, c, l, rfl, ho, hdr, h1, h6, hb1⟩
    clear hbig hd
    have hval := hdr.valid h1 h6
    have hg := hdr.good
    obtain ⟨hnc, hcm, hcell⟩ : l.length ≤ c ∧ c ≤ maxLen ∧ AllCells w1 A l := by
      obtain ⟨A', c', e, q1, q2, q3⟩ := ho.rd.all
      injection e with e1 _ e3
      subst e1; subst e3
      exact ⟨q1, q2, q3⟩
    unfold maxLen at hcm
    obtain ⟨b, off, hA, hcs⟩ := hcell (by omega)
    subst hA
    have iv := fun w h => show Calls Try.prog 7 #[.agg #[.slice (some ⟨b, off, none⟩) l.length c]] w fun e w' => e = .returned (.bool true) ∧ Below w.heap.size w w' from by
      have := i_IsValidDescription (.agg #[.slice (some ⟨b, off, none⟩) l.length c]) l (good_fits (by omega) hg) (good_small (by omega) hg) w h
      rwa [hval] at this
    have ro := fun w h => i_RootOf (.agg #[.slice (some ⟨b, off, none⟩) l.length c]) l w h
    have ive := fun (q : Nat) (hq : q < l.length) w (h : RdDesc w (.agg #[.slice (some ⟨b, off, none⟩) (q + 1) c]) (l.take (q + 1))) => show Calls Try.prog 7 #[.agg #[.slice (some ⟨b, off, none⟩) (q + 1) c]] w fun e w' => e = .returned (.bool true) ∧ Below w.heap.size w w' from by
      have hgt := rulesGood_take hg (show q + 1 ≤ l.length by omega)
      have hlt : (l.take (q + 1)).length = q + 1 := by rw [List.length_take]; omega
      have := i_IsValidDescription (.agg #[.slice (some ⟨b, off, none⟩) (q + 1) c]) (l.take (q + 1)) (good_fits (by omega) hgt) (good_small (by omega) hgt) w h
      rwa [validD_of hgt (by omega) (by omega)] at this
    have ir := fun (q : Nat) (hq : q < l.length) w h => show Calls Try.prog 9 #[.agg #[.slice (some ⟨b, off, none⟩) l.length c], .int .i64 (q : Int)] w fun e w' => e = .returned (.bool true) ∧ Below w.heap.size w w' from by
      have := i_IsValidRule (.agg #[.slice (some ⟨b, off, none⟩) l.length c]) l (q : Int) (by omega) (good_fits (by omega) hg) (good_small (by omega) hg) w h
      rwa [rulesGood_at hg hq] at this
    have fr := fun (q : Nat) (hq : q < l.length) w (h : RdDesc w (.agg #[.slice (some ⟨b, off, none⟩) l.length c]) l) => show Calls Try.prog 10 #[.agg #[.slice (some ⟨b, off, none⟩) l.length c], .string (ruleAt l (q : Int)).name] w fun e w' => e = .returned (.int .i64 (q : Int)) ∧ Below w.heap.size w w' from by
      have := i_FindRule (.agg #[.slice (some ⟨b, off, none⟩) l.length c]) l (ruleAt l (q : Int)).name w h
      rwa [name_found hg hq] at this
    have cp := fun w h => i_CopyDescription (.agg #[.slice (some ⟨b, off, none⟩) l.length c]) l (by omega) (good_small (by omega) hg) w h
    have irb := fun (q : Nat) (hq : q < l.length) (u : Value) w (h : RdRules w u (spoil l q)) => show Calls Try.prog 9 #[.agg #[u], .int .i64 (q : Int)] w fun e w' => e = .returned (.bool false) ∧ Below w.heap.size w w' from by
      have hf := spoil_fits hg (by omega) hq
      have := i_IsValidRule (.agg #[u]) (spoil l q) (q : Int) (by omega) hf.1 hf.2 w ⟨_, rfl, h⟩
      rwa [spoil_bad hq] at this
    have eqb := fun (q : Nat) (hq : q < l.length) (u : Value) w (h : RdRules w u (spoil l q)) h2 => show Calls Try.prog 12 #[.agg #[u], .agg #[.slice (some ⟨b, off, none⟩) l.length c]] w fun e w' => e = .returned (.bool false) ∧ Below w.heap.size w w' from by
      have := i_EqualDescriptions (.agg #[u]) (.agg #[.slice (some ⟨b, off, none⟩) l.length c]) (spoil l q) l w ⟨_, rfl, h⟩ h2
      rwa [decide_eq_false (spoil_ne hq)] at this
    have eqc := fun (u : Value) w (h : RdRules w u l) h2 => show Calls Try.prog 12 #[.agg #[u], .agg #[.slice (some ⟨b, off, none⟩) l.length c]] w fun e w' => e = .returned (.bool true) ∧ Below w.heap.size w w' from by
      have := i_EqualDescriptions (.agg #[u]) (.agg #[.slice (some ⟨b, off, none⟩) l.length c]) l l w ⟨_, rfl, h⟩ h2
      rwa [decide_eq_true rfl] at this
    have il := fun w h => i_IntegerLimit (.agg #[.slice (some ⟨b, off, none⟩) l.length c]) l 0 (by omega) w h
    have hlim := hdr.limit0 h1
    obtain ⟨L, hL⟩ : ∃ L, L = limitL l 0 := ⟨_, rfl⟩
    rw [← hL] at il hlim
    have dlim : decide ((255 : Int) ≤ L) = true := by simpa using hlim
    have hcopy := fun (w : World) (lo : Nat) (u : Value) (h : OwnRules w lo u l) => h.at_ (by omega)
    have hsm := good_small (by omega) hg
    have hk9 := fun (q : Nat) (hq : q < l.length) => kids_nine (rulesGood_at hg hq)
    obtain ⟨n, hn⟩ : ∃ n, n = l.length := ⟨_, rfl⟩
    have HN := Lib.hid hn
    have hro := ho.rd
    rw [← hn] at iv ro ive ir fr cp irb eqb eqc il h6 h1 hnc hro hcopy hk9
    have HK9 := Lib.hid hk9
    have IV := Lib.hid iv
    have RO := Lib.hid ro
    have IVE := Lib.hid ive
    have IR := Lib.hid ir
    have FR := Lib.hid fr
    have CP := Lib.hid cp
    have IRB := Lib.hid irb
    have EQB := Lib.hid eqb
    have EQC := Lib.hid eqc
    have IL := Lib.hid il
    have HCOPY := Lib.hid hcopy
    have HSM := Lib.hid hsm
    have HC := Lib.hid hcs
    have RD := Lib.hid (show ∀ W, Below w1.heap.size w1 W → RdDesc W (.agg #[.slice (some ⟨b, off, none⟩) n c]) l from fun W hb => ⟨_, rfl, hro.below hb⟩)
    have RDT := Lib.hid (show ∀ (q : Nat) W, q < n → Below w1.heap.size w1 W → RdDesc W (.agg #[.slice (some ⟨b, off, none⟩) (q + 1) c]) (l.take (q + 1)) from fun q W hq hb => ⟨_, rfl, (hro.below hb).take (by omega)⟩)
    have HB1 := Lib.hid hb1
    obtain ⟨w2, hw2⟩ : ∃ w2, w2 = w1.alloc (.cells #[.slice (some ⟨b, off, none⟩) n c] 26) := ⟨_, rfl⟩
    have X2 := Lib.hid (show Box w2 w1.heap.size 26 #[.slice (some ⟨b, off, none⟩) n c] by rw [hw2]; exact Box.new w1 _ _)
    have B2 := Lib.hid (show Below w1.heap.size w1 w2 by rw [hw2]; exact below_box)
    have W2 := Lib.hid hw2
    obtain ⟨i0, hif, hz0, hz1, hz2⟩ := info_parts info_Int
    rw [← hn]
    clear ho hdr hval hg hcell iv ro ive ir fr cp irb eqb eqc il hcopy hsm hcs hn hro hb1 hw2 hL hlim hk9
    go_wp2_with fail
    rw [← W2.out]
    have x2 := X2.out.cell 0
    have la := later_cell x2
    have L1 := Lib.hid (fun x : Later w2 => Calls.later (IV.out x.world (RD.out _ (Below.then_ B2.out x.below (Nat.le_refl _)))))
    have L2 := Lib.hid (fun x : Later w2 => Calls.later (RO.out x.world (RD.out _ (Below.then_ B2.out x.below (Nat.le_refl _)))))
    refine wp_region_later (by kernel_rfl) (by kernel_rfl) ?_
    repeat (go_big_quiet_step (first | (go_at_call 7; with_reducible exact L1.out _) | (go_at_call 8; with_reducible exact L2.out _)))
    refine wpQuiet_nil ?_
    intro w5 hb5
    have B5 := Lib.hid (Below.then_ B2.out hb5 (Nat.le_refl _))
    have X5 := Lib.hid (X2.out.below hb5)
    clear hb5 x2 la L1 L2
    go_wp2_with fail
    go_loopw [4] (fun i wr => ∃ q : Nat, q ≤ n ∧ i = .int .i64 q ∧ Below w5.heap.size w5 wr) (fun i _ => n - (intOf i).toNat)
    case atStart => exact ⟨0, Nat.zero_le _, rfl, Below.refl _ _⟩
    case round =>
      obtain ⟨q, hq, rfl, hbr⟩ := hrel
      have HBR := Lib.hid (Below.then_ B5.out hbr (Nat.le_refl _))
      have HBQ := Lib.hid hbr
      have XR := Lib.hid (X5.out.below hbr)
      have xr := XR.out.cell 0
      clear hbr
      by_cases hlt : q < n
      · have hqn : (q : Int) < (n : Int) := by omega
        have hq0 : (0 : Int) ≤ (q : Int) := by omega
        have hqc : (q : Int) + 1 ≤ (c : Int) := by omega
        have hqc2 : q + 1 ≤ c := by omega
        have hq64 : (q : Int) ≤ 6 := by omega
        go_wp2_with fail
        obtain ⟨w6, hw6⟩ : ∃ w6, w6 = wr.alloc (.cells #[.slice (some ⟨b, off, none⟩) (q + 1) c] 26) := ⟨_, rfl⟩
        have E6 := Lib.hid (show Box w6 wr.heap.size 26 #[.slice (some ⟨b, off, none⟩) (q + 1) c] by rw [hw6]; exact Box.new wr _ _)
        have hb6 : Below wr.heap.size wr w6 := by rw [hw6]; exact below_box
        have B6 := Lib.hid (Below.then_ HBR.out hb6 (Nat.le_refl _))
        have BQ6 := Lib.hid (Below.then_ HBQ.out hb6 (Nat.le_refl _))
        have X6 := Lib.hid (XR.out.below hb6)
        have hql : q < l.length := by rw [← HN.out]; exact hlt
        obtain ⟨vb, vn, vt, vk, hrc⟩ := HC.out q hql
        have W6 := Lib.hid hw6
        have d0 := (hrc.below B6.out).c0
        have la := later_cell (X6.out.cell 0)
        have lb := later_cell (E6.out.cell 0)
        rw [← ruleAt_eq hql] at d0
        obtain ⟨nm, hnm⟩ : ∃ nm, nm = (ruleAt l (q : Int)).name := ⟨_, rfl⟩
        have fr := FR.out q hlt
        rw [← hnm] at d0 fr
        have lc := later_cell d0
        have L1 := Lib.hid (fun x : Later w6 => Calls.later (IVE.out q hlt x.world (RDT.out q _ hlt (Below.then_ B6.out x.below (Nat.le_refl _)))))
        have L2 := Lib.hid (fun x : Later w6 => Calls.later (IR.out q hlt x.world (RD.out _ (Below.then_ B6.out x.below (Nat.le_refl _)))))
        have L3 := Lib.hid (fun x : Later w6 => Calls.later (fr x.world (RD.out _ (Below.then_ B6.out x.below (Nat.le_refl _)))))
        clear hb6 hw6 hrc d0 hnm fr xr
        go_wp2_with fail
        rw [← W6.out]
        refine wp_region_later (by kernel_rfl) (by kernel_rfl) ?_
        repeat (go_big_quiet_step (first | (go_at_call 7; with_reducible exact L1.out _) | (go_at_call 9; with_reducible exact L2.out _) | (go_at_call 10; with_reducible exact L3.out _)))
        refine wpQuiet_nil ?_
        intro w7 hb7
        have B7 := Lib.hid (Below.then_ B6.out hb7 (Nat.le_refl _))
        have BQ7 := Lib.hid (Below.then_ BQ6.out hb7 (Nat.le_refl _))
        have X7 := Lib.hid (X6.out.below hb7)
        have x7 := X7.out.cell 0
        clear hb7 la lb lc L1 L2 L3
        go_wp2_with fail
        refine (CP.out _ (RD.out _ B7.out)).mono ?_
        rintro e w8 ⟨vB, rfl, hoB, hb8⟩
        obtain ⟨g, cap, css, rfl, hncap, hcap, hra⟩ := HCOPY.out _ _ _ hoB
        unfold maxLen at hcap
        obtain ⟨w9, hw9⟩ : ∃ w9, w9 = w8.alloc (.cells #[.slice (some ⟨g, 0, none⟩) n cap] 26) := ⟨_, rfl⟩
        have hb89 : Below w8.heap.size w8 w9 := by rw [hw9]; exact below_box
        have Y9 := Lib.hid (show Box w9 w8.heap.size 26 #[.slice (some ⟨g, 0, none⟩) n cap] by rw [hw9]; exact Box.new w8 _ _)
        have B9 := Lib.hid (Below.then_ (Below.then_ B7.out hb8 (Nat.le_refl _)) hb89 (Nat.le_refl _))
        have BQ9 := Lib.hid (Below.then_ (Below.then_ BQ7.out hb8 (Nat.le_refl _)) hb89 (Nat.le_refl _))
        have BZ9 := Lib.hid (Below.then_ hb8 hb89 (Nat.le_refl _))
        have X9 := Lib.hid ((X7.out.below hb8).below hb89)
        have RA9 := Lib.hid ((hra.below hb89).below (Below.refl w9.heap.size w9).drew)
        have W9 := Lib.hid hw9
        have x9 : w9.cell? ⟨w1.heap.size, 0, none⟩ = some (.slice (some ⟨b, off, none⟩) n c) := X9.out.cell 0
        have y9 : w9.cell? ⟨w8.heap.size, 0, none⟩ = some (.slice (some ⟨g, 0, none⟩) n cap) := Y9.out.cell 0
        have x8 : (w8.alloc (.cells #[.slice (some ⟨g, 0, none⟩) n cap] 26)).cell? ⟨w1.heap.size, 0, none⟩ = some (.slice (some ⟨b, off, none⟩) n c) := by rw [← hw9]; exact x9
        have y8 : (w8.alloc (.cells #[.slice (some ⟨g, 0, none⟩) n cap] 26)).cell? ⟨w8.heap.size, 0, none⟩ = some (.slice (some ⟨g, 0, none⟩) n cap) := by rw [← hw9]; exact y9
        clear hoB hb8 hra hb89 hw9 x7
        go_wp2_with fail
        rw [← W9.out]
        clear x8 y8
        obtain ⟨r, hr0⟩ : ∃ r, r = ruleAt l (q : Int) := ⟨_, rfl⟩
        have hrq : l[q]? = some r := by rw [hr0, ruleAt_eq hql]; exact List.getElem?_eq_getElem hql
        obtain ⟨ub, un, ut, uk, hcq, _, _, _, k4⟩ := RA9.out.slots hrq
        have hk9 : r.kids.length ≤ 9 := by rw [hr0]; exact HK9.out q hlt
        obtain ⟨Ak, ck, rfl⟩ : ∃ A c, uk = .slice A r.kids.length c := by
          obtain ⟨_, A, c, h, _⟩ := Rd.of_own k4
          exact ⟨A, c, h⟩
        have HRQ := Lib.hid hrq
        have HCQ := Lib.hid hcq
        have HSP := Lib.hid (show spoil l q = l.set q { r with kids := r.kids ++ [(q : Int)] } by rw [hr0]; rfl)
        have ba : Below w9.heap.size w9 (w9.drew.alloc (.cells #[.int .i64 (q : Int)] 3)) := ((Below.refl w9.heap.size w9).drew).alloc (Nat.le_refl _) _
        have HOA := Lib.hid (own_below k4 (show Below w9.drew.heap.size w9.drew (w9.drew.alloc (.cells #[.int .i64 (q : Int)] 3)) from (Below.refl _ _).alloc (Nat.le_refl _) _))
        have YA := Lib.hid (Y9.out.below ba)
        have BZA := Lib.hid (Below.then_ BZ9.out ba (Nat.le_refl _))
        have k7 : w9.cell? ⟨g, q * 8 + 7, none⟩ = some (.slice Ak r.kids.length ck) := (RA9.out.cell hcq 7 (by decide)).1
        have k7a : (w9.drew.alloc (.cells #[.int .i64 (q : Int)] 3)).cell? ⟨g, q * 8 + 7, none⟩ = some (.slice Ak r.kids.length ck) := cell_after k7 ba
        have y9a : (w9.drew.alloc (.cells #[.int .i64 (q : Int)] 3)).cell? ⟨w8.heap.size, 0, none⟩ = some (.slice (some ⟨g, 0, none⟩) n cap) := cell_after y9 ba
        have k7b : (w9.alloc (.cells #[.int .i64 (q : Int)] 3)).cell? ⟨g, q * 8 + 7, none⟩ = some (.slice Ak r.kids.length ck) := cell_after k7 ((Below.refl _ _).alloc (Nat.le_refl _) _)
        have y9b : (w9.alloc (.cells #[.int .i64 (q : Int)] 3)).cell? ⟨w8.heap.size, 0, none⟩ = some (.slice (some ⟨g, 0, none⟩) n cap) := cell_after y9 ((Below.refl _ _).alloc (Nat.le_refl _) _)
        have hlo : w7.heap.size ≤ (w9.drew.alloc (.cells #[.int .i64 (q : Int)] 3)).heap.size := BZA.out.size
        have HLO := Lib.hid hlo
        have hglo := RA9.out.glo
        have hghi := RA9.out.ghi
        clear hr0 hrq hcq k4 ba x9 hlo
        go_cut [77] (fun _ wx => RdRules wx (.slice (some ⟨g, 0, none⟩) n cap) (spoil l q) ∧ Box wx w8.heap.size 26 #[.slice (some ⟨g, 0, none⟩) n cap] ∧ Below w7.heap.size w7 wx)
        case first =>
          go_region_law
            (first
              | (refine step_append_rd _ (by rfl) (.tmp 74) (.tmp 76) 33 (by rfl) w7.heap.size 3 i0 (.int .i64 0) 1 8 Try.underlying33 hif hz0 hz1 hz2 (by rfl) (by decide) (.slice Ak r.kids.length ck) r.kids.length (cI r.kids) (by rfl) HOA.out _ 1 (cI [(q : Int)]) (by rfl) (Rd.lit _ (cI [(q : Int)]) 3 1 rfl (by unfold maxLen; omega)) (cI_one _) (by unfold maxLen; omega) (by omega) HLO.out ?_; intro v8 w12 ho8 hg8 hp8; obtain ⟨A8, c8, rfl⟩ : ∃ A c, v8 = .slice A (r.kids.length + 1) c := (by obtain ⟨_, A, c, h, _⟩ := Rd.of_own ho8; exact ⟨A, c, h⟩); have Y12 := Lib.hid (Box.grown_own YA.out HOA.out (by decide) hg8); have y12 := Y12.out.cell 0; have kc := RA9.out.kidCell HCQ.out HRQ.out hg8; have k12 := kc.1; have f12 := kc.2; have RS := Lib.hid (RA9.out.kid HCQ.out HRQ.out ho8 hg8); have B12 := Lib.hid (own_grown_below BZA.out HOA.out hg8 HLO.out (Nat.le_refl _)); clear ho8 hg8 hp8 kc)
              | fail)
          all_goals
            go_wp2_with fail
            go_meet
            exact ⟨by rw [HSP.out]; exact RS.out, Y12.out.setOther ⟨g, q * 8 + 7, none⟩ (by show w8.heap.size ≠ g; omega) _, below_set B12.out hglo _⟩
        case rest =>
          obtain ⟨hrs, hyb, hbz⟩ := hcut
          rename World => w13
          have RS := Lib.hid hrs
          have BQ13 := Lib.hid (Below.then_ BQ7.out hbz (Nat.le_refl _))
          have B13 := Lib.hid (Below.then_ B7.out hbz (Nat.le_refl _))
          have Y13 := Lib.hid hyb
          have X13 := Lib.hid (X7.out.below hbz)
          have y13 := hyb.cell 0
          have x13 := X13.out.cell 0
          clear hrs hyb hbz k7 k7a k7b y9 y9a y9b hglo hghi
          go_wp2_with fail
          refine (IRB.out q hlt _ _ RS.out).mono ?_
          rintro e w14 ⟨rfl, hb14⟩
          have RS14 := Lib.hid (RS.out.below hb14)
          have BQ14 := Lib.hid (Below.then_ BQ13.out hb14 (Nat.le_refl _))
          have B14 := Lib.hid (Below.then_ B13.out hb14 (Nat.le_refl _))
          have y14 := (Y13.out.below hb14).cell 0
          have x14 := (X13.out.below hb14).cell 0
          clear hb14 y13 x13
          go_wp2_with fail
          refine (EQB.out q hlt _ _ RS14.out (RD.out _ B14.out)).mono ?_
          rintro e w15 ⟨rfl, hb15⟩
          have BQ15 := Lib.hid (Below.then_ BQ14.out hb15 (Nat.le_refl _))
          clear hb15 y14 x14
          go_wp2_with fail
          go_roundw
          case rel => exact ⟨q + 1, by omega, by go_num, BQ15.out⟩
          case measure => simp [intOf]; omega
      · obtain rfl : q = n := by omega
        go_wp2_with fail
        go_region_with (first
          | (go_at_call 11; refine (CP.out _ (RD.out _ (Below.then_ HBR.out (Below.refl wr.heap.size wr).drew (Nat.le_refl _)))).mono ?_; rintro e wC ⟨vC, rfl, hoC, hbC0⟩; have hbC := Below.then_ ((Below.refl wr.heap.size wr).drew) hbC0 (Nat.le_refl _); have BC := Lib.hid (Below.then_ HBR.out hbC (Nat.le_refl _)); have OC := Lib.hid hoC.rd; have xC := (XR.out.below hbC).cell 0; clear hoC hbC0)
          | (go_at_call 12; refine (EQC.out _ _ OC.out (RD.out _ BC.out)).mono ?_; rintro e wE ⟨rfl, hbE⟩; have BE := Lib.hid (Below.then_ BC.out hbE (Nat.le_refl _)); have xE := ((XR.out.below hbC).below hbE).cell 0; clear hbE)
          | (go_at_call 13; refine (IL.out _ (RD.out _ BE.out)).mono ?_; rintro e wI ⟨rfl, hbI⟩; have BI := Lib.hid (Below.then_ BE.out hbI (Nat.le_refl _)); clear hbI))
        all_goals
          go_wp2_with fail
          go_ret
          exact ⟨rfl, Below.then_ HB1.out BI.out (Nat.le_refl _)⟩

end Go.Proofs.Ytabdcngkdgadfaa
