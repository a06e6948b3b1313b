/-
  Several texts in one: ParseKid, KidsI, Cut, ParseInt, PartI, PartsI, ParseHex, KindNamed, KidsBad.
-/
import Derived.Test.YtkjjgpkegihmhaaGreatDoorGB
import Derived.Test.YtkjjgpkegihmhaaGreatDoorGA
import Derived.Test.YtkjjgpkegihmhaaGreatDoorGE
import Derived.Test.YtkjjgpkegihmhaaGreatDoorProg
import Derived.Test.YtkjjgpkegihmhaaGreatDoorShelf
import Derived.WalkKit
import Derived.WalkSpells
import Derived.WalkLawsBesides
import Derived.Lib.Hide
import Derived.Deep.QuietTactic
import Derived.BigQuiet
import Derived.Test.YtkjjgpkegihmhaaGreatDoorGD
import Derived.Laws.BitsAllLaws
import Derived.IntWalk
namespace Go.Proofs.YtkjjgpkegihmhaaGreatDoor
open Go.RowKit

theorem results_two {fn : Func} {t u : Tmp} (h : fn.results = #[.tmp t, .tmp u]) (tmps : Array Value) (P : Program) (w : World) :
    (results fn tmps).run P w = .ok (.tuple #[tmps.getD t undef, tmps.getD u undef]) w := by
  simp [results, h]
theorem ret_two {a b : Int} {x y : Bool} (h : a = b) (h' : x = y) : Ending.returned (.tuple #[.int .i64 a, .bool x]) = .returned (.tuple #[.int .i64 b, .bool y]) := by rw [h, h']

set_option maxHeartbeats 2000000 in
theorem s_ParseKid (d : Value) (l : List RuleD) (s : ByteArray) (w : World) (hd : RdDesc w d l) :
    Calls Tryz.prog 108 #[d, .string s] w fun e w' => e = .returned (.tuple #[.int .i64 (max 0 (findL l s)), .bool (decide (0 ≤ findL l s))]) ∧ Below w.heap.size w w' := by
  obtain ⟨v, rfl, hv⟩ := hd
  have HV := Lib.hid hv
  obtain ⟨hf1, hf2⟩ := findL_range l s
  have FR := Lib.hid (fun d w h => s_FindRule d l s w h)
  go_enter Tryz.func108, Tryz.ntmps108
  go_wp2_with fail
  refine (FR.out _ _ ⟨_, rfl, HV.out.below below_box⟩).mono ?_
  rintro e w1 ⟨rfl, hb1⟩
  have HB1 := Lib.hid (Below.then_ below_box hb1 (Nat.le_refl _))
  clear hb1
  go_wp2_with fail
  refine (s_Max2 0 (findL l s) _).mono ?_
  rintro e w2 ⟨rfl, rfl⟩
  go_wp2_with fail
  go_ret2
  exact ⟨rfl, HB1.out⟩

set_option maxHeartbeats 2000000 in
theorem i_accept (s : ByteArray) (r : RuleD) (g : Nat) (vb vn vt vk : Value) (w : World) (hs : w.cell? ⟨g, 0, none⟩ = some (.string s)) :
    Calls Tryz.prog 137 #[.agg #[.string r.name, .int .i64 r.kind, .int .i64 r.size, .bool r.little, vb, vn, vt, vk], .pointer (some ⟨g, 0, none⟩)] w
      fun e w' => e = .returned (.bool (decide (r.name = s))) ∧ Below w.heap.size w w' := by
  have hlt := World.block_lt_of_cell? w _ hs
  have hs1 : (w.alloc (.cells #[.string r.name, .int .i64 r.kind, .int .i64 r.size, .bool r.little, vb, vn, vt, vk] 30)).cell? ⟨g, 0, none⟩ = some (.string s) := by rw [World.cell?_alloc_lt _ _ _ hlt]; exact hs
  by_cases he : r.name = s
  · have hq := str_eqs he
    rw [decide_eq_true he]
    clear he
    go_enter Tryz.func137, Tryz.ntmps137
    go_wp2_with fail
    go_ret
    exact ⟨rfl, (Below.refl _ _).alloc (Nat.le_refl _) _⟩
  · have hq := str_ne he
    rw [decide_eq_false he]
    clear he
    go_enter Tryz.func137, Tryz.ntmps137
    go_wp2_with fail
    go_ret
    exact ⟨rfl, (Below.refl _ _).alloc (Nat.le_refl _) _⟩

set_option maxHeartbeats 4000000 in
theorem i_indexFunc (A : Option Addr) (c : Nat) (l : List RuleD) (s : ByteArray) (g : Nat) (w : World) (hv : RdRules w (.slice A l.length c) l) (hs : w.cell? ⟨g, 0, none⟩ = some (.string s)) :
    Calls Tryz.prog 136 #[.slice A l.length c, .func (.func 137) #[] #[.pointer (some ⟨g, 0, none⟩)]] w fun e w' => e = .returned (.int .i64 (findL l s)) ∧ Below w.heap.size w w' := by
  obtain ⟨A', c', e, hnc, hcm, hcell⟩ := hv.all
  injection e with e1 _ e2
  subst e1; subst e2
  unfold maxLen at hcm
  have HC := Lib.hid hcell
  have HS := Lib.hid hs
  clear hcell hv hs
  obtain ⟨F, hF⟩ : ∃ F, F = findL l s := ⟨_, rfl⟩
  have HF := Lib.hid hF
  rw [← hF]
  clear hF
  obtain ⟨n, hn⟩ : ∃ n, n = l.length := ⟨_, rfl⟩
  have HN := Lib.hid hn
  rw [← hn] at hnc ⊢
  clear hn
  go_enter Tryz.func136, Tryz.ntmps136
  go_wp2_with fail
  go_loopw [9] (fun i wr => ∃ k : Nat, k ≤ n ∧ i = .int .i64 k ∧ (∀ j (h : j < l.length), j < k → l[j].name ≠ s) ∧ Below w.heap.size w wr) (fun i _ => n - (intOf i).toNat)
  case atStart => exact ⟨0, Nat.zero_le _, rfl, fun j _ h => absurd h (by omega), Below.refl _ _⟩
  case round =>
    obtain ⟨k, hk, rfl, hno, hbr⟩ := hrel
    have HO := Lib.hid hno
    clear hno
    by_cases hlt : k < n
    · have hkl : k < l.length := by rw [← HN.out]; exact hlt
      obtain ⟨b, off, rfl, hc⟩ := HC.out (by omega)
      obtain ⟨vb, vn, vt, vk, hr⟩ := hc k hkl
      obtain ⟨⟨Ab, cb, rfl⟩, ⟨An, cn, rfl⟩, ⟨At, ct, rfl⟩, ⟨Ak, ck, rfl⟩⟩ := hr.slices
      obtain ⟨D0, D1, D2, D3, D4, D5, D6, D7⟩ := (hr.below hbr).eight
      have hsr : wr.cell? ⟨g, 0, none⟩ = some (.string s) := by rw [hbr.cell (World.block_lt_of_cell? w _ HS.out)]; exact HS.out
      have HSR := Lib.hid hsr
      have HBR := Lib.hid hbr
      obtain ⟨r, hr0⟩ : ∃ r, r = l[k] := ⟨_, rfl⟩
      rw [← hr0] at D0 D1 D2 D3 D4 D5 D6 D7
      have HR := Lib.hid hr0
      clear hr hc hbr hr0 hsr
      go_wp2_with fail
      refine (i_accept s r g _ _ _ _ _ (by rw [World.cell?_alloc_lt _ _ _ (World.block_lt_of_cell? wr _ HSR.out)]; exact HSR.out)).mono ?_
      by_cases he : r.name = s
      · have hfin : Hid (F = k) := by show _ = _; rw [HF.out]; exact findL_at hkl HO.out (by rw [← HR.out]; exact he)
        rw [decide_eq_true he]
        rintro e w1 ⟨rfl, hb1⟩
        have hbz := Below.then_ (HBR.out.alloc HBR.out.size _) hb1 (Nat.le_refl _)
        clear he hb1
        go_wp2_with fail
        go_ret
        exact ⟨ret_int hfin.out.symm, hbz⟩
      · have hall : Hid (∀ j (h : j < l.length), j < k + 1 → l[j].name ≠ s) := by
          intro j hj hjk
          rcases Nat.lt_or_ge j k with h1 | h1
          · exact HO.out j hj h1
          · obtain rfl : j = k := by omega
            rw [← HR.out]; exact he
        rw [decide_eq_false he]
        rintro e w1 ⟨rfl, hb1⟩
        have HBZ := Lib.hid (Below.then_ (HBR.out.alloc HBR.out.size _) hb1 (Nat.le_refl _))
        clear he hb1
        go_wp2_with fail
        go_roundw
        case rel => exact ⟨k + 1, by omega, by go_num, hall.out, HBZ.out⟩
        case measure => simp [intOf]; omega
    · obtain rfl : k = n := by omega
      have hfin : Hid (F = -1) := by show _ = _; rw [HF.out]; exact findL_none fun j hj => HO.out j hj (by have := HN.out; omega)
      go_wp2_with fail
      go_ret
      exact ⟨ret_int hfin.out.symm, hbr⟩

set_option maxHeartbeats 4000000 in
theorem i_ParseKid (d : Value) (l : List RuleD) (s : ByteArray) (w : World) (hd : RdDesc w d l) :
    Calls Tryz.prog 115 #[d, .string s] w fun e w' => e = .returned (.tuple #[.int .i64 (max 0 (findL l s)), .bool (decide (0 ≤ findL l s))]) ∧ Below w.heap.size w w' := by
  obtain ⟨v, rfl, hv⟩ := hd
  obtain ⟨A, c, rfl, _⟩ := hv.all
  have h0 : Below w.heap.size w ((w.alloc (.cells #[.slice A l.length c] 35)).alloc (.cells #[.string s] 9)) := below_box.alloc (by simp) _
  have HV := Lib.hid (hv.below h0)
  have hsx : ((w.alloc (.cells #[.slice A l.length c] 35)).alloc (.cells #[.string s] 9)).cell? ⟨w.heap.size + 1, 0, none⟩ = some (.string s) := by
    simp
  have HSX := Lib.hid hsx
  have HB0 := Lib.hid h0
  obtain ⟨hf1, hf2⟩ := findL_range l s
  obtain ⟨F, hF⟩ : ∃ F, F = findL l s := ⟨_, rfl⟩
  have ix := fun g w h h' => i_indexFunc A c l s g w h h'
  rw [← hF] at ix hf1 hf2 ⊢
  have IX := Lib.hid ix
  clear ix hF hv h0 hsx
  go_enter Tryz.func115, Tryz.ntmps115
  go_wp2_with fail
  refine (IX.out _ _ HV.out HSX.out).mono ?_
  rintro e w1 ⟨rfl, hb1⟩
  have HB1 := Lib.hid (Below.then_ HB0.out hb1 (Nat.le_refl _))
  clear hb1
  by_cases h0 : F < 0
  · have e1 : Hid (max 0 F = 0) := by show _ = _; omega
    have e2 : Hid (decide (0 ≤ F) = false) := by show _ = _; simp; omega
    go_wp2_with fail
    refine bodyPost_ret (results_two rfl _ _ _) rfl ?_
    exact ⟨ret_two e1.out.symm e2.out.symm, HB1.out⟩
  · have e1 : Hid (max 0 F = F) := by show _ = _; omega
    have e2 : Hid (decide (0 ≤ F) = true) := by show _ = _; simp; omega
    go_wp2_with fail
    refine bodyPost_ret (results_two rfl _ _ _) rfl ?_
    exact ⟨ret_two e1.out.symm e2.out.symm, HB1.out⟩

end Go.Proofs.YtkjjgpkegihmhaaGreatDoor

namespace Go.Proofs.YtkjjgpkegihmhaaGreatDoor
open Go.RowKit
set_option linter.unusedVariables false

def Parsed (w2 : World) (gr : Nat) (o : Option RuleD) (w : World) (e : Ending) (w' : World) : Prop :=
  match o with
  | some r' => e = .returned (.bool true) ∧ PSt w2 gr r' w' ∧ Keep w w'
  | none => e = .returned (.bool false) ∧ Below w2.heap.size w2 w'
theorem Parsed.yes {w2 w w' : World} {gr : Nat} {o : Option RuleD} {r' : RuleD} (ho : o = some r') (h : PSt w2 gr r' w') (hk : Keep w w') : Parsed w2 gr o w (.returned (.bool true)) w' := by subst ho; exact ⟨rfl, h, hk⟩
theorem Parsed.no {w2 w w' : World} {gr : Nat} {o : Option RuleD} (ho : o = none) (h : Below w2.heap.size w2 w') : Parsed w2 gr o w (.returned (.bool false)) w' := by subst ho; exact ⟨rfl, h⟩
theorem texts_at {w : World} {A : Option Addr} {n c : Nat} {l : List ByteArray} (h : Rd w (.slice A n c) 1 l.length (cS l)) (hp : 0 < l.length) :
    ∃ b off, A = some ⟨b, off, none⟩ ∧ ∀ j (h : j < l.length), w.cell? ⟨b, off + j, none⟩ = some (.string l[j]) := by
  obtain ⟨_, A', c', e, _, _, hc⟩ := h
  injection e with e _ _
  obtain ⟨b, off, hA, hcell⟩ := hc (by rw [cS_len]; omega)
  exact ⟨b, off, by rw [e, hA], fun j hj => hcell j _ (cS_at hj)⟩

set_option maxRecDepth 100000 in
set_option maxHeartbeats 8000000 in
theorem i_parseKids (d : Value) (l : List RuleD) (w2 : World) (gr : Nat) (r : RuleD) (va : Value) (ws : List ByteArray) (hln : l.length ≤ 1048576) (hws : r.kids.length + ws.length ≤ 4194304) (w : World) (hd : RdDesc w2 d l) (hv : Rd w2 va 1 ws.length (cS ws)) (h : PSt w2 gr r w) :
    Calls Tryz.prog 84 #[d, .pointer (some ⟨gr, 0, none⟩), va] w (Parsed w2 gr (kidsP l r ws) w) := by
  obtain ⟨v, rfl, hdv⟩ := hd
  obtain ⟨A, c, rfl, hnc, hcm, hcell⟩ := hdv.all
  obtain ⟨hvl, Av, cv, rfl, hvc, hvm, _⟩ := id hv
  unfold maxLen at hcm hvm
  have HV := Lib.hid hdv
  have HVA := Lib.hid hv
  obtain ⟨O, hO⟩ : ∃ O, O = kidsP l r ws := ⟨_, rfl⟩
  rw [← hO]
  have HO := Lib.hid hO
  have hx0 := Box.new w 35 #[.slice A l.length c]
  have hgr : gr < w.heap.size := by
    obtain ⟨_, _, _, _, hx, _⟩ := h.st
    exact hx.lt
  have P0 := Lib.hid (h.step (w' := w.alloc (.cells #[.slice A l.length c] 35)) ((Below.refl _ _).alloc (Nat.le_refl _) _))
  have X0 := Lib.hid hx0
  obtain ⟨n, hn⟩ : ∃ n, n = ws.length := ⟨_, rfl⟩
  have HN := Lib.hid hn
  rw [← hn] at hws hvc HVA ⊢
  obtain ⟨i0, hif, hz0, hz1, hz2⟩ := info_parts info_Int
  clear hcell hdv hv hO hx0 h hvl hn
  go_enter Tryz.func84, Tryz.ntmps84
  go_wp2_with fail
  go_loopw [13] (fun i wr => ∃ (q : Nat) (ks : List Int), q ≤ n ∧ i = .int .i64 q ∧ kidsL l (ws.take q) = some ks ∧ PSt w2 gr { r with kids := r.kids ++ ks } wr ∧ Box wr w.heap.size 35 #[.slice A l.length c] ∧ Keep w wr) (fun i _ => n - (intOf i).toNat)
  case atStart => exact ⟨0, [], Nat.zero_le _, rfl, by simp [kidsL], by simpa using P0.out, X0.out, Keep.alloc _ _⟩
  case round =>
    obtain ⟨q, ks, hq, rfl, hks, hst, hbx, hke⟩ := hrel
    have KE := Lib.hid hke
    clear hke
    have P1 := Lib.hid hst
    have X1 := Lib.hid hbx
    have HKS := Lib.hid hks
    have hkl : ks.length ≤ q := by rw [kidsL_len hks, List.length_take]; omega
    have x1 := hbx.cell 0
    clear hks hst hbx
    by_cases hlt : q < n
    · have hqw : q < ws.length := by rw [← HN.out]; exact hlt
      obtain ⟨bn, on, rfl, hnc⟩ := texts_at (by have h := HVA.out; rw [HN.out] at h; exact h) (by omega)
      have ny := cell_after (hnc q hqw) P1.out.be
      obtain ⟨s, hs⟩ : ∃ s, s = ws[q] := ⟨_, rfl⟩
      rw [← hs] at ny
      have HS := Lib.hid hs
      have pk := fun w h => i_ParseKid (.agg #[.slice A l.length c]) l s w h
      obtain ⟨f, hf⟩ : ∃ f, f = findL l s := ⟨_, rfl⟩
      have hfr := findL_range l s
      rw [← hf] at pk hfr
      have HF := Lib.hid hf
      have hq0 : (0 : Int) ≤ (q : Int) := by omega
      have hqn : (q : Int) < (n : Int) := by omega
      clear hnc hs hf
      by_cases h0 : 0 ≤ f
      · rw [Int.max_eq_right h0, decide_eq_true h0] at pk
        have PK := Lib.hid pk
        have HKS2 := Lib.hid (show kidsL l (ws.take (q + 1)) = some (ks ++ [f]) by rw [HF.out, HS.out]; exact kidsL_step hqw HKS.out (by rw [← HS.out, ← HF.out]; exact h0))
        clear pk
        go_wp2_with fail
        refine (PK.out _ ⟨_, rfl, HV.out.below P1.out.be⟩).mono ?_
        rintro e w5 ⟨rfl, hb5⟩
        have K5 := Lib.hid (KE.out.trans (Keep.below hb5))
        have P5 := Lib.hid (P1.out.step hb5)
        have X5 := Lib.hid (X1.out.below hb5)
        obtain ⟨vb, vn, vt, vk, hx, h4⟩ := P5.out.st
        have e7 : w5.cell? ⟨gr, 7, none⟩ = some vk := hx.cell 7
        have f7 := hx.frozen 7
        have HX := Lib.hid hx
        have H4 := Lib.hid h4
        obtain ⟨kn, hkn⟩ : ∃ kn, kn = (r.kids ++ ks).length := ⟨_, rfl⟩
        have hknb : kn ≤ 4194304 := by rw [hkn, List.length_append]; omega
        have hok := h4.k
        rw [← hkn] at hok
        have HOK := Lib.hid hok
        have HKN := Lib.hid hkn
        have hgl := hx.lt
        clear hb5 hx h4 hok hkn x1 ny
        go_wp2_with (at_builtin; refine wpList_append_rd _ rfl (.tmp 29) (.tmp 31) 28 rfl w2.heap.size 3 i0 (.int .i64 0) 1 8 Tryz.underlying28 hif hz0 hz1 hz2 rfl (by decide) _ kn (cI (r.kids ++ ks)) rfl (HOK.out.alloc _) _ 1 (cI [f]) rfl ?c1 (cI_one _) (by unfold maxLen; omega) (by omega) (by have := P5.out.be.size; simp; omega) ?_)
        case c1 => exact Rd.lit _ (cI [f]) 3 1 rfl (by unfold maxLen; omega)
        intro v' w6 hown' hgrow' hpos
        have HX6 := Lib.hid ((HX.out.alloc (.cells #[.int .i64 f] 3)).grown hgrow' (fun e => own_type (HOK.out.alloc (.cells #[.int .i64 f] 3)) (HX.out.alloc (.cells #[.int .i64 f] 3)) (by decide) e.symm))
        have XD6 := Lib.hid ((X5.out.alloc (.cells #[.int .i64 f] 3)).grown hgrow' (fun e => own_type (HOK.out.alloc (.cells #[.int .i64 f] 3)) (X5.out.alloc (.cells #[.int .i64 f] 3)) (by decide) e.symm))
        have BE6 := Lib.hid (own_grown_below (P5.out.be.alloc P5.out.be.size _) (HOK.out.alloc _) hgrow' (by have := P5.out.be.size; simp; omega) (Nat.le_refl _))
        have K6 := Lib.hid ((K5.out.trans (Keep.alloc _ (.cells #[.int .i64 f] 3))).trans (Keep.grown (HOK.out.alloc _) (.inr rfl) hgrow'))
        have H46 := Lib.hid (H4.out.pushKid (k := f) (by rw [← HKN.out]; exact hown') hgrow' (by simpa using hpos))
        obtain ⟨_, A', c', rfl, _, _, _⟩ := Rd.of_own hown'
        have e7 : w6.cell? ⟨gr, 7, none⟩ = some vk := HX6.out.cell 7
        have f7 := HX6.out.frozen 7
        clear hown' hgrow' hpos
        go_wp2_with fail
        go_roundw
        case rel =>
          refine ⟨q + 1, ks ++ [f], by omega, by go_num, HKS2.out, ⟨⟨vb, vn, vt, _, HX6.out.set 7 _, ?_⟩, P5.out.ge, below_set BE6.out P5.out.ge _⟩, XD6.out.setOther _ (Ne.symm (Nat.ne_of_lt hgr)) _, K6.out.trans (Keep.set HX6.out)⟩
          have h := H46.out.setBox (u := .slice A' (kn + 1) c') (j := 7) HX6.out
          simpa [List.append_assoc] using h
        case measure => simp [intOf]; omega
      · have hfm : max 0 f = 0 := by omega
        rw [hfm, decide_eq_false h0] at pk
        have PK := Lib.hid pk
        have hfin : Hid (O = none) := by show _ = _; rw [HO.out]; unfold kidsP; rw [kidsL_bad hqw HKS.out (by rw [← HS.out, ← HF.out]; exact h0)]; rfl
        clear pk hfm
        go_wp2_with fail
        refine (PK.out _ ⟨_, rfl, HV.out.below P1.out.be⟩).mono ?_
        rintro e w5 ⟨rfl, hb5⟩
        have P5 := Lib.hid (P1.out.step hb5)
        clear hb5 x1 ny
        go_wp2_with fail
        go_ret
        exact Parsed.no hfin.out P5.out.be
    · obtain rfl : q = n := by omega
      have hfin : Hid (O = some { r with kids := r.kids ++ ks }) := by
        show _ = _
        have h := HKS.out
        rw [HN.out, List.take_length] at h
        rw [HO.out]; unfold kidsP; rw [h]; rfl
      go_wp2_with fail
      go_ret
      exact Parsed.yes hfin.out P1.out KE.out

end Go.Proofs.YtkjjgpkegihmhaaGreatDoor

namespace Go.Proofs.YtkjjgpkegihmhaaGreatDoor
open Go.RowKit

set_option maxHeartbeats 400000 in
theorem i_CutAt (s : ByteArray) (c : Int) (hs : s.size ≤ maxLen) (w : World) :
    Calls Tryz.prog 138 #[.string s, .int .u8 c] w fun e w' =>
      e = .returned (.tuple #[.string (mkS (cutLeft s.data.toList c.toNat.toUInt8)), .string (mkS (cutRight s.data.toList c.toNat.toUInt8)), .bool (cutOk s.data.toList c.toNat.toUInt8)]) ∧ Below w.heap.size w w' := by
  unfold maxLen at hs
  cases hc : cutIdx s.data.toList c.toNat.toUInt8 with
  | none =>
    have hi : Hid (Lib.indexByte s.data.toList c.toNat.toUInt8 = -1) := by show _ = _; rw [indexByte_cut, hc]
    have H := Lib.hid hc; clear hc
    go_enter Tryz.func138, Tryz.ntmps138
    go_wp2_with (go_at_call 148; refine (Tryz.strings_IndexByte _ _ _).mono ?_; rintro e w' ⟨rfl, rfl⟩; rw [hi.out])
    go_ret3
    exact ⟨by simp [cutLeft, cutRight, cutOk, H.out, mkS_of]; rfl, Below.refl _ _⟩
  | some k =>
    have hi : Hid (Lib.indexByte s.data.toList c.toNat.toUInt8 = (k : Int)) := by show _ = _; rw [indexByte_cut, hc]
    have hk : k < s.size := by have := (cutIdx_lt hc).1; rw [len_of] at this; exact this
    have H := Lib.hid hc; clear hc
    go_enter Tryz.func138, Tryz.ntmps138
    go_wp2_with (go_at_call 148; refine (Tryz.strings_IndexByte _ _ _).mono ?_; rintro e w' ⟨rfl, rfl⟩; rw [hi.out])
    go_quiet (fail)
    go_wp2
    go_ret3
    exact ⟨by simp [cutLeft, cutRight, cutOk, H.out, extract_end, extract_front], below_drewN (Below.refl _ _) _⟩

set_option maxHeartbeats 1000000 in
theorem s_CutAt (s : ByteArray) (c : Int) (hc : 0 ≤ c ∧ c ≤ 255) (hs : s.size ≤ maxLen) (w : World) :
    Calls Tryz.prog 107 #[.string s, .int .u8 c] w fun e w' =>
      e = .returned (.tuple #[.string (mkS (cutLeft s.data.toList c.toNat.toUInt8)), .string (mkS (cutRight s.data.toList c.toNat.toUInt8)), .bool (cutOk s.data.toList c.toNat.toUInt8)]) ∧ Below w.heap.size w w' := by
  unfold maxLen at hs
  go_enter Tryz.func107, Tryz.ntmps107
  go_wp2_with fail
  go_loop [7] (fun i => ∃ k : Nat, k ≤ s.size ∧ i = .int .i64 k ∧ ∀ j : Nat, j < k → s.data.toList[j]? ≠ some c.toNat.toUInt8) (fun i => s.size - (intOf i).toNat)
  case atStart => exact ⟨0, Nat.zero_le _, rfl, fun j h => absurd h (Nat.not_lt_zero _)⟩
  case round =>
    obtain ⟨k, hk, rfl, hno⟩ := hrel
    have Hno := Lib.hid hno; clear hno
    by_cases hlt : k < s.size
    · have hg := get_list s k hlt
      have he := u8_eq_iff s[k] c hc
      have Hg := Lib.hid hg; clear hg
      by_cases hx : s[k] = c.toNat.toUInt8
      · have ht : (((s[k].toNat : Nat) : Int) == c) = true := by rw [he]; simpa using hx
        have hfin : Hid (cutIdx s.data.toList c.toNat.toUInt8 = some k) := cutIdx_of (by rw [Hg.out, hx]) Hno.out
        clear he hx
        go_wp2_with fail
        go_quiet (fail)
        go_wp2_with fail
        go_ret3
        exact ⟨by simp [cutLeft, cutRight, cutOk, hfin.out, extract_end, extract_front], below_drewN (Below.refl _ _) _⟩
      · have ht : (((s[k].toNat : Nat) : Int) == c) = false := by rw [he]; simpa using hx
        have Hx := Lib.hid hx
        clear he hx
        go_wp2_with fail
        go_round
        case rel =>
          refine ⟨k + 1, by omega, by go_num, ?_⟩
          intro j hj
          rcases Nat.lt_or_ge j k with h | h
          · exact Hno.out j h
          · obtain rfl : j = k := by omega
            rw [Hg.out]; simpa using Hx.out
        case measure => simp [intOf]; omega
    · have hfin : Hid (cutIdx s.data.toList c.toNat.toUInt8 = none) := cutIdx_of_none fun j hj => Hno.out j (by rw [len_of] at hj; omega)
      go_wp2_with fail
      go_ret3
      exact ⟨by simp [cutLeft, cutRight, cutOk, hfin.out, mkS_of]; rfl, Below.refl _ _⟩

end Go.Proofs.YtkjjgpkegihmhaaGreatDoor

namespace Go.Proofs.YtkjjgpkegihmhaaGreatDoor
open Go.RowKit

theorem ret_parse {l : List UInt8} {n : Int} {b : Bool} (hn : n = parseNum l) (hb : b = parseOk l) : Ending.returned (.tuple #[.int .i64 n, .bool b]) = .returned (.tuple #[.int .i64 (parseNum l), .bool (parseOk l)]) := by rw [hn, hb]
theorem parseNum_not {l : List UInt8} (h : parseOk l = false) : (0 : Int) = parseNum l := by unfold parseNum; rw [h]; rfl
theorem parseNum_of {l : List UInt8} (h : parseOk l = true) : ((val l : Nat) : Int) = parseNum l := by unfold parseNum; rw [h]; rfl

def ValInv (s : ByteArray) (k : Nat) (n : Int) : Prop := (s.data.toList.take k).all isDigit = true ∧ n = (val (s.data.toList.take k) : Nat)
theorem ValInv.zero (s : ByteArray) : ValInv s 0 0 := ⟨by simp, by simp [val]⟩
theorem ValInv.bound {s : ByteArray} {k : Nat} {n : Int} (h : ValInv s k n) (hk : k ≤ s.size) (h13 : s.size ≤ 13) : 0 ≤ n ∧ n < 10000000000000 := by
  obtain ⟨h1, rfl⟩ := h
  have := val_lt h1
  have hl : (s.data.toList.take k).length = k := by rw [List.length_take, len_of]; omega
  rw [hl] at this
  have : (10 : Nat) ^ k ≤ 10 ^ 13 := Nat.pow_le_pow_right (by omega) (by omega)
  omega
theorem ValInv.step {s : ByteArray} {k : Nat} {n : Int} (h : ValInv s k n) (hlt : k < s.size) (h1 : 48 ≤ s[k].toNat) (h2 : s[k].toNat ≤ 57) : ValInv s (k + 1) (10 * n + ((s[k].toNat : Int) - 48)) := by
  obtain ⟨hd, rfl⟩ := h
  unfold ValInv
  rw [take_step (get_list s k hlt), val_snoc, List.all_append, hd]
  exact ⟨by simp [isDigit]; omega, by omega⟩
theorem ValInv.done {s : ByteArray} {n : Int} (h : ValInv s s.size n) : s.data.toList.all isDigit = true ∧ n = (val s.data.toList : Nat) := by
  have := h
  unfold ValInv at this
  rwa [List.take_of_length_le (by rw [len_of]; exact Nat.le_refl _)] at this

set_option maxHeartbeats 2000000 in
theorem i_ParseInt (s : ByteArray) (w : World) :
    Calls Tryz.prog 82 #[.string s] w fun e w' => e = .returned (.tuple #[.int .i64 (parseNum s.data.toList), .bool (parseOk s.data.toList)]) ∧ w = w' := by
  by_cases h0 : s.size = 0
  · have hfin := Lib.hid (parseOk_not (l := s.data.toList) (.inl (by rw [len_of]; omega)))
    have he : s.toList.isEmpty = true := by rw [Lib.toList_data]; simp; exact Array.eq_empty_of_size_eq_zero h0
    clear h0
    go_enter Tryz.func82, Tryz.ntmps82
    go_wp2_with fail
    go_ret2
    exact ⟨ret_parse (parseNum_not hfin.out) hfin.out.symm, rfl⟩
  · have he : s.toList.isEmpty = false := by
      rw [Lib.toList_data]
      cases e : s.data.toList with
      | nil => have := len_of s; rw [e] at this; simp at this; omega
      | cons x r => rfl
    by_cases h13 : 13 < s.size
    · have hfin := Lib.hid (parseOk_not (l := s.data.toList) (.inr (.inl (by rw [len_of]; omega))))
      have hd : decide (13 < (s.size : Int)) = true := by simp; omega
      clear h0
      go_enter Tryz.func82, Tryz.ntmps82
      go_wp2_with fail
      go_ret2
      exact ⟨ret_parse (parseNum_not hfin.out) hfin.out.symm, rfl⟩
    · have hd : decide (13 < (s.size : Int)) = false := by simp; omega
      have hp : 0 < s.size := by omega
      have Hg0 := Lib.hid (get_list s 0 hp)
      clear h0
      by_cases hlead : s[0] = 48 ∧ 1 < s.size
      · obtain ⟨hz, h1⟩ := hlead
        have hfin := Lib.hid (parseOk_not (l := s.data.toList) (.inr (.inr (.inr (.inr ⟨by rw [len_of]; omega, by rw [Hg0.out, hz]⟩)))))
        have hb : (((s[0].toNat : Nat) : Int) == 48) = true := by rw [hz]; rfl
        have hd1 : decide (1 < (s.size : Int)) = true := by simp; omega
        clear hz
        go_enter Tryz.func82, Tryz.ntmps82
        go_wp2_with fail
        go_ret2
        exact ⟨ret_parse (parseNum_not hfin.out) hfin.out.symm, rfl⟩
      · have hbad : ((((s[0].toNat : Nat) : Int) == 48) && decide (1 < (s.size : Int))) = false := by
          rw [Bool.and_eq_false_iff]
          by_cases hz : s[0] = 48
          · right; simp; have := Nat.not_lt.1 (fun h => hlead ⟨hz, h⟩); omega
          · left
            rw [beq_eq_false_iff_ne]
            intro e
            exact hz (UInt8.toNat_inj.1 (by simp; omega))
        have HL := Lib.hid (show s.data.toList.length = 1 ∨ s.data.toList[0]? ≠ some 48 by
          rw [len_of]
          by_cases hz : s[0] = 48
          · left; have := Nat.not_lt.1 (fun h => hlead ⟨hz, h⟩); omega
          · right; rw [Hg0.out]; intro e; exact hz (Option.some.inj e))
        clear hlead
        have hcases : (((s[0].toNat : Nat) : Int) == 48) = false ∨ ((((s[0].toNat : Nat) : Int) == 48) = true ∧ decide (1 < (s.size : Int)) = false) := by
          cases hq : (((s[0].toNat : Nat) : Int) == 48)
          · left; rfl
          · right; rw [hq] at hbad; simpa using hbad
        clear hbad
        rcases hcases with hq | ⟨hq, hq2⟩
        all_goals
          go_enter Tryz.func82, Tryz.ntmps82
          go_wp2_with fail
          go_loop [4, 5] (fun n i => ∃ (k : Nat) (v : Int), k ≤ s.size ∧ i = .int .i64 k ∧ n = .int .i64 v ∧ ValInv s k v) (fun _ i => s.size - (intOf i).toNat)
          case atStart => exact ⟨0, 0, Nat.zero_le _, rfl, rfl, ValInv.zero s⟩
          case round =>
            obtain ⟨k, v, hk, rfl, rfl, hv⟩ := hrel
            obtain ⟨hv1, hv2⟩ := hv.bound hk (by omega)
            clear hq
            by_cases hlt : k < s.size
            · have hub : s[k].toNat < 256 := s[k].toNat_lt
              by_cases hlo : 48 ≤ s[k].toNat
              · by_cases hhi : s[k].toNat ≤ 57
                · have HS := Lib.hid (hv.step hlt hlo hhi)
                  go_wp2_with fail
                  go_round
                  case rel => exact ⟨k + 1, _, by omega, by go_num, rfl, HS.out⟩
                  case measure => simp [intOf]; omega
                · have hfin := Lib.hid (parseOk_not (l := s.data.toList) (.inr (.inr (.inl (all_bad (get_list s k hlt) (by simp [isDigit]; omega))))))
                  have hd2 : decide (57 < ((s[k].toNat : Nat) : Int)) = true := by simp; omega
                  go_wp2_with fail
                  go_ret2
                  exact ⟨ret_parse (parseNum_not hfin.out) hfin.out.symm, rfl⟩
              · have hfin := Lib.hid (parseOk_not (l := s.data.toList) (.inr (.inr (.inl (all_bad (get_list s k hlt) (by simp [isDigit]; omega))))))
                go_wp2_with fail
                go_ret2
                exact ⟨ret_parse (parseNum_not hfin.out) hfin.out.symm, rfl⟩
            · obtain rfl : k = s.size := by omega
              obtain ⟨hall, hval⟩ := hv.done
              by_cases hmax : v ≤ 1000000000000
              · have hfin := Lib.hid (parseOk_of (l := s.data.toList) (by rw [len_of]; omega) (by rw [len_of]; omega) hall (by omega) HL.out)
                have HV := Lib.hid hval
                clear hval hall
                go_wp2_with fail
                go_ret2
                exact ⟨ret_parse (by rw [HV.out]; exact parseNum_of hfin.out) hfin.out.symm, rfl⟩
              · have hfin := Lib.hid (parseOk_not (l := s.data.toList) (.inr (.inr (.inr (.inl (by omega))))))
                clear hval hall
                go_wp2_with fail
                go_ret2
                exact ⟨ret_parse (parseNum_not hfin.out) hfin.out.symm, rfl⟩

set_option maxHeartbeats 2000000 in
theorem s_ParseInt (s : ByteArray) (hs : s.size ≤ maxLen) (w : World) :
    Calls Tryz.prog 69 #[.string s] w fun e w' => e = .returned (.tuple #[.int .i64 (parseNum s.data.toList), .bool (parseOk s.data.toList)]) ∧ Below w.heap.size w w' := by
  unfold maxLen at hs
  by_cases h0 : 1 ≤ s.size ∧ s.size ≤ 13
  · obtain ⟨h1, h13⟩ := h0
    have hd1 : decide (1 ≤ (s.size : Int)) = true := by simp; omega
    have hd2 : decide ((s.size : Int) ≤ 13) = true := by simp; omega
    go_enter Tryz.func69, Tryz.ntmps69
    go_wp2_with (go_at_call 68; go_in)
    go_loop [4, 5] (fun n i => ∃ (k : Nat) (v : Int), k ≤ s.size ∧ i = .int .i64 k ∧ n = .int .i64 v ∧ ValInv s k v) (fun _ i => s.size - (intOf i).toNat)
    case atStart => exact ⟨0, 0, Nat.zero_le _, rfl, rfl, ValInv.zero s⟩
    case round =>
      obtain ⟨k, v, hk, rfl, rfl, hv⟩ := hrel
      obtain ⟨hv1, hv2⟩ := hv.bound hk (by omega)
      by_cases hlt : k < s.size
      · have hub : s[k].toNat < 256 := s[k].toNat_lt
        by_cases hlo : 48 ≤ s[k].toNat
        · by_cases hhi : s[k].toNat ≤ 57
          · have HS := Lib.hid (hv.step hlt hlo hhi)
            have hq1 : decide (48 ≤ ((s[k].toNat : Nat) : Int)) = true := by simp; omega
            have hq2 : decide (((s[k].toNat : Nat) : Int) ≤ 57) = true := by simp; omega
            go_wp2_with (go_at_call 68; go_in)
            go_round
            case rel => exact ⟨k + 1, _, by omega, by go_num, rfl, HS.out⟩
            case measure => simp [intOf]; omega
          · have hfin := Lib.hid (parseOk_not (l := s.data.toList) (.inr (.inr (.inl (all_bad (get_list s k hlt) (by simp [isDigit]; omega))))))
            have hq1 : decide (48 ≤ ((s[k].toNat : Nat) : Int)) = true := by simp; omega
            have hq2 : decide (((s[k].toNat : Nat) : Int) ≤ 57) = false := by simp; omega
            go_wp2_with (go_at_call 68; go_in)
            go_ret2
            exact ⟨ret_parse (parseNum_not hfin.out) hfin.out.symm, Below.refl _ _⟩
        · have hfin := Lib.hid (parseOk_not (l := s.data.toList) (.inr (.inr (.inl (all_bad (get_list s k hlt) (by simp [isDigit]; omega))))))
          have hq1 : decide (48 ≤ ((s[k].toNat : Nat) : Int)) = false := by simp; omega
          go_wp2_with (go_at_call 68; go_in)
          go_ret2
          exact ⟨ret_parse (parseNum_not hfin.out) hfin.out.symm, Below.refl _ _⟩
      · obtain rfl : k = s.size := by omega
        obtain ⟨hall, hval⟩ := hv.done
        have HF := Lib.hid (fmt_val (l := s.data.toList) (by rw [len_of]; omega) hall)
        have HV := Lib.hid hval
        have HA := Lib.hid hall
        by_cases hmax : v ≤ 1000000000000
        · have hmv : val s.data.toList ≤ 1000000000000 := by omega
          clear hval hall
          by_cases hlead : s.data.toList.length = 1 ∨ s.data.toList[0]? ≠ some 48
          · have hfin := Lib.hid (parseOk_of (l := s.data.toList) (by rw [len_of]; omega) (by rw [len_of]; omega) HA.out hmv hlead)
            have hstr : Hid (mkS (fmtInt v) = s) := by show _ = _; rw [HV.out, HF.out.2 hlead, mkS_of]
            clear hlead
            go_wp2_with fail
            refine (s_FormatInt v ⟨by omega, by omega⟩ _).mono ?_
            rintro e w1 ⟨rfl, hb1⟩
            rw [hstr.out]
            go_wp2_with fail
            go_ret2
            exact ⟨ret_parse (by rw [HV.out]; exact parseNum_of hfin.out) hfin.out.symm, hb1⟩
          · have hfin := Lib.hid (parseOk_not (l := s.data.toList) (by
              right; right; right; right
              rcases Nat.lt_or_ge 1 s.data.toList.length with h | h
              · exact ⟨h, Classical.not_not.1 fun h' => hlead (.inr h')⟩
              · exact absurd (Or.inl (by rw [len_of] at h ⊢; omega)) hlead))
            have hq : ((mkS (fmtInt v)).toList == s.toList) = false := str_ne fun e => hlead (HF.out.1 (by
              have := congrArg (fun t : ByteArray => t.data.toList) e
              rw [← HV.out]; simpa [mkS] using this))
            clear hlead
            go_wp2_with fail
            refine (s_FormatInt v ⟨by omega, by omega⟩ _).mono ?_
            rintro e w1 ⟨rfl, hb1⟩
            go_wp2_with fail
            go_ret2
            exact ⟨ret_parse (parseNum_not hfin.out) hfin.out.symm, hb1⟩
        · have hfin := Lib.hid (parseOk_not (l := s.data.toList) (.inr (.inr (.inr (.inl (by omega))))))
          have hq1 : decide (1000000000000 < v) = true := by simp; omega
          clear hval hall
          go_wp2_with fail
          go_ret2
          exact ⟨ret_parse (parseNum_not hfin.out) hfin.out.symm, Below.refl _ _⟩
  · have hfin := Lib.hid (parseOk_not (l := s.data.toList) (by rw [len_of]; omega))
    by_cases h1 : 1 ≤ s.size
    · have hd1 : decide (1 ≤ (s.size : Int)) = true := by simp; omega
      have hd2 : decide ((s.size : Int) ≤ 13) = false := by simp; omega
      clear h0
      go_enter Tryz.func69, Tryz.ntmps69
      go_wp2_with (go_at_call 68; go_in)
      go_ret2
      exact ⟨ret_parse (parseNum_not hfin.out) hfin.out.symm, Below.refl _ _⟩
    · have hd1 : decide (1 ≤ (s.size : Int)) = false := by simp; omega
      clear h0
      go_enter Tryz.func69, Tryz.ntmps69
      go_wp2_with (go_at_call 68; go_in)
      go_ret2
      exact ⟨ret_parse (parseNum_not hfin.out) hfin.out.symm, Below.refl _ _⟩

end Go.Proofs.YtkjjgpkegihmhaaGreatDoor

namespace Go.Proofs.YtkjjgpkegihmhaaGreatDoor
open Go.RowKit
set_option linter.unusedVariables false

set_option maxRecDepth 100000 in
set_option maxHeartbeats 8000000 in
theorem i_parsePart (d : Value) (l : List RuleD) (w2 : World) (gr : Nat) (r : RuleD) (s : ByteArray) (hs : s.size ≤ 4194304) (hln : l.length ≤ 1048576) (hrk : r.kids.length ≤ 4194304 ∧ r.names.length ≤ 4194304 ∧ r.tags.length ≤ 4194304) (w : World) (hd : RdDesc w2 d l) (h : PSt w2 gr r w) :
    Calls Tryz.prog 116 #[d, .pointer (some ⟨gr, 0, none⟩), .string s] w (Parsed w2 gr (partP l r s) w) := by
  obtain ⟨v, rfl, hdv⟩ := hd
  obtain ⟨A, c, rfl, hnc, hcm, hcell⟩ := hdv.all
  unfold maxLen at hcm
  have HV := Lib.hid hdv
  obtain ⟨O, hO⟩ : ∃ O, O = partP l r s := ⟨_, rfl⟩
  rw [← hO]
  have HO := Lib.hid hO
  have hx0 := Box.new w 35 #[.slice A l.length c]
  have P0 := Lib.hid (h.step (w' := w.alloc (.cells #[.slice A l.length c] 35)) ((Below.refl _ _).alloc (Nat.le_refl _) _))
  have X0 := Lib.hid hx0
  have cu := fun w => i_CutAt s 58 (by unfold maxLen; omega) w
  rw [show (58 : Int).toNat.toUInt8 = (58 : UInt8) from rfl] at cu
  obtain ⟨a, ha⟩ : ∃ a, a = cutLeft s.data.toList 58 := ⟨_, rfl⟩
  obtain ⟨b, hb⟩ : ∃ b, b = cutRight s.data.toList 58 := ⟨_, rfl⟩
  obtain ⟨ok, hok⟩ : ∃ ok, ok = cutOk s.data.toList 58 := ⟨_, rfl⟩
  rw [← ha, ← hb, ← hok] at cu
  have CU := Lib.hid cu
  have HA := Lib.hid ha
  have HB := Lib.hid hb
  have HOK := Lib.hid hok
  have pk := fun w h => i_ParseKid (.agg #[.slice A l.length c]) l (mkS b) w h
  obtain ⟨f, hf⟩ : ∃ f, f = findL l (mkS b) := ⟨_, rfl⟩
  have hfr := findL_range l (mkS b)
  rw [← hf] at pk hfr
  have HF := Lib.hid hf
  have pi := fun w => i_ParseInt (mkS a) w
  rw [mkS_list] at pi
  obtain ⟨num, hnum⟩ : ∃ num, num = parseNum a := ⟨_, rfl⟩
  obtain ⟨iok, hiok⟩ : ∃ iok, iok = parseOk a := ⟨_, rfl⟩
  rw [← hnum, ← hiok] at pi
  have PI := Lib.hid pi
  have HNUM := Lib.hid hnum
  have HIOK := Lib.hid hiok
  have hpart : Hid (O = if ok = true ∧ 0 ≤ f then if r.kind = 6 then some { r with kids := r.kids ++ [f], names := r.names ++ [mkS a] } else if iok = true then some { r with kids := r.kids ++ [f], tags := r.tags ++ [num] } else none else none) := by
    show _ = _
    rw [hO, hok, hf, ha, hb, hiok, hnum, ha]; rfl
  obtain ⟨i0, hif, hz0, hz1, hz2⟩ := info_parts info_Int
  obtain ⟨j0, hjf, hy0, hy1, hy2⟩ := info_parts info_String
  obtain ⟨hr1, hr2, hr3⟩ := hrk
  clear hcell hdv hO hx0 h cu ha hb hok hf pi hnum hiok
  go_enter Tryz.func116, Tryz.ntmps116
  go_wp2_with fail
  refine (CU.out _).mono ?_
  rintro e w1 ⟨rfl, hb1⟩
  have P1 := Lib.hid (P0.out.step hb1)
  have K1 := Lib.hid ((Keep.alloc w (.cells #[.slice A l.length c] 35)).trans (Keep.below hb1))
  have X1 := Lib.hid (X0.out.below hb1)
  have x1 := X1.out.cell 0
  clear hb1
  by_cases h0 : 0 ≤ f
  · rw [Int.max_eq_right h0, decide_eq_true h0] at pk
    have PK := Lib.hid pk
    clear pk
    go_wp2_with fail
    refine (PK.out _ ⟨_, rfl, HV.out.below P1.out.be⟩).mono ?_
    rintro e w5 ⟨rfl, hb5⟩
    have P5 := Lib.hid (P1.out.step hb5)
    have K5 := Lib.hid (K1.out.trans (Keep.below hb5))
    clear hb5 x1
    cases ok
    · have hfin : Hid (O = none) := by show _ = _; rw [hpart.out, if_neg (by simp)]
      go_wp2_with fail
      go_ret
      exact Parsed.no hfin.out P5.out.be
    · have hp2 : Hid (O = if r.kind = 6 then some { r with kids := r.kids ++ [f], names := r.names ++ [mkS a] } else if iok = true then some { r with kids := r.kids ++ [f], tags := r.tags ++ [num] } else none) := by
        show _ = _
        rw [hpart.out, if_pos ⟨rfl, h0⟩]
      obtain ⟨vb, vn, vt, vk, hx, h4⟩ := P5.out.st
      have e7 : w5.cell? ⟨gr, 7, none⟩ = some vk := hx.cell 7
      have f7 := hx.frozen 7
      have HX := Lib.hid hx
      have H4 := Lib.hid h4
      obtain ⟨kn, hkn⟩ : ∃ kn, kn = r.kids.length := ⟨_, rfl⟩
      have hok := h4.k
      rw [← hkn] at hok hr1
      have HOKK := Lib.hid hok
      have HKN := Lib.hid hkn
      have hgl := hx.lt
      clear hx h4 hok hkn
      go_wp2_with (at_builtin; refine wpList_append_rd _ rfl (.tmp 36) (.tmp 38) 28 rfl w2.heap.size 3 i0 (.int .i64 0) 1 8 Tryz.underlying28 hif hz0 hz1 hz2 rfl (by decide) _ kn (cI r.kids) rfl (HOKK.out.alloc _) _ 1 (cI [f]) rfl ?c1 (cI_one _) (by unfold maxLen; omega) (by omega) (by have := P5.out.be.size; simp; omega) ?_)
      case c1 => exact Rd.lit _ (cI [f]) 3 1 rfl (by unfold maxLen; omega)
      intro v' w6 hown' hgrow' hpos
      have HX6 := Lib.hid ((HX.out.alloc (.cells #[.int .i64 f] 3)).grown hgrow' (fun e => own_type (HOKK.out.alloc (.cells #[.int .i64 f] 3)) (HX.out.alloc (.cells #[.int .i64 f] 3)) (by decide) e.symm))
      have BE6 := Lib.hid (own_grown_below (P5.out.be.alloc P5.out.be.size _) (HOKK.out.alloc _) hgrow' (by have := P5.out.be.size; simp; omega) (Nat.le_refl _))
      have K6 := Lib.hid ((K5.out.trans (Keep.alloc _ (.cells #[.int .i64 f] 3))).trans (Keep.grown (HOKK.out.alloc _) (.inr rfl) hgrow'))
      have H46 := Lib.hid (H4.out.pushKid (k := f) (by rw [← HKN.out]; exact hown') hgrow' (by simpa using hpos))
      obtain ⟨_, A', c', rfl, _, _, _⟩ := Rd.of_own hown'
      have e7 : w6.cell? ⟨gr, 7, none⟩ = some vk := HX6.out.cell 7
      have f7 := HX6.out.frozen 7
      obtain ⟨w7, hw7⟩ : ∃ w7, w7 = w6.setCell ⟨gr, 7, none⟩ (.slice A' (kn + 1) c') := ⟨_, rfl⟩
      have HX7 := Lib.hid (show Box w7 gr 30 (rCells r vb vn vt (.slice A' (kn + 1) c')) by rw [hw7]; exact HX6.out.set 7 _)
      have BE7 := Lib.hid (show Below w2.heap.size w2 w7 by rw [hw7]; exact below_set BE6.out P5.out.ge _)
      have H47 := Lib.hid (show Rows4 w7 w2.heap.size { r with kids := r.kids ++ [f] } vb vn vt (.slice A' (kn + 1) c') by rw [hw7]; exact H46.out.setBox HX6.out)
      have k1 : (w6.setCell ⟨gr, 7, none⟩ (.slice A' (kn + 1) c')).cell? ⟨gr, 1, none⟩ = some (.int .i64 r.kind) := (HX6.out.set 7 _).cell 1
      have K7 := Lib.hid (show Keep w w7 by rw [hw7]; exact K6.out.trans (Keep.set HX6.out))
      have W7 := Lib.hid hw7
      have Z7 := Lib.hid (show w7.heap.size = w6.heap.size by rw [hw7]; simp [World.setCell])
      clear hown' hgrow' hpos hw7
      by_cases hk : r.kind = 6
      · have hke : (r.kind == 6) = true := by simpa using hk
        have hfin : Hid (O = some { r with kids := r.kids ++ [f], names := r.names ++ [mkS a] }) := by show _ = _; rw [hp2.out, if_pos hk]
        have g5 : (w6.setCell ⟨gr, 7, none⟩ (.slice A' (kn + 1) c')).cell? ⟨gr, 5, none⟩ = some vn := (HX6.out.set 7 _).cell 5
        obtain ⟨nn, hnn⟩ : ∃ nn, nn = r.names.length := ⟨_, rfl⟩
        have hon : w7.ownsRow w2.heap.size 9 1 vn r.names.length (cS r.names) := H47.out.n
        rw [← hnn] at hon hr2
        have HON := Lib.hid hon
        have HNN := Lib.hid hnn
        clear hk hon hnn
        go_wp2_with (at_builtin; rw [← W7.out]; refine wpList_append_rd _ rfl (.tmp 51) (.tmp 53) 27 rfl w2.heap.size 9 j0 (.string ⟨#[]⟩) 1 16 Tryz.underlying27 hjf hy0 hy1 hy2 rfl (by decide) _ nn (cS r.names) rfl (HON.out.alloc _) _ 1 (cS [mkS a]) rfl ?c3 (cS_one _) (by unfold maxLen; omega) (by omega) (by have := BE7.out.size; simp; omega) ?_)
        case c3 =>
          have h := Rd.lit w7 (cS [mkS a]) 9 1 rfl (by unfold maxLen; omega)
          rw [Z7.out] at h
          exact h
        intro v' w8 hown' hgrow' hpos
        have HX8 := Lib.hid ((HX7.out.alloc (.cells #[.string (mkS a)] 9)).grown hgrow' (fun e => own_type (HON.out.alloc (.cells #[.string (mkS a)] 9)) (HX7.out.alloc (.cells #[.string (mkS a)] 9)) (by decide) e.symm))
        have BE8 := Lib.hid (own_grown_below (BE7.out.alloc BE7.out.size _) (HON.out.alloc _) hgrow' (by have := BE7.out.size; simp; omega) (Nat.le_refl _))
        have K8 := Lib.hid ((K7.out.trans (Keep.alloc _ (.cells #[.string (mkS a)] 9))).trans (Keep.grown (HON.out.alloc _) (.inl rfl) hgrow'))
        have H48 := Lib.hid (H47.out.pushName (s := mkS a) (by rw [← HNN.out]; exact hown') hgrow')
        obtain ⟨_, B', d', rfl, _, _, _⟩ := Rd.of_own hown'
        have e5 : w8.cell? ⟨gr, 5, none⟩ = some vn := HX8.out.cell 5
        have f5 := HX8.out.frozen 5
        clear hown' hgrow' hpos
        go_wp2_with fail
        go_ret
        exact Parsed.yes hfin.out ⟨⟨vb, _, vt, _, HX8.out.set 5 _, H48.out.setBox HX8.out⟩, P5.out.ge, below_set BE8.out P5.out.ge _⟩ (K8.out.trans (Keep.set HX8.out))
      · have hke : (r.kind == 6) = false := by simpa using hk
        have hp3 : Hid (O = if iok = true then some { r with kids := r.kids ++ [f], tags := r.tags ++ [num] } else none) := by show _ = _; rw [hp2.out, if_neg hk]
        clear hk
        go_wp2_with fail
        rw [← W7.out]
        refine (PI.out _).mono ?_
        rintro e w8 ⟨rfl, hww⟩
        subst hww
        have g6 : w7.cell? ⟨gr, 6, none⟩ = some vt := HX7.out.cell 6
        obtain ⟨nn, hnn⟩ : ∃ nn, nn = r.tags.length := ⟨_, rfl⟩
        have hon : w7.ownsRow w2.heap.size 3 1 vt r.tags.length (cI r.tags) := H47.out.t
        rw [← hnn] at hon hr3
        have HON := Lib.hid hon
        have HNN := Lib.hid hnn
        clear hon hnn
        go_wp2_with (at_builtin; refine wpList_append_rd _ rfl (.tmp 66) (.tmp 68) 28 rfl w2.heap.size 3 i0 (.int .i64 0) 1 8 Tryz.underlying28 hif hz0 hz1 hz2 rfl (by decide) _ nn (cI r.tags) rfl (HON.out.alloc _) _ 1 (cI [num]) rfl ?c2 (cI_one _) (by unfold maxLen; omega) (by omega) (by have := BE7.out.size; simp; omega) ?_)
        case c2 => exact Rd.lit _ (cI [num]) 3 1 rfl (by unfold maxLen; omega)
        intro v' w8 hown' hgrow' hpos
        have HX8 := Lib.hid ((HX7.out.alloc (.cells #[.int .i64 num] 3)).grown hgrow' (fun e => own_type (HON.out.alloc (.cells #[.int .i64 num] 3)) (HX7.out.alloc (.cells #[.int .i64 num] 3)) (by decide) e.symm))
        have BE8 := Lib.hid (own_grown_below (BE7.out.alloc BE7.out.size _) (HON.out.alloc _) hgrow' (by have := BE7.out.size; simp; omega) (Nat.le_refl _))
        have K8 := Lib.hid ((K7.out.trans (Keep.alloc _ (.cells #[.int .i64 num] 3))).trans (Keep.grown (HON.out.alloc _) (.inr rfl) hgrow'))
        have H48 := Lib.hid (H47.out.pushTag (k := num) (by rw [← HNN.out]; exact hown') hgrow' (by simpa using hpos))
        obtain ⟨_, B', d', rfl, _, _, _⟩ := Rd.of_own hown'
        have e6 : w8.cell? ⟨gr, 6, none⟩ = some vt := HX8.out.cell 6
        have f6 := HX8.out.frozen 6
        clear hown' hgrow' hpos
        cases iok
        · have hfin : Hid (O = none) := by show _ = _; rw [hp3.out]; rfl
          go_wp2_with fail
          go_ret
          exact Parsed.no hfin.out (below_set BE8.out P5.out.ge _)
        · have hfin : Hid (O = some { r with kids := r.kids ++ [f], tags := r.tags ++ [num] }) := by show _ = _; rw [hp3.out]; rfl
          go_wp2_with fail
          go_ret
          exact Parsed.yes hfin.out ⟨⟨vb, vn, _, _, HX8.out.set 6 _, H48.out.setBox HX8.out⟩, P5.out.ge, below_set BE8.out P5.out.ge _⟩ (K8.out.trans (Keep.set HX8.out))
  · have hfm : max 0 f = 0 := by omega
    rw [hfm, decide_eq_false h0] at pk
    have PK := Lib.hid pk
    have hfin : Hid (O = none) := by show _ = _; rw [hpart.out, if_neg (fun h => h0 h.2)]
    clear pk hfm
    go_wp2_with fail
    refine (PK.out _ ⟨_, rfl, HV.out.below P1.out.be⟩).mono ?_
    rintro e w5 ⟨rfl, hb5⟩
    have P5 := Lib.hid (P1.out.step hb5)
    clear hb5 x1
    cases ok
    all_goals
      go_wp2_with fail
      go_ret
      exact Parsed.no hfin.out P5.out.be

end Go.Proofs.YtkjjgpkegihmhaaGreatDoor

namespace Go.Proofs.YtkjjgpkegihmhaaGreatDoor
open Go.RowKit
set_option linter.unusedVariables false

set_option maxRecDepth 100000 in
set_option maxHeartbeats 8000000 in
theorem i_parseParts (d : Value) (l : List RuleD) (w2 : World) (gr : Nat) (r : RuleD) (va : Value) (ws : List ByteArray) (hsz : ∀ s ∈ ws, s.size ≤ 4194304) (hln : l.length ≤ 1048576) (hws : r.kids.length + ws.length ≤ 4194304 ∧ r.names.length + ws.length ≤ 4194304 ∧ r.tags.length + ws.length ≤ 4194304) (w : World) (hd : RdDesc w2 d l) (hv : Rd w2 va 1 ws.length (cS ws)) (h : PSt w2 gr r w) :
    Calls Tryz.prog 85 #[d, .pointer (some ⟨gr, 0, none⟩), va] w (Parsed w2 gr (partsP l r ws) w) := by
  obtain ⟨v, rfl, hdv⟩ := hd
  obtain ⟨A, c, rfl, hnc, hcm, hcell⟩ := hdv.all
  obtain ⟨hvl, Av, cv, rfl, hvc, hvm, _⟩ := id hv
  unfold maxLen at hcm hvm
  have HV := Lib.hid hdv
  have HVA := Lib.hid hv
  have HSZ := Lib.hid hsz
  have HWS := Lib.hid hws
  obtain ⟨O, hO⟩ : ∃ O, O = partsP l r ws := ⟨_, rfl⟩
  rw [← hO]
  have HO := Lib.hid hO
  have hx0 := Box.new w 35 #[.slice A l.length c]
  have P0 := Lib.hid (h.step (w' := w.alloc (.cells #[.slice A l.length c] 35)) ((Below.refl _ _).alloc (Nat.le_refl _) _))
  have X0 := Lib.hid hx0
  obtain ⟨n, hn⟩ : ∃ n, n = ws.length := ⟨_, rfl⟩
  have HN := Lib.hid hn
  rw [← hn] at hvc HVA ⊢
  clear hcell hdv hv hO hx0 h hvl hn hsz hws
  go_enter Tryz.func85, Tryz.ntmps85
  go_wp2_with fail
  go_loopw [11] (fun i wr => ∃ (q : Nat) (r1 : RuleD), q ≤ n ∧ i = .int .i64 q ∧ partsP l r (ws.take q) = some r1 ∧ PSt w2 gr r1 wr ∧ Box wr w.heap.size 35 #[.slice A l.length c] ∧ Keep w wr) (fun i _ => n - (intOf i).toNat)
  case atStart => exact ⟨0, r, Nat.zero_le _, rfl, rfl, P0.out, X0.out, Keep.alloc _ _⟩
  case round =>
    obtain ⟨q, r1, hq, rfl, hks, hst, hbx, hke⟩ := hrel
    have P1 := Lib.hid hst
    have X1 := Lib.hid hbx
    have KE := Lib.hid hke
    have HKS := Lib.hid hks
    have x1 := hbx.cell 0
    clear hks hst hbx hke
    by_cases hlt : q < n
    · have hqw : q < ws.length := by rw [← HN.out]; exact hlt
      obtain ⟨bn, on, rfl, hnc⟩ := texts_at (by have h := HVA.out; rw [HN.out] at h; exact h) (by omega)
      have ny := cell_after (hnc q hqw) P1.out.be
      obtain ⟨s, hs⟩ : ∃ s, s = ws[q] := ⟨_, rfl⟩
      rw [← hs] at ny
      have HS := Lib.hid hs
      have hlen := partsP_len HKS.out
      rw [List.length_take] at hlen
      have hws := HWS.out
      have PP := Lib.hid (fun w h => i_parsePart (.agg #[.slice A l.length c]) l w2 gr r1 s (by rw [hs]; exact HSZ.out _ (List.getElem_mem hqw)) hln ⟨by omega, by omega, by omega⟩ w ⟨_, rfl, HV.out⟩ h)
      have hq0 : (0 : Int) ≤ (q : Int) := by omega
      have hqn : (q : Int) < (n : Int) := by omega
      clear hnc hs hlen hws
      go_wp2_with fail
      refine (PP.out _ P1.out).mono ?_
      intro e w5 hp
      cases hpp : partP l r1 s with
      | none =>
        rw [hpp] at hp
        obtain ⟨rfl, hb5⟩ := hp
        have HB5 := Lib.hid hb5
        have hfin : Hid (O = none) := by show _ = _; rw [HO.out]; exact partsP_bad hqw HKS.out (by rw [← HS.out]; exact hpp)
        clear hpp hb5 x1 ny
        go_wp2_with fail
        go_ret
        exact Parsed.no hfin.out HB5.out
      | some r2 =>
        rw [hpp] at hp
        obtain ⟨rfl, hp5, hk5⟩ := hp
        have P5 := Lib.hid hp5
        have X5 := Lib.hid (hk5 _ _ _ (by decide) (by decide) (by decide) (by decide) X1.out)
        have K5 := Lib.hid (KE.out.trans hk5)
        have HKS2 := Lib.hid (partsP_step hqw HKS.out (by rw [← HS.out]; exact hpp))
        clear hpp hp5 hk5 x1 ny
        go_wp2_with fail
        go_roundw
        case rel => exact ⟨q + 1, r2, by omega, by go_num, HKS2.out, P5.out, X5.out, K5.out⟩
        case measure => simp [intOf]; omega
    · obtain rfl : q = n := by omega
      have hfin : Hid (O = some r1) := by
        show _ = _
        have h := HKS.out
        rw [HN.out, List.take_length] at h
        rw [HO.out]; exact h
      go_wp2_with fail
      go_ret
      exact Parsed.yes hfin.out P1.out KE.out

end Go.Proofs.YtkjjgpkegihmhaaGreatDoor

namespace Go.Proofs.YtkjjgpkegihmhaaGreatDoor
open Go.RowKit
set_option maxRecDepth 100000

def MadeP (E : TypeId) (size n : Nat) (cs : List Value) (ok : Bool) (w : World) (e : Ending) (w' : World) : Prop :=
  ∃ v, e = .returned (.tuple #[v, .bool ok]) ∧ w'.ownsRow w.heap.size E size v n cs ∧ Below w.heap.size w w'
theorem ret_pair {v : Value} {a b : Bool} (h : a = b) : Ending.returned (.tuple #[v, .bool a]) = .returned (.tuple #[v, .bool b]) := by rw [h]

theorem unhexI_eq (x : UInt8) : unhexI x = if 48 ≤ x.toNat ∧ x.toNat ≤ 57 then (x.toNat : Int) - 48 else if 97 ≤ x.toNat ∧ x.toNat ≤ 102 then (x.toNat : Int) - 87 else -1 := by
  unfold unhexI unhex
  split
  · rename_i h
    split at h
    · injection h; rw [if_pos (by assumption)]; omega
    · split at h
      · injection h; rw [if_neg (by assumption), if_pos (by assumption)]; omega
      · cases h
  · rename_i h
    split at h
    · cases h
    · split at h
      · cases h
      · rw [if_neg (by assumption), if_neg (by assumption)]
theorem cB_pair (a b : Nat) (ha : a < 16) (hb : b < 16) : cB [byteOf a b] = [.int .u8 ((a : Int) * 16 + (b : Int))] := by
  simp [cB, byteOf, Nat.toUInt8, UInt8.toNat_ofNat']
  omega
theorem i64_or_nibble (a b : Nat) (ha : a < 16) (hb : b < 16) : bits .or .i64 ((a : Int) * 16) (b : Int) = (a : Int) * 16 + b := by
  have hd : ∀ a < 16, ∀ b < 16, bits .or .i64 (((a : Nat) : Int) * 16) ((b : Nat) : Int) = ((a : Nat) : Int) * 16 + ((b : Nat) : Int) := by decide +kernel
  exact hd a ha b hb

set_option maxHeartbeats 1000000 in
theorem s_l2Digit (x : UInt8) (w : World) :
    Calls Tryz.prog 106 #[.int .u8 (x.toNat : Int)] w fun e w' => e = .returned (.int .i64 (unhexI x)) ∧ w = w' := by
  have hu : x.toNat < 256 := x.toNat_lt
  rcases (by omega : x.toNat < 48 ∨ (48 ≤ x.toNat ∧ x.toNat ≤ 57) ∨ (57 < x.toNat ∧ x.toNat < 97) ∨ (97 ≤ x.toNat ∧ x.toNat ≤ 102) ∨ 102 < x.toNat) with h | ⟨h, h'⟩ | ⟨h, h'⟩ | ⟨h, h'⟩ | h
  all_goals
    have hfin : Hid (unhexI x = if 48 ≤ x.toNat ∧ x.toNat ≤ 57 then (x.toNat : Int) - 48 else if 97 ≤ x.toNat ∧ x.toNat ≤ 102 then (x.toNat : Int) - 87 else -1) := unhexI_eq x
  · go_enter Tryz.func106, Tryz.ntmps106
    go_wp2_with fail
    go_ret
    exact ⟨ret_int (by rw [hfin.out, if_neg (by omega), if_neg (by omega)]), rfl⟩
  · go_enter Tryz.func106, Tryz.ntmps106
    go_wp2_with fail
    go_ret
    exact ⟨ret_int (by rw [hfin.out, if_pos (by omega)]), rfl⟩
  · go_enter Tryz.func106, Tryz.ntmps106
    go_wp2_with fail
    go_ret
    exact ⟨ret_int (by rw [hfin.out, if_neg (by omega), if_neg (by omega)]), rfl⟩
  · go_enter Tryz.func106, Tryz.ntmps106
    go_wp2_with fail
    go_ret
    exact ⟨ret_int (by rw [hfin.out, if_neg (by omega), if_pos (by omega)]; omega), rfl⟩
  · go_enter Tryz.func106, Tryz.ntmps106
    go_wp2_with fail
    go_ret
    exact ⟨ret_int (by rw [hfin.out, if_neg (by omega), if_neg (by omega)]), rfl⟩

set_option maxHeartbeats 1000000 in
theorem i_hexValue (x : UInt8) (w : World) :
    Calls Tryz.prog 114 #[.int .u8 (x.toNat : Int)] w fun e w' => e = .returned (.int .i64 (unhexI x)) ∧ w = w' := by
  have hu : x.toNat < 256 := x.toNat_lt
  rcases (by omega : x.toNat < 48 ∨ (48 ≤ x.toNat ∧ x.toNat ≤ 57) ∨ (57 < x.toNat ∧ x.toNat < 97) ∨ (97 ≤ x.toNat ∧ x.toNat ≤ 102) ∨ 102 < x.toNat) with h | ⟨h, h'⟩ | ⟨h, h'⟩ | ⟨h, h'⟩ | h
  all_goals
    have hfin : Hid (unhexI x = if 48 ≤ x.toNat ∧ x.toNat ≤ 57 then (x.toNat : Int) - 48 else if 97 ≤ x.toNat ∧ x.toNat ≤ 102 then (x.toNat : Int) - 87 else -1) := unhexI_eq x
  · go_enter Tryz.func114, Tryz.ntmps114
    go_wp2_with fail
    go_ret
    exact ⟨ret_int (by rw [hfin.out, if_neg (by omega), if_neg (by omega)]), rfl⟩
  · go_enter Tryz.func114, Tryz.ntmps114
    go_wp2_with fail
    go_ret
    exact ⟨ret_int (by rw [hfin.out, if_pos (by omega)]), rfl⟩
  · go_enter Tryz.func114, Tryz.ntmps114
    go_wp2_with fail
    go_ret
    exact ⟨ret_int (by rw [hfin.out, if_neg (by omega), if_neg (by omega)]), rfl⟩
  · go_enter Tryz.func114, Tryz.ntmps114
    go_wp2_with fail
    go_ret
    exact ⟨ret_int (by rw [hfin.out, if_neg (by omega), if_pos (by omega)]; omega), rfl⟩
  · go_enter Tryz.func114, Tryz.ntmps114
    go_wp2_with fail
    go_ret
    exact ⟨ret_int (by rw [hfin.out, if_neg (by omega), if_neg (by omega)]), rfl⟩

theorem q_hexValue (x : UInt8) (w : World) : Calls Tryz.prog 114 #[.int .u8 (x.toNat : Int)] w fun e w' => e = .returned (.int .i64 (unhexI x)) ∧ w' = w :=
  (i_hexValue x w).mono fun _ _ ⟨h, h'⟩ => ⟨h, h'.symm⟩

set_option maxHeartbeats 2000000 in
theorem i_ParseHex (s : ByteArray) (hs : s.size ≤ 4194304) (w : World) :
    Calls Tryz.prog 83 #[.string s] w (MadeP 5 1 (parseB s.data.toList).length (cB (parseB s.data.toList)) (parseBOk s.data.toList) w) := by
  obtain ⟨i0, hi, hz0, hz1, hz2⟩ := info_parts info_Byte
  by_cases hodd : s.size % 2 = 0
  · have hm : ((s.size : Int) % 2 != 0) = false := by simp; omega
    have hm2 : ((s.size : Int) % 2 == 0) = true := by simp; omega
    go_enter Tryz.func83, Tryz.ntmps83
    go_wp2_with fail
    have hown0 := World.ownsRow_lit (base := w.heap.size) (e := 5) (size := 1) w #[] 0 (Nat.le_refl _) (Nat.zero_le _) rfl
    go_loopw [4, 5, 6, 7] (fun o i _ _ wr => ∃ (k : Nat) (t : List UInt8), k ≤ s.size ∧ k % 2 = 0 ∧ i = .int .i64 k ∧ t.length = k / 2 ∧ parseHex (s.data.toList.take k) = some t ∧ wr.ownsRow w.heap.size 5 1 o t.length (cB t) ∧ Below w.heap.size w wr)
      (fun _ i _ _ _ => s.size - (intOf i).toNat)
    case atStart => exact ⟨0, [], Nat.zero_le _, rfl, rfl, rfl, rfl, hown0, (Below.refl _ _).alloc (Nat.le_refl _) _⟩
    case round =>
      obtain ⟨k, t, hk, hk2, rfl, htl, hpt, hownr, hbr⟩ := hrel
      have HP := Lib.hid hpt
      clear hown0 hpt
      by_cases hlt : k < s.size
      · have hlt1 : k + 1 < s.size := by omega
        have HX := Lib.hid (get_list s k hlt)
        have HY := Lib.hid (get_list s (k + 1) hlt1)
        have hlti : (k : Int) < (s.size : Int) := by omega
        have hlti1 : (k : Int) + 1 < (s.size : Int) := by omega
        have HO := Lib.hid hownr
        have HB := Lib.hid hbr
        have HK := Lib.hid hk2
        have HT := Lib.hid htl
        clear hownr hbr hk2 htl
        cases hux : unhex s[k] with
        | none =>
          have hfin := Lib.hid (parse_bad (by rw [len_of]; omega) HK.out HX.out HY.out (.inl hux))
          have hi1 : unhexI s[k] = -1 := by unfold unhexI; rw [hux]
          clear hux
          go_wp2_with fail
          have hw0 : (0 : Int) ≤ (k : Int) + 1 := by omega
          have hw1 : ((k : Int) + 1).toNat = k + 1 := by omega
          have hw2 : IntKind.i64.wrap ((k : Int) + 1) = (k : Int) + 1 := IntWalk.i64_in _ (by omega)
          go_quiet ((go_at_call 114; exact Calls.quiet_of_same (q_hexValue _ _)))
          clear hw2
          go_wp2_with fail
          go_ret2
          refine ⟨_, ret_pair (by unfold parseBOk; rw [hfin.out]; rfl), ?_, (below_drewN HB.out _).alloc HB.out.size _⟩
          unfold parseB
          rw [hfin.out]
          exact World.ownsRow_lit (base := w.heap.size) (e := 5) (size := 1) _ #[] 0 (by have := HB.out.size; simpa using this) (Nat.zero_le _) rfl
        | some a =>
          have hi1 : unhexI s[k] = (a : Int) := by unfold unhexI; rw [hux]
          have ha := unhex_lt hux
          have HUX := Lib.hid hux
          clear hux
          cases huy : unhex s[k + 1] with
          | none =>
            have hfin := Lib.hid (parse_bad (by rw [len_of]; omega) HK.out HX.out HY.out (.inr huy))
            have hi2 : unhexI s[k + 1] = -1 := by unfold unhexI; rw [huy]
            clear huy
            go_wp2_with fail
            have hw0 : (0 : Int) ≤ (k : Int) + 1 := by omega
            have hw1 : ((k : Int) + 1).toNat = k + 1 := by omega
            have hw2 : IntKind.i64.wrap ((k : Int) + 1) = (k : Int) + 1 := IntWalk.i64_in _ (by omega)
            go_quiet ((go_at_call 114; exact Calls.quiet_of_same (q_hexValue _ _)))
            clear hw2
            go_wp2_with fail
            go_ret2
            refine ⟨_, ret_pair (by unfold parseBOk; rw [hfin.out]; rfl), ?_, (below_drewN HB.out _).alloc HB.out.size _⟩
            unfold parseB
            rw [hfin.out]
            exact World.ownsRow_lit (base := w.heap.size) (e := 5) (size := 1) _ #[] 0 (by have := HB.out.size; simpa using this) (Nat.zero_le _) rfl
          | some b =>
            have hi2 : unhexI s[k + 1] = (b : Int) := by unfold unhexI; rw [huy]
            have hb := unhex_lt huy
            have HN := Lib.hid (parse_good HK.out HX.out HY.out HUX.out huy HP.out)
            have hlit := Lib.hid (Rd.lit wr (cB [byteOf a b]) 5 1 rfl (by unfold maxLen; omega))
            have htk : t.length ≤ 4194304 := by have := HT.out; omega
            have hcb := Lib.hid (cB_pair a b ha hb)
            clear huy
            have hor := i64_or_nibble a b ha hb
            go_wp2_with fail
            have hw0 : (0 : Int) ≤ (k : Int) + 1 := by omega
            have hw1 : ((k : Int) + 1).toNat = k + 1 := by omega
            have hw2 : IntKind.i64.wrap ((k : Int) + 1) = (k : Int) + 1 := IntWalk.i64_in _ (by omega)
            go_quiet ((go_at_call 114; exact Calls.quiet_of_same (q_hexValue _ _)))
            clear hw2
            go_wp2_with (at_builtin; refine wpList_append_rd _ rfl (.tmp 36) (.tmp 42) 26 rfl w.heap.size 5 i0 (.int .u8 0) 1 1 Tryz.underlying26 hi hz0 hz1 hz2 rfl (by decide) _ t.length (cB t) rfl (HO.out.alloc _) _ 1 (cB [byteOf a b]) rfl ?c1 (cB_one _) (by unfold maxLen; omega) (by omega) (by have := HB.out.size; simp; omega) ?_)
            case c1 => rw [← hcb.out]; exact hlit.out
            intro v' w' hown' hgrow' _
            have HB' : Hid (Below w.heap.size w w') := own_grown_below ((below_drewN HB.out _).alloc HB.out.size _) (HO.out.alloc _) hgrow' (by have := HB.out.size; simp; omega) (Nat.le_refl _)
            have HO' := Lib.hid hown'
            clear hgrow' hown'
            go_wp2_with fail
            go_roundw
            case rel => exact ⟨k + 2, _, by omega, by have := HK.out; omega, by go_num, by have := HT.out; simp; omega, HN.out, by rw [cB_append, List.length_append]; exact HO'.out, HB'.out⟩
            case measure => simp [intOf]; omega
      · obtain rfl : k = s.size := by omega
        have hpt := HP.out
        rw [List.take_of_length_le (by rw [len_of]; exact Nat.le_refl _)] at hpt
        have HPT := Lib.hid hpt
        have HO := Lib.hid hownr
        have HB := Lib.hid hbr
        clear hpt hownr hbr hk2 htl
        go_wp2_with fail
        go_ret2
        refine ⟨_, ret_pair (by unfold parseBOk; rw [HPT.out]; rfl), ?_, HB.out⟩
        unfold parseB
        rw [HPT.out]
        exact HO.out
  · have hm : ((s.size : Int) % 2 != 0) = true := by simp; omega
    have hm2 : ((s.size : Int) % 2 == 0) = false := by simp; omega
    have hfin := Lib.hid (parse_odd (s.size / 2) s.data.toList (by rw [len_of]; omega))
    clear hodd
    go_enter Tryz.func83, Tryz.ntmps83
    go_wp2_with fail
    go_ret2
    refine ⟨_, ret_pair (by unfold parseBOk; rw [hfin.out]; rfl), ?_, (Below.refl _ _).alloc (Nat.le_refl _) _⟩
    unfold parseB
    rw [hfin.out]
    exact World.ownsRow_lit (base := w.heap.size) (e := 5) (size := 1) _ #[] 0 (Nat.le_refl _) (Nat.zero_le _) rfl

set_option maxHeartbeats 2000000 in
theorem s_ParseHex (s : ByteArray) (hs : s.size ≤ 4194304) (w : World) :
    Calls Tryz.prog 70 #[.string s] w (MadeP 5 1 (parseB s.data.toList).length (cB (parseB s.data.toList)) (parseBOk s.data.toList) w) := by
  obtain ⟨i0, hi, hz0, hz1, hz2⟩ := info_parts info_Byte
  by_cases hodd : s.size % 2 = 0
  · have hm : ((s.size : Int) % 2 != 0) = false := by simp; omega
    have hm2 : ((s.size : Int) % 2 == 0) = true := by simp; omega
    go_enter Tryz.func70, Tryz.ntmps70
    go_wp2_with fail
    have hown0 := World.ownsRow_lit (base := w.heap.size) (e := 5) (size := 1) w #[] 0 (Nat.le_refl _) (Nat.zero_le _) rfl
    go_loopw [4, 5, 6, 7] (fun o i _ _ wr => ∃ (k : Nat) (t : List UInt8), k ≤ s.size ∧ k % 2 = 0 ∧ i = .int .i64 k ∧ t.length = k / 2 ∧ parseHex (s.data.toList.take k) = some t ∧ wr.ownsRow w.heap.size 5 1 o t.length (cB t) ∧ Below w.heap.size w wr)
      (fun _ i _ _ _ => s.size - (intOf i).toNat)
    case atStart => exact ⟨0, [], Nat.zero_le _, rfl, rfl, rfl, rfl, hown0, (Below.refl _ _).alloc (Nat.le_refl _) _⟩
    case round =>
      obtain ⟨k, t, hk, hk2, rfl, htl, hpt, hownr, hbr⟩ := hrel
      have HP := Lib.hid hpt
      clear hown0 hpt
      by_cases hlt : k < s.size
      · have hlt1 : k + 1 < s.size := by omega
        have HX := Lib.hid (get_list s k hlt)
        have HY := Lib.hid (get_list s (k + 1) hlt1)
        have hlti : (k : Int) < (s.size : Int) := by omega
        have hlti1 : (k : Int) + 1 < (s.size : Int) := by omega
        have HO := Lib.hid hownr
        have HB := Lib.hid hbr
        have HK := Lib.hid hk2
        have HT := Lib.hid htl
        clear hownr hbr hk2 htl
        cases hux : unhex s[k] with
        | none =>
          have hfin := Lib.hid (parse_bad (by rw [len_of]; omega) HK.out HX.out HY.out (.inl hux))
          have hi1 : unhexI s[k] = -1 := by unfold unhexI; rw [hux]
          clear hux
          go_wp2_with (go_at_call 106; refine (s_l2Digit _ _).mono ?_; rintro e w' ⟨rfl, rfl⟩)
          go_ret2
          refine ⟨_, ret_pair (by unfold parseBOk; rw [hfin.out]; rfl), ?_, HB.out.alloc HB.out.size _⟩
          unfold parseB
          rw [hfin.out]
          exact World.ownsRow_lit (base := w.heap.size) (e := 5) (size := 1) _ #[] 0 (by have := HB.out.size; simpa using this) (Nat.zero_le _) rfl
        | some a =>
          have hi1 : unhexI s[k] = (a : Int) := by unfold unhexI; rw [hux]
          have ha := unhex_lt hux
          have HUX := Lib.hid hux
          clear hux
          cases huy : unhex s[k + 1] with
          | none =>
            have hfin := Lib.hid (parse_bad (by rw [len_of]; omega) HK.out HX.out HY.out (.inr huy))
            have hi2 : unhexI s[k + 1] = -1 := by unfold unhexI; rw [huy]
            clear huy
            go_wp2_with (go_at_call 106; refine (s_l2Digit _ _).mono ?_; rintro e w' ⟨rfl, rfl⟩)
            go_ret2
            refine ⟨_, ret_pair (by unfold parseBOk; rw [hfin.out]; rfl), ?_, HB.out.alloc HB.out.size _⟩
            unfold parseB
            rw [hfin.out]
            exact World.ownsRow_lit (base := w.heap.size) (e := 5) (size := 1) _ #[] 0 (by have := HB.out.size; simpa using this) (Nat.zero_le _) rfl
          | some b =>
            have hi2 : unhexI s[k + 1] = (b : Int) := by unfold unhexI; rw [huy]
            have hb := unhex_lt huy
            have HN := Lib.hid (parse_good HK.out HX.out HY.out HUX.out huy HP.out)
            have hlit := Lib.hid (Rd.lit wr (cB [byteOf a b]) 5 1 rfl (by unfold maxLen; omega))
            have htk : t.length ≤ 4194304 := by have := HT.out; omega
            have hcb := Lib.hid (cB_pair a b ha hb)
            clear huy
            go_wp2_with (first | (go_at_call 106; refine (s_l2Digit _ _).mono ?_; rintro e w' ⟨rfl, rfl⟩) | (at_builtin; refine wpList_append_rd _ rfl (.tmp 36) (.tmp 42) 26 rfl w.heap.size 5 i0 (.int .u8 0) 1 1 Tryz.underlying26 hi hz0 hz1 hz2 rfl (by decide) _ t.length (cB t) rfl (HO.out.alloc _) _ 1 (cB [byteOf a b]) rfl ?c1 (cB_one _) (by unfold maxLen; omega) (by omega) (by have := HB.out.size; simp; omega) ?_))
            case c1 => rw [← hcb.out]; exact hlit.out
            intro v' w' hown' hgrow' _
            have HB' : Hid (Below w.heap.size w w') := own_grown_below (HB.out.alloc HB.out.size _) (HO.out.alloc _) hgrow' (by have := HB.out.size; simp; omega) (Nat.le_refl _)
            have HO' := Lib.hid hown'
            clear hgrow' hown'
            go_wp2_with fail
            go_roundw
            case rel => exact ⟨k + 2, _, by omega, by have := HK.out; omega, by go_num, by have := HT.out; simp; omega, HN.out, by rw [cB_append, List.length_append]; exact HO'.out, HB'.out⟩
            case measure => simp [intOf]; omega
      · obtain rfl : k = s.size := by omega
        have hpt := HP.out
        rw [List.take_of_length_le (by rw [len_of]; exact Nat.le_refl _)] at hpt
        have HPT := Lib.hid hpt
        have HO := Lib.hid hownr
        have HB := Lib.hid hbr
        clear hpt hownr hbr hk2 htl
        go_wp2_with fail
        go_ret2
        refine ⟨_, ret_pair (by unfold parseBOk; rw [HPT.out]; rfl), ?_, HB.out⟩
        unfold parseB
        rw [HPT.out]
        exact HO.out
  · have hm : ((s.size : Int) % 2 != 0) = true := by simp; omega
    have hm2 : ((s.size : Int) % 2 == 0) = false := by simp; omega
    have hfin := Lib.hid (parse_odd (s.size / 2) s.data.toList (by rw [len_of]; omega))
    clear hodd
    go_enter Tryz.func70, Tryz.ntmps70
    go_wp2_with fail
    go_ret2
    refine ⟨_, ret_pair (by unfold parseBOk; rw [hfin.out]; rfl), ?_, (Below.refl _ _).alloc (Nat.le_refl _) _⟩
    unfold parseB
    rw [hfin.out]
    exact World.ownsRow_lit (base := w.heap.size) (e := 5) (size := 1) _ #[] 0 (Nat.le_refl _) (Nat.zero_le _) rfl

end Go.Proofs.YtkjjgpkegihmhaaGreatDoor

namespace Go.Proofs.YtkjjgpkegihmhaaGreatDoor
open Go.RowKit
set_option linter.unusedVariables false

set_option maxRecDepth 100000 in
set_option maxHeartbeats 4000000 in
theorem i_kindNamed (s : ByteArray) (w : World) :
    Calls Tryz.prog 39 #[.string s] w fun e w' => e = .returned (.int .i64 (kindOf s)) ∧ Below w.heap.size w w' := by
  obtain ⟨F, hF⟩ : ∃ F, F = kindOf s := ⟨_, rfl⟩
  rw [← hF]
  have HF := Lib.hid hF
  clear hF
  go_enter Tryz.func39, Tryz.ntmps39
  go_wp2_with fail
  go_loopw [3] (fun i wr => ∃ k : Nat, k ≤ 10 ∧ i = .int .i64 ((k : Int) + 1) ∧ (∀ j, j < k → kindNat (j + 1) ≠ s) ∧ Below w.heap.size w wr) (fun i _ => 11 - (intOf i).toNat)
  case atStart => exact ⟨0, by omega, rfl, fun j h => absurd h (by omega), Below.refl _ _⟩
  case round =>
    obtain ⟨k, hk, rfl, hno, hbr⟩ := hrel
    have HO := Lib.hid hno
    have HB := Lib.hid hbr
    clear hno hbr
    by_cases hlt : k < 10
    · have d0 : decide ((k : Int) + 1 ≤ 10) = true := by simp; omega
      obtain ⟨nm, hnm⟩ : ∃ nm, nm = kindNat (k + 1) := ⟨_, rfl⟩
      have kn := fun w => i_KindName ((k : Int) + 1) w
      rw [kindName_nat, ← hnm] at kn
      have KN := Lib.hid kn
      have HNM := Lib.hid hnm
      clear kn hnm
      go_wp2_with fail
      refine (KN.out _).mono ?_
      rintro e w5 ⟨rfl, hb5⟩
      have B5 := Lib.hid (Below.then_ HB.out hb5 (Nat.le_refl _))
      clear hb5
      by_cases he : nm = s
      · have hq : (nm.toList == s.toList) = true := by rw [he]; simp
        have hfin : Hid ((k : Int) + 1 = F) := by show _ = _; rw [HF.out]; exact (kindUpto_at (Nat.le_refl _) hlt (by rw [← HNM.out]; exact he)).symm
        clear he
        go_wp2_with fail
        go_ret
        exact ⟨ret_int hfin.out, B5.out⟩
      · have hq := str_ne he
        have hall : Hid (∀ j, j < k + 1 → kindNat (j + 1) ≠ s) := by
          intro j hj
          rcases Nat.lt_or_ge j k with h1 | h1
          · exact HO.out j h1
          · obtain rfl : j = k := by omega
            rw [← HNM.out]; exact he
        clear he
        go_wp2_with fail
        go_roundw
        case rel => exact ⟨k + 1, by omega, by simp, hall.out, B5.out⟩
        case measure => simp [intOf]; omega
    · obtain rfl : k = 10 := by omega
      have hfin : Hid ((0 : Int) = F) := by show _ = _; rw [HF.out]; exact (kindUpto_none HO.out).symm
      go_wp2_with fail
      go_ret
      exact ⟨ret_int hfin.out, HB.out⟩

end Go.Proofs.YtkjjgpkegihmhaaGreatDoor

namespace Go.Proofs.YtkjjgpkegihmhaaGreatDoor
open Go.RowKit
set_option linter.unusedVariables false

set_option maxRecDepth 100000 in
set_option maxHeartbeats 8000000 in
theorem i_parseKids_bad (d : Value) (l : List RuleD) (gr : Nat) (va : Value) (ws : List ByteArray) (h0 : 0 < ws.length) (hws : ws.length ≤ 4194304) (hbad : ¬ (0 : Int) ≤ findL l ws[0]) (w : World) (hd : RdDesc w d l) (hv : Rd w va 1 ws.length (cS ws)) :
    Calls Tryz.prog 84 #[d, .pointer (some ⟨gr, 0, none⟩), va] w fun e w' => e = .returned (.bool false) ∧ Below w.heap.size w w' := by
  obtain ⟨v, rfl, hdv⟩ := hd
  obtain ⟨A, c, rfl, hnc, hcm, hcell⟩ := hdv.all
  obtain ⟨hvl, Av, cv, rfl, hvc, hvm, _⟩ := id hv
  unfold maxLen at hcm hvm
  have HV := Lib.hid hdv
  obtain ⟨bn, on, rfl, hnc2⟩ := texts_at hv h0
  have hy := hnc2 0 h0
  rw [Nat.add_zero] at hy
  obtain ⟨s, hs⟩ : ∃ s, s = ws[0] := ⟨_, rfl⟩
  rw [← hs] at hy hbad
  have HY := Lib.hid hy
  have x0 : Box (w.alloc (.cells #[.slice A l.length c] 35)) w.heap.size 35 #[.slice A l.length c] := Box.new w _ _
  have X0 := Lib.hid x0
  have B0 := Lib.hid (show Below w.heap.size w (w.alloc (.cells #[.slice A l.length c] 35)) from below_box)
  obtain ⟨n, hn⟩ : ∃ n, n = ws.length := ⟨_, rfl⟩
  have HN := Lib.hid hn
  rw [← hn] at hws hvc h0 ⊢
  have pk := fun w h => i_ParseKid (.agg #[.slice A l.length c]) l s w h
  obtain ⟨f, hf⟩ : ∃ f, f = findL l s := ⟨_, rfl⟩
  have hfr := findL_range l s
  rw [← hf] at pk hfr hbad
  have hfm : max 0 f = 0 := by omega
  rw [hfm, decide_eq_false hbad] at pk
  have PK := Lib.hid pk
  have hq0 : (0 : Int) ≤ 0 := by omega
  have hqn : (0 : Int) < (n : Int) := by omega
  clear hcell hdv hv hvl hn hnc2 hs hf x0 pk hfm hy
  go_enter Tryz.func84, Tryz.ntmps84
  go_wp2_with fail
  go_loopw [13] (fun i wr => i = .int .i64 0 ∧ Box wr w.heap.size 35 #[.slice A l.length c] ∧ Below w.heap.size w wr) (fun i _ => n - (intOf i).toNat)
  case atStart => exact ⟨rfl, X0.out, B0.out⟩
  case round =>
    obtain ⟨rfl, hbx, hbr⟩ := hrel
    have x1 := hbx.cell 0
    have ny := cell_after HY.out hbr
    have HB := Lib.hid hbr
    clear hbx hbr
    go_wp2_with fail
    refine (PK.out _ ⟨_, rfl, HV.out.below HB.out⟩).mono ?_
    rintro e w5 ⟨rfl, hb5⟩
    have B5 := Lib.hid (Below.then_ HB.out hb5 (Nat.le_refl _))
    clear hb5 x1 ny
    go_wp2_with fail
    go_ret
    exact ⟨rfl, B5.out⟩

end Go.Proofs.YtkjjgpkegihmhaaGreatDoor
