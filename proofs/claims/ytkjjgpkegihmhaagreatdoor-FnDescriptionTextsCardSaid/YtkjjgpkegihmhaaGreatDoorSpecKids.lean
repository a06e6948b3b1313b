/-
  l6Kids, l6Pairs, l6Tags of the reference.
-/
import Derived.Test.YtkjjgpkegihmhaaGreatDoorGE
import Derived.Test.YtkjjgpkegihmhaaGreatDoorGF
import Derived.Test.YtkjjgpkegihmhaaGreatDoorGI
import Derived.Test.YtkjjgpkegihmhaaGreatDoorGB
import Derived.Test.YtkjjgpkegihmhaaGreatDoorGA
namespace Go.Proofs.YtkjjgpkegihmhaaGreatDoor
open Go.RowKit
set_option linter.unusedVariables false

def MadeO (o : Option (List Int)) (n : Nat) (w : World) (e : Ending) (w' : World) : Prop :=
  ∃ v xs, e = .returned (.tuple #[v, .bool o.isSome]) ∧ w'.ownsRow w.heap.size 3 1 v xs.length (cI xs) ∧ Below w.heap.size w w' ∧ (∀ ys, o = some ys → xs = ys) ∧ xs.length ≤ n
theorem MadeO.yes {o : Option (List Int)} {n : Nat} {w w' : World} {v : Value} {xs : List Int} (ho : o = some xs) (h : w'.ownsRow w.heap.size 3 1 v xs.length (cI xs)) (hb : Below w.heap.size w w') (hn : xs.length ≤ n) : MadeO o n w (.returned (.tuple #[v, .bool true])) w' := by
  subst ho
  exact ⟨v, xs, rfl, h, hb, fun ys e => (by injection e), hn⟩
theorem MadeO.no {o : Option (List Int)} {n : Nat} {w w' : World} {v : Value} {xs : List Int} (ho : o = none) (h : w'.ownsRow w.heap.size 3 1 v xs.length (cI xs)) (hb : Below w.heap.size w w') (hn : xs.length ≤ n) : MadeO o n w (.returned (.tuple #[v, .bool false])) w' := by
  subst ho
  exact ⟨v, xs, rfl, h, hb, fun ys e => (by cases e), hn⟩

set_option maxRecDepth 100000 in
set_option maxHeartbeats 8000000 in
theorem s_l6Kids (d : Value) (l : List RuleD) (va : Value) (ws : List ByteArray) (hws : ws.length ≤ 4194304) (w : World) (hd : RdDesc w d l) (hv : Rd w va 1 ws.length (cS ws)) :
    Calls Tryz.prog 72 #[d, va] w (MadeO (kidsL l ws) ws.length w) := by
  obtain ⟨v, rfl, hdv⟩ := hd
  obtain ⟨A, c, rfl, hnc, hcm, hcell⟩ := hdv.all
  obtain ⟨hvl, Av, cv, rfl, hvc, hvm, _⟩ := id hv
  unfold maxLen at hcm hvm
  have HV := Lib.hid hdv
  have HVA := Lib.hid hv
  obtain ⟨O, hO⟩ : ∃ O, O = kidsL l ws := ⟨_, rfl⟩
  rw [← hO]
  have HO := Lib.hid hO
  obtain ⟨n, hn⟩ : ∃ n, n = ws.length := ⟨_, rfl⟩
  have HN := Lib.hid hn
  rw [← hn] at hws hvc HVA ⊢
  obtain ⟨w0, hw0⟩ : ∃ w0, w0 = w.alloc (.cells #[.slice A l.length c] 35) := ⟨_, rfl⟩
  have x0 : Box w0 w.heap.size 35 #[.slice A l.length c] := by rw [hw0]; exact Box.new w _ _
  have b0 : Below w.heap.size w w0 := by rw [hw0]; exact below_box
  have own0 := World.ownsRow_lit (base := w.heap.size) (e := 3) (size := 1) w0 #[] 0 b0.size (Nat.zero_le _) rfl
  rw [show w0.heap.size = w.heap.size + 1 from by rw [hw0]; simp] at own0
  have X0 := Lib.hid ((x0.alloc (.cells #[] 3)))
  have B0 := Lib.hid (b0.alloc b0.size (.cells #[] 3))
  have O0 := Lib.hid own0
  have W0 := Lib.hid hw0
  obtain ⟨i0, hif, hz0, hz1, hz2⟩ := info_parts info_Int
  clear hcell hdv hv hO hvl hn x0 b0 own0 hw0
  go_enter Tryz.func72, Tryz.ntmps72
  go_wp2_with fail
  rw [← W0.out]
  go_loopw [6, 7] (fun o i wr => ∃ (q : Nat) (ks : List Int), q ≤ n ∧ i = .int .i64 q ∧ kidsL l (ws.take q) = some ks ∧ wr.ownsRow w.heap.size 3 1 o q (cI ks) ∧ Box wr w.heap.size 35 #[.slice A l.length c] ∧ Below w.heap.size w wr) (fun _ i _ => n - (intOf i).toNat)
  case atStart => exact ⟨0, [], Nat.zero_le _, rfl, by simp [kidsL], by simpa [cI] using O0.out, X0.out, B0.out⟩
  case round =>
    obtain ⟨q, ks, hq, rfl, hks, hown, hbx, hbr⟩ := hrel
    have hkl : ks.length = q := by rw [kidsL_len hks, List.length_take]; have := HN.out; omega
    have X1 := Lib.hid hbx
    have HKS := Lib.hid hks
    have OW := Lib.hid hown
    have B1 := Lib.hid hbr
    have HKL := Lib.hid hkl
    have x1 : wr.cell? ⟨w.heap.size, 0, none⟩ = some (.slice A l.length c) := hbx.cell 0
    clear hks hown hbx hbr hkl
    by_cases hlt : q < n
    · have hqw : q < ws.length := by rw [← HN.out]; exact hlt
      obtain ⟨bn, on, rfl, hnc⟩ := texts_at (by have h := HVA.out; rw [HN.out] at h; exact h) (by omega)
      have ny := cell_after (hnc q hqw) B1.out
      obtain ⟨s, hs⟩ : ∃ s, s = ws[q] := ⟨_, rfl⟩
      rw [← hs] at ny
      have HS := Lib.hid hs
      obtain ⟨f, hf⟩ : ∃ f, f = findL l s := ⟨_, rfl⟩
      have pk := fun w h => s_ParseKid (.agg #[.slice A l.length c]) l s w h
      have hfr := findL_range l s
      rw [← hf] at pk hfr
      have HF := Lib.hid hf
      have hq0 : (0 : Int) ≤ (q : Int) := by omega
      have hqn : (q : Int) < (n : Int) := by omega
      have la := later_cell x1
      have lb := later_cell ny
      clear hnc hs hf x1 ny
      by_cases h0 : 0 ≤ f
      · rw [Int.max_eq_right h0, decide_eq_true h0] at pk
        have L1 := Lib.hid (fun x : Later wr => Calls.later (pk x.world ⟨_, rfl, HV.out.below (Below.then_ B1.out x.below (Nat.le_refl _))⟩))
        have HKS2 := Lib.hid (show kidsL l (ws.take (q + 1)) = some (ks ++ [f]) by rw [HF.out, HS.out]; exact kidsL_step hqw HKS.out (by rw [← HS.out, ← HF.out]; exact h0))
        clear pk
        go_wp2_with fail
        refine wp_region_later (by kernel_rfl) (by kernel_rfl) ?_
        repeat (go_big_quiet_step ((go_at_call 108; with_reducible exact L1.out _)))
        refine wpQuiet_nil ?_
        intro w5 hb5
        have X5 := Lib.hid (X1.out.below hb5)
        have O5 := Lib.hid (own_below OW.out hb5)
        have B5 := Lib.hid (Below.then_ B1.out hb5 (Nat.le_refl _))
        clear hb5 la lb
        go_wp2_with (at_builtin; refine wpList_append_rd _ rfl (.tmp 29) (.tmp 31) 28 rfl w.heap.size 3 i0 (.int .i64 0) 1 8 Tryz.underlying28 hif hz0 hz1 hz2 rfl (by decide) _ q (cI ks) rfl (O5.out.alloc _) _ 1 (cI [f]) rfl ?c1 (cI_one _) (by unfold maxLen; omega) (by omega) (by have := B5.out.size; simp; omega) ?_)
        case c1 => exact Rd.lit _ (cI [f]) 3 1 rfl (by unfold maxLen; omega)
        intro v' w6 hown' hgrow' hpos
        have X6 := Lib.hid ((X5.out.alloc (.cells #[.int .i64 f] 3)).grown hgrow' (fun e => own_type (O5.out.alloc (.cells #[.int .i64 f] 3)) (X5.out.alloc (.cells #[.int .i64 f] 3)) (by decide) e.symm))
        have B6 := Lib.hid (own_grown_below (B5.out.alloc B5.out.size _) (O5.out.alloc _) hgrow' (by have := B5.out.size; simp; omega) (Nat.le_refl _))
        have O6 := Lib.hid hown'
        clear hown' hgrow' hpos
        go_wp2_with fail
        go_roundw
        case rel => exact ⟨q + 1, ks ++ [f], by omega, by go_num, HKS2.out, by have h := O6.out; rw [← cI_append] at h; exact h, X6.out, B6.out⟩
        case measure => simp [intOf]; omega
      · have hfm : max 0 f = 0 := by omega
        rw [hfm, decide_eq_false h0] at pk
        have L1 := Lib.hid (fun x : Later wr => Calls.later (pk x.world ⟨_, rfl, HV.out.below (Below.then_ B1.out x.below (Nat.le_refl _))⟩))
        have hfin : Hid (O = none) := by show _ = _; rw [HO.out]; exact kidsL_bad hqw HKS.out (by rw [← HS.out, ← HF.out]; exact h0)
        clear pk hfm
        go_wp2_with fail
        refine wp_region_later (by kernel_rfl) (by kernel_rfl) ?_
        repeat (go_big_quiet_step ((go_at_call 108; with_reducible exact L1.out _)))
        refine wpQuiet_nil ?_
        intro w5 hb5
        have O5 := Lib.hid (own_below OW.out hb5)
        have B5 := Lib.hid (Below.then_ B1.out hb5 (Nat.le_refl _))
        clear hb5 la lb
        go_wp2_with fail
        go_ret2
        exact MadeO.no hfin.out (by rw [HKL.out]; exact O5.out) B5.out (by rw [HKL.out]; omega)
    · obtain rfl : q = n := by omega
      have hfin : Hid (O = some ks) := by
        show _ = _
        have h := HKS.out
        rw [HN.out, List.take_length] at h
        rw [HO.out]; exact h
      clear x1
      go_wp2_with fail
      go_ret2
      exact MadeO.yes hfin.out (by rw [HKL.out]; exact OW.out) B1.out (by rw [HKL.out]; omega)

def tagsO (ws : List ByteArray) : Option (List Int) := if ws.all tagOk = true then some (ws.map tagNum) else none
theorem tagsO_bad {ws : List ByteArray} {q : Nat} (h : q < ws.length) (hb : tagOk ws[q] = false) : tagsO ws = none := by
  unfold tagsO
  rw [if_neg]
  intro ha
  have := List.all_eq_true.1 ha _ (List.getElem_mem h)
  rw [hb] at this
  cases this
theorem all_take {p : ByteArray → Bool} {ws : List ByteArray} {q : Nat} (h : q < ws.length) (ha : (ws.take q).all p = true) (hb : p ws[q] = true) : (ws.take (q + 1)).all p = true := by
  rw [List.take_succ_eq_append_getElem h, List.all_append, ha]
  simp [hb]

set_option maxRecDepth 100000 in
set_option maxHeartbeats 8000000 in
theorem s_l6Tags (va : Value) (ws : List ByteArray) (hws : ws.length ≤ 4194304) (hsz : ∀ s ∈ ws, s.size ≤ 4194304) (w : World) (hv : Rd w va 1 ws.length (cS ws)) :
    Calls Tryz.prog 73 #[va] w (MadeO (tagsO ws) ws.length w) := by
  obtain ⟨hvl, Av, cv, rfl, hvc, hvm, _⟩ := id hv
  unfold maxLen at hvm
  have HVA := Lib.hid hv
  have HSZ := Lib.hid hsz
  obtain ⟨O, hO⟩ : ∃ O, O = tagsO ws := ⟨_, rfl⟩
  rw [← hO]
  have HO := Lib.hid hO
  obtain ⟨n, hn⟩ : ∃ n, n = ws.length := ⟨_, rfl⟩
  have HN := Lib.hid hn
  rw [← hn] at hws hvc HVA ⊢
  have own0 := World.ownsRow_lit (base := w.heap.size) (e := 3) (size := 1) w #[] 0 (Nat.le_refl _) (Nat.zero_le _) rfl
  have O0 := Lib.hid own0
  obtain ⟨i0, hif, hz0, hz1, hz2⟩ := info_parts info_Int
  clear hv hO hvl hn own0 hsz
  go_enter Tryz.func73, Tryz.ntmps73
  go_wp2_with fail
  go_loopw [4, 5] (fun o i wr => ∃ (q : Nat), q ≤ n ∧ i = .int .i64 q ∧ (ws.take q).all tagOk = true ∧ wr.ownsRow w.heap.size 3 1 o q (cI ((ws.take q).map tagNum)) ∧ Below w.heap.size w wr) (fun _ i _ => n - (intOf i).toNat)
  case atStart => exact ⟨0, Nat.zero_le _, rfl, by simp, by simpa [cI] using O0.out, (Below.refl _ _).alloc (Nat.le_refl _) _⟩
  case round =>
    obtain ⟨q, hq, rfl, hks, hown, hbr⟩ := hrel
    have hkl : ((ws.take q).map tagNum).length = q := by rw [List.length_map, List.length_take]; have := HN.out; omega
    have HKS := Lib.hid hks
    have OW := Lib.hid hown
    have B1 := Lib.hid hbr
    have HKL := Lib.hid hkl
    clear hks hown hbr hkl
    by_cases hlt : q < n
    · have hqw : q < ws.length := by rw [← HN.out]; exact hlt
      obtain ⟨bn, on, rfl, hnc⟩ := texts_at (by have h := HVA.out; rw [HN.out] at h; exact h) (by omega)
      have ny := cell_after (hnc q hqw) B1.out
      obtain ⟨s, hs⟩ : ∃ s, s = ws[q] := ⟨_, rfl⟩
      rw [← hs] at ny
      have HS := Lib.hid hs
      have hss : s.size ≤ 4194304 := by rw [hs]; exact HSZ.out _ (List.getElem_mem hqw)
      obtain ⟨num, hnum⟩ : ∃ num, num = tagNum s := ⟨_, rfl⟩
      obtain ⟨iok, hiok⟩ : ∃ iok, iok = tagOk s := ⟨_, rfl⟩
      have pi := fun w => s_ParseInt s (by unfold maxLen; omega) w
      rw [show parseNum s.data.toList = num from hnum.symm, show parseOk s.data.toList = iok from hiok.symm] at pi
      have PI := Lib.hid pi
      have HNUM := Lib.hid hnum
      have HIOK := Lib.hid hiok
      have hq0 : (0 : Int) ≤ (q : Int) := by omega
      have hqn : (q : Int) < (n : Int) := by omega
      clear hnc hs pi hnum hiok hss
      go_wp2_with fail
      refine (PI.out _).mono ?_
      rintro e w5 ⟨rfl, hb5⟩
      have OW5 := Lib.hid (own_below OW.out hb5)
      have B5 := Lib.hid (Below.then_ B1.out hb5 (Nat.le_refl _))
      clear ny hb5
      cases iok
      · have hfin : Hid (O = none) := by show _ = _; rw [HO.out]; exact tagsO_bad hqw (by rw [← HS.out]; exact HIOK.out.symm)
        go_wp2_with fail
        go_ret2
        exact MadeO.no hfin.out (by rw [HKL.out]; exact OW5.out) B5.out (by rw [HKL.out]; omega)
      · go_wp2_with (at_builtin; refine wpList_append_rd _ rfl (.tmp 26) (.tmp 28) 28 rfl w.heap.size 3 i0 (.int .i64 0) 1 8 Tryz.underlying28 hif hz0 hz1 hz2 rfl (by decide) _ q (cI ((ws.take q).map tagNum)) rfl (OW5.out.alloc _) _ 1 (cI [num]) rfl ?c1 (cI_one _) (by unfold maxLen; omega) (by omega) (by have := B5.out.size; simp; omega) ?_)
        case c1 => exact Rd.lit _ (cI [num]) 3 1 rfl (by unfold maxLen; omega)
        intro v' w6 hown' hgrow' hpos
        have B6 := Lib.hid (own_grown_below (B5.out.alloc B5.out.size _) (OW5.out.alloc _) hgrow' (by have := B5.out.size; simp; omega) (Nat.le_refl _))
        have O6 := Lib.hid hown'
        clear hown' hgrow' hpos
        go_wp2_with fail
        go_roundw
        case rel =>
          refine ⟨q + 1, by omega, by go_num, all_take hqw HKS.out (by rw [← HS.out]; exact HIOK.out.symm), ?_, B6.out⟩
          have h := O6.out
          rw [← cI_append] at h
          (try rw [← List.map_take] at h)
          rw [List.take_succ_eq_append_getElem hqw, List.map_append, List.map_cons, List.map_nil, ← HS.out, ← HNUM.out]
          exact h
        case measure => simp [intOf]; omega
    · obtain rfl : q = n := by omega
      have hfin : Hid (O = some ((ws.take q).map tagNum)) := by
        show _ = _
        have h := HKS.out
        rw [HO.out, HN.out, List.take_length]
        rw [HN.out, List.take_length] at h
        unfold tagsO
        rw [if_pos h]
      go_wp2_with fail
      go_ret2
      exact MadeO.yes hfin.out (by rw [HKL.out]; exact OW.out) B1.out (by rw [HKL.out]; omega)

def MadePairs (ws : List ByteArray) (w : World) (e : Ending) (w' : World) : Prop :=
  ∃ va vb xs ys, e = .returned (.tuple #[va, vb, .bool (ws.all sOk)]) ∧ w'.ownsRow w.heap.size 9 1 va xs.length (cS xs) ∧ w'.ownsRow w.heap.size 9 1 vb ys.length (cS ys) ∧ Below w.heap.size w w' ∧
    (ws.all sOk = true → xs = ws.map sLeft ∧ ys = ws.map sRight) ∧ xs.length ≤ ws.length ∧ ys.length ≤ ws.length ∧ ∃ q, xs = (ws.take q).map sLeft ∧ ys = (ws.take q).map sRight

set_option maxRecDepth 100000 in
set_option maxHeartbeats 8000000 in
theorem s_l6Pairs (va : Value) (ws : List ByteArray) (hws : ws.length ≤ 4194304) (hsz : ∀ s ∈ ws, s.size ≤ 4194304) (w : World) (hv : Rd w va 1 ws.length (cS ws)) :
    Calls Tryz.prog 71 #[va] w (MadePairs ws w) := by
  obtain ⟨hvl, Av, cv, rfl, hvc, hvm, _⟩ := id hv
  unfold maxLen at hvm
  have HVA := Lib.hid hv
  have HSZ := Lib.hid hsz
  obtain ⟨n, hn⟩ : ∃ n, n = ws.length := ⟨_, rfl⟩
  have HN := Lib.hid hn
  rw [← hn] at hws hvc HVA ⊢
  obtain ⟨w0, hw0⟩ : ∃ w0, w0 = (w.alloc (.cells #[] 9)).alloc (.cells #[] 9) := ⟨_, rfl⟩
  have own0 := (World.ownsRow_lit (base := w.heap.size) (e := 9) (size := 1) w #[] 0 (Nat.le_refl _) (Nat.zero_le _) rfl).alloc (.cells #[] 9)
  have own1 := World.ownsRow_lit (base := w.heap.size) (e := 9) (size := 1) (w.alloc (.cells #[] 9)) #[] 0 (by simp) (Nat.zero_le _) rfl
  rw [← hw0] at own0 own1
  rw [show (w.alloc (.cells #[] 9)).heap.size = w.heap.size + 1 from by simp] at own1
  have b0 : Below w.heap.size w w0 := by rw [hw0]; exact ((Below.refl _ _).alloc (Nat.le_refl _) _).alloc (by simp) _
  have O0 := Lib.hid own0
  have O1 := Lib.hid own1
  have W0 := Lib.hid hw0
  have B0 := Lib.hid b0
  obtain ⟨j0, hjf, hy0, hy1, hy2⟩ := info_parts info_String
  clear hv hvl hn own0 own1 hsz hw0 b0
  go_enter Tryz.func71, Tryz.ntmps71
  go_wp2_with fail
  rw [← W0.out]
  go_loopw [5, 6, 7] (fun a b i wr => ∃ (q : Nat), q ≤ n ∧ i = .int .i64 q ∧ (ws.take q).all sOk = true ∧ wr.ownsRow w.heap.size 9 1 a q (cS ((ws.take q).map sLeft)) ∧ wr.ownsRow w.heap.size 9 1 b q (cS ((ws.take q).map sRight)) ∧ (a.ownBlock = none ∨ a.ownBlock ≠ b.ownBlock) ∧ Below w.heap.size w wr) (fun _ _ i _ => n - (intOf i).toNat)
  case atStart => exact ⟨0, Nat.zero_le _, rfl, by simp, by simpa [cS] using O0.out, by simpa [cS] using O1.out, .inr (by simp [Value.ownBlock]), B0.out⟩
  case round =>
    obtain ⟨q, hq, rfl, hks, howa, howb, hne, hbr⟩ := hrel
    have hkl : ((ws.take q).map sLeft).length = q := by rw [List.length_map, List.length_take]; have := HN.out; omega
    have hkr : ((ws.take q).map sRight).length = q := by rw [List.length_map, List.length_take]; have := HN.out; omega
    have HKS := Lib.hid hks
    have OA := Lib.hid howa
    have OB := Lib.hid howb
    have B1 := Lib.hid hbr
    have HKL := Lib.hid hkl
    have HKR := Lib.hid hkr
    have HNE := Lib.hid hne
    clear hks howa howb hbr hkl hkr hne
    by_cases hlt : q < n
    · have hqw : q < ws.length := by rw [← HN.out]; exact hlt
      obtain ⟨bn, on, rfl, hnc⟩ := texts_at (by have h := HVA.out; rw [HN.out] at h; exact h) (by omega)
      have ny := cell_after (hnc q hqw) B1.out
      obtain ⟨s, hs⟩ : ∃ s, s = ws[q] := ⟨_, rfl⟩
      rw [← hs] at ny
      have HS := Lib.hid hs
      have hss : s.size ≤ 4194304 := by rw [hs]; exact HSZ.out _ (List.getElem_mem hqw)
      obtain ⟨x, hx⟩ : ∃ x, x = sLeft s := ⟨_, rfl⟩
      obtain ⟨y, hy⟩ : ∃ y, y = sRight s := ⟨_, rfl⟩
      obtain ⟨iok, hiok⟩ : ∃ iok, iok = sOk s := ⟨_, rfl⟩
      have cu := fun w => s_CutAt s 58 (by omega) (by unfold maxLen; omega) w
      rw [show (58 : Int).toNat.toUInt8 = (58 : UInt8) from rfl, show mkS (cutLeft s.data.toList 58) = x from hx.symm, show mkS (cutRight s.data.toList 58) = y from hy.symm, show cutOk s.data.toList 58 = iok from hiok.symm] at cu
      have CU := Lib.hid cu
      have HX := Lib.hid hx
      have HY := Lib.hid hy
      have HIOK := Lib.hid hiok
      have hq0 : (0 : Int) ≤ (q : Int) := by omega
      have hqn : (q : Int) < (n : Int) := by omega
      clear hnc hs cu hx hy hiok hss
      go_wp2_with fail
      refine (CU.out _).mono ?_
      rintro e w5 ⟨rfl, hb5⟩
      have OA5 := Lib.hid (own_below OA.out hb5)
      have OB5 := Lib.hid (own_below OB.out hb5)
      have B5 := Lib.hid (Below.then_ B1.out hb5 (Nat.le_refl _))
      clear ny hb5
      cases iok
      · have hfin : Hid (ws.all sOk = false) := by
          show _ = _
          rw [List.all_eq_false]
          exact ⟨_, List.getElem_mem hqw, by rw [← HS.out, ← HIOK.out]; simp⟩
        go_wp2_with fail
        go_ret3
        exact ⟨_, _, _, _, by rw [hfin.out]; rfl, by rw [HKL.out]; exact OA5.out, by rw [HKR.out]; exact OB5.out, B5.out, fun h => (by rw [hfin.out] at h; cases h), by rw [HKL.out]; have := HN.out; omega, by rw [HKR.out]; have := HN.out; omega, q, rfl, rfl⟩
      · go_wp2_with (at_builtin; refine wpList_append_rd _ rfl (.tmp 32) (.tmp 34) 27 rfl w.heap.size 9 j0 (.string ⟨#[]⟩) 1 16 Tryz.underlying27 hjf hy0 hy1 hy2 rfl (by decide) _ q (cS ((ws.take q).map sLeft)) rfl (OA5.out.alloc _) _ 1 (cS [x]) rfl ?c1 (cS_one _) (by unfold maxLen; omega) (by omega) (by have := B5.out.size; simp; omega) ?_)
        case c1 => exact Rd.lit _ (cS [x]) 9 1 rfl (by unfold maxLen; omega)
        intro v' w6 hown' hgrow' hpos
        have B6 := Lib.hid (own_grown_below (B5.out.alloc B5.out.size _) (OA5.out.alloc _) hgrow' (by have := B5.out.size; simp; omega) (Nat.le_refl _))
        have OA6 := Lib.hid hown'
        have hnb := HNE.out
        have OB6 := Lib.hid ((OB5.out.alloc (.cells #[.string x] 9)).kept hgrow' (by
          rcases hnb with h | h
          · rw [h]
            cases hb : Value.ownBlock _ with
            | none => exact .inl rfl
            | some g => exact .inr (by simp)
          · exact .inr (Ne.symm h)))
        have hlt6 := fun g h => (OB5.out.lt g h).2
        have NE6 := Lib.hid (show v'.ownBlock = none ∨ v'.ownBlock ≠ u6.ownBlock from by
          rcases hpos with e | e
          · rw [e]; exact hnb
          · rw [e]
            refine .inr fun e2 => ?_
            have := hlt6 _ e2.symm
            have hz : (w5.alloc (.cells #[.string x] 9)).heap.size = w5.heap.size + 1 := by simp
            omega)
        clear hown' hgrow' hpos hnb hlt6
        go_wp2_with (at_builtin; refine wpList_append_rd _ rfl (.tmp 36) (.tmp 38) 27 rfl w.heap.size 9 j0 (.string ⟨#[]⟩) 1 16 Tryz.underlying27 hjf hy0 hy1 hy2 rfl (by decide) _ q (cS ((ws.take q).map sRight)) rfl (OB6.out.alloc _) _ 1 (cS [y]) rfl ?c2 (cS_one _) (by unfold maxLen; omega) (by omega) (by have := B6.out.size; simp; omega) ?_)
        case c2 => exact Rd.lit _ (cS [y]) 9 1 rfl (by unfold maxLen; omega)
        intro v2 w7 hown' hgrow' hpos
        have B7 := Lib.hid (own_grown_below (B6.out.alloc B6.out.size _) (OB6.out.alloc _) hgrow' (by have := B6.out.size; simp; omega) (Nat.le_refl _))
        have OB7 := Lib.hid hown'
        have OA7 := Lib.hid ((OA6.out.alloc (.cells #[.string y] 9)).kept hgrow' NE6.out)
        have hlt7 := fun g h => (OA6.out.lt g h).2
        have NE7 := Lib.hid (show v'.ownBlock = none ∨ v'.ownBlock ≠ v2.ownBlock from by
          rcases hpos with e | e
          · rw [e]; exact NE6.out
          · rw [e]
            refine .inr fun e2 => ?_
            have := hlt7 _ e2
            have hz : (w6.alloc (.cells #[.string y] 9)).heap.size = w6.heap.size + 1 := by simp
            omega)
        clear hown' hgrow' hpos hlt7
        go_wp2_with fail
        go_roundw
        case rel =>
          refine ⟨q + 1, by omega, by go_num, all_take hqw HKS.out (by rw [← HS.out]; exact HIOK.out.symm), ?_, ?_, NE7.out, B7.out⟩
          · have h := OA7.out
            rw [← cS_append] at h
            (try rw [← List.map_take] at h)
            rw [List.take_succ_eq_append_getElem hqw, List.map_append, List.map_cons, List.map_nil, ← HS.out, ← HX.out]
            exact h
          · have h := OB7.out
            rw [← cS_append] at h
            (try rw [← List.map_take] at h)
            rw [List.take_succ_eq_append_getElem hqw, List.map_append, List.map_cons, List.map_nil, ← HS.out, ← HY.out]
            exact h
        case measure => simp [intOf]; omega
    · obtain rfl : q = n := by omega
      have hfin : Hid (ws.all sOk = true ∧ ws.take q = ws) := by
        have h := HKS.out
        rw [HN.out, List.take_length] at h
        exact ⟨h, by rw [HN.out, List.take_length]⟩
      go_wp2_with fail
      go_ret3
      exact ⟨_, _, _, _, by rw [hfin.out.1]; rfl, by rw [HKL.out]; exact OA.out, by rw [HKR.out]; exact OB.out, B1.out, fun _ => (by rw [hfin.out.2]; exact ⟨rfl, rfl⟩), by rw [HKL.out]; exact Nat.le_of_eq HN.out, by rw [HKR.out]; exact Nat.le_of_eq HN.out, q, rfl, rfl⟩

end Go.Proofs.YtkjjgpkegihmhaaGreatDoor
