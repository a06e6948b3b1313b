/-
  Several texts in one: Fields7, Fields7S, Fields.
-/
import Derived.Test.YtkjjgpkegihmhaaGreatDoorFieldsI
import Derived.Test.YtkjjgpkegihmhaaGreatDoorGI
import Derived.Test.YtkjjgpkegihmhaaGreatDoorGA
import Derived.Deep.RegionWith
import Derived.BigGuard
import Derived.BigRegion
namespace Go.Proofs.YtkjjgpkegihmhaaGreatDoor
open Go.RowKit
set_option linter.unusedVariables false

theorem kidsP_bad1 {l : List RuleD} {r : RuleD} {ws : List ByteArray} (h0 : 0 < ws.length) (h : kidsP l r (ws.take 1) = none) : ¬ (0 : Int) ≤ findL l ((ws.take 1)[0]'(by rw [List.length_take]; omega)) := by
  cases ws with
  | nil => simp at h0
  | cons x t =>
    intro hx
    have hx' : (0 : Int) ≤ findL l x := hx
    simp [kidsP, kidsL, hx'] at h

set_option maxRecDepth 100000 in
set_option maxHeartbeats 8000000 in
theorem i_fields7z (d : Value) (l : List RuleD) (w2 : World) (gr : Nat) (r : RuleD) (va : Value) (ws : List ByteArray) (hkd : r.kind = 7 ∧ ws.length = 0) (hsz : ∀ s ∈ ws, s.size ≤ 4194304) (hln : l.length ≤ 1048576) (hws : r.kids.length + ws.length ≤ 4194304 ∧ r.names.length + ws.length ≤ 4194304 ∧ r.tags.length + ws.length ≤ 4194304) (w : World) (hd : RdDesc w2 d l) (hv : Rd w2 va 1 ws.length (cS ws)) (h : PSt w2 gr r w) :
    Calls Tryz.prog 40 #[d, .pointer (some ⟨gr, 0, none⟩), va] w (Parsed w2 gr (fieldsP l r ws) w) := by
  obtain ⟨v, rfl, hdv⟩ := hd
  obtain ⟨A, c, rfl, hnc, hcm, hcell⟩ := hdv.all
  obtain ⟨hvl, Av, cv, rfl, hvc, hvm, _⟩ := id hv
  unfold maxLen at hcm hvm
  have HV := Lib.hid hdv
  have HVA := Lib.hid hv
  have HSZ := Lib.hid hsz
  have HWS := Lib.hid hws
  obtain ⟨O, hO⟩ : ∃ O, O = fieldsP l r ws := ⟨_, rfl⟩
  rw [← hO]
  have HO := Lib.hid hO
  have P0 := Lib.hid (h.step (w' := w.alloc (.cells #[.slice A l.length c] 35)) ((Below.refl _ _).alloc (Nat.le_refl _) _))
  have K0 := Lib.hid (Keep.alloc w (.cells #[.slice A l.length c] 35))
  obtain ⟨vb, vn, vt, vk, hx, h4⟩ := P0.out.st
  have HX := Lib.hid hx
  have H4 := Lib.hid h4
  have e1 : (w.alloc (.cells #[.slice A l.length c] 35)).cell? ⟨gr, 1, none⟩ = some (.int .i64 r.kind) := hx.cell 1
  obtain ⟨hkd, h0⟩ := hkd
  have HFC := Lib.hid (hO.trans (fields_choice (l := l) (ws := ws) hkd))
  have x3 : (w.alloc (.cells #[.slice A l.length c] 35)).cell? ⟨w.heap.size, 0, none⟩ = some (.slice A l.length c) := (Box.new w 35 _).cell 0
  have X3 := Lib.hid (Box.new w 35 #[.slice A l.length c])
  have hw0 := List.eq_nil_of_length_eq_zero h0
  subst hw0
  have hfin : Hid (O = none) := by show _ = _; rw [HFC.out]; rfl
  have d0 : decide ((0 : Int) < 0) = false := rfl
  clear hcell hdv hv hO hx h4 h hvl hsz hws h0
  go_enter Tryz.func40, Tryz.ntmps40
  go_wp2_with fail
  have lx := later_cell x3
  refine wp_region_later (by kernel_rfl) (by kernel_rfl) ?_
  repeat (go_big_quiet_step (fail))
  refine wpQuiet_nil ?_
  intro w5 hb5
  have P5 := Lib.hid (P0.out.step hb5)
  clear hb5 lx x3
  go_wp2_with fail
  go_ret
  exact Parsed.no hfin.out P5.out.be

set_option maxRecDepth 100000 in
set_option maxHeartbeats 8000000 in
theorem i_fields7n (d : Value) (l : List RuleD) (w2 : World) (gr : Nat) (r : RuleD) (va : Value) (ws : List ByteArray) (hkd : r.kind = 7 ∧ 0 < ws.length ∧ kidsP l r (ws.take 1) = none) (hsz : ∀ s ∈ ws, s.size ≤ 4194304) (hln : l.length ≤ 1048576) (hws : r.kids.length + ws.length ≤ 4194304 ∧ r.names.length + ws.length ≤ 4194304 ∧ r.tags.length + ws.length ≤ 4194304) (w : World) (hd : RdDesc w2 d l) (hv : Rd w2 va 1 ws.length (cS ws)) (h : PSt w2 gr r w) :
    Calls Tryz.prog 40 #[d, .pointer (some ⟨gr, 0, none⟩), va] w (Parsed w2 gr (fieldsP l r ws) w) := by
  obtain ⟨v, rfl, hdv⟩ := hd
  obtain ⟨A, c, rfl, hnc, hcm, hcell⟩ := hdv.all
  obtain ⟨hvl, Av, cv, rfl, hvc, hvm, _⟩ := id hv
  unfold maxLen at hcm hvm
  have HV := Lib.hid hdv
  have HVA := Lib.hid hv
  have HSZ := Lib.hid hsz
  have HWS := Lib.hid hws
  obtain ⟨O, hO⟩ : ∃ O, O = fieldsP l r ws := ⟨_, rfl⟩
  rw [← hO]
  have HO := Lib.hid hO
  have P0 := Lib.hid (h.step (w' := w.alloc (.cells #[.slice A l.length c] 35)) ((Below.refl _ _).alloc (Nat.le_refl _) _))
  have K0 := Lib.hid (Keep.alloc w (.cells #[.slice A l.length c] 35))
  obtain ⟨vb, vn, vt, vk, hx, h4⟩ := P0.out.st
  have HX := Lib.hid hx
  have H4 := Lib.hid h4
  have e1 : (w.alloc (.cells #[.slice A l.length c] 35)).cell? ⟨gr, 1, none⟩ = some (.int .i64 r.kind) := hx.cell 1
  obtain ⟨hkd, h0, hkp⟩ := hkd
  have HFC := Lib.hid (hO.trans (fields_choice (l := l) (ws := ws) hkd))
  have x3 : (w.alloc (.cells #[.slice A l.length c] 35)).cell? ⟨w.heap.size, 0, none⟩ = some (.slice A l.length c) := (Box.new w 35 _).cell 0
  have X3 := Lib.hid (Box.new w 35 #[.slice A l.length c])
  obtain ⟨n, hn⟩ : ∃ n, n = ws.length := ⟨_, rfl⟩
  have HN := Lib.hid hn
  rw [← hn] at hvc HVA h0 ⊢
  have d0 : decide ((0 : Int) < (n : Int)) = true := by simp; omega
  have dn : decide (0 < n) = true := by simp; omega
  have e1 : (0 : Int) ≤ 1 := by omega
  have e2 : (1 : Int) ≤ (n : Int) := by omega
  have e3 : (1 : Int) ≤ (cv : Int) := by omega
  have hfin : Hid (O = none) := by
    show _ = _
    rw [HFC.out]; unfold choiceP
    rw [if_neg (by rintro rfl; simp at hn; omega), hkp]; rfl
  have HF1 := Lib.hid (show Rd w2 (.slice Av 1 cv) 1 1 (cS (ws.take 1)) by
    have h := HVA.out.front (a := 1) (c' := cv) (by omega) (by omega) (by unfold maxLen; omega)
    rw [Nat.mul_one, ← cS_take] at h
    exact h)
  have PKI := Lib.hid (fun w hd hv h => i_parseKids (.agg #[.slice A l.length c]) l w2 gr r (.slice Av 1 cv) (ws.take 1) hln (by have := HWS.out.1; rw [List.length_take]; omega) w hd hv h)
  have HKP := Lib.hid hkp
  have hlt1 : (ws.take 1).length = 1 := by rw [List.length_take]; omega
  have HL1 := Lib.hid hlt1
  have hbad := kidsP_bad1 (by rw [← HN.out]; exact h0) hkp
  have L1 := Lib.hid (fun x : Later (w.alloc (.cells #[.slice A l.length c] 35)) => Calls.later (i_parseKids_bad (.agg #[.slice A l.length c]) l gr (.slice Av 1 cv) (ws.take 1) (by rw [HL1.out]; omega) (by rw [HL1.out]; omega) hbad x.world ⟨_, rfl, HV.out.below (Below.then_ P0.out.be x.below (Nat.le_refl _))⟩ (by rw [HL1.out]; exact HF1.out.below (Below.then_ P0.out.be x.below (Nat.le_refl _)))))
  clear hcell hdv hv hO hx h4 h hvl hsz hws hn hkp hlt1 hbad
  go_enter Tryz.func40, Tryz.ntmps40
  go_wp2_with fail
  have lx := later_cell x3
  refine wp_region_later (by kernel_rfl) (by kernel_rfl) ?_
  repeat (go_big_quiet_step ((go_at_call 84; with_reducible exact L1.out _)))
  refine wpQuiet_nil ?_
  intro w5 hb5
  have P5 := Lib.hid (P0.out.step hb5)
  clear hb5 lx x3
  go_wp2_with fail
  go_ret
  exact Parsed.no hfin.out P5.out.be

end Go.Proofs.YtkjjgpkegihmhaaGreatDoor

namespace Go.Proofs.YtkjjgpkegihmhaaGreatDoor
open Go.RowKit
set_option linter.unusedVariables false

theorem Rd.back_if {w : World} {A : Option Addr} {n c k : Nat} {xs : List ByteArray} (h : Rd w (.slice A n c) 1 n (cS xs)) (hn : n ≤ c) (hc : c ≤ maxLen) (h1 : 1 ≤ n) : Rd w (.slice (if c = k then A else Option.map (fun x : Addr => (⟨x.block, x.off + k, none⟩ : Addr)) A) (n - k) (c - k)) 1 (n - k) (cS (xs.drop k)) := by
  by_cases hk : c = k
  · rw [if_pos hk]
    have h0 : n - k = 0 := by omega
    have hx : xs.drop k = [] := by
      apply List.drop_eq_nil_of_le
      have := h.1
      rw [cS_len] at this
      omega
    rw [h0, hx]
    exact Rd.none_ A _ 1 (by omega)
  · rw [if_neg hk]
    have hb := h.back (k := k) (c' := c - k) (by omega) (by omega)
    rw [Nat.mul_one, ← cS_drop] at hb
    obtain ⟨hl, A', c', e, _, _, hcell⟩ := h
    injection e with e _ _
    subst e
    obtain ⟨b, off, rfl, _⟩ := hcell (by rw [hl]; omega)
    rw [Option.map_some, add_at] at hb
    exact hb

set_option maxRecDepth 100000 in
set_option maxHeartbeats 8000000 in
theorem i_fields7sn (d : Value) (l : List RuleD) (w2 : World) (gr : Nat) (r : RuleD) (va : Value) (ws : List ByteArray) (hkd : r.kind = 7 ∧ 0 < ws.length ∧ ∃ r1, kidsP l r (ws.take 1) = some r1 ∧ partsP l r1 (ws.drop 1) = none) (hsz : ∀ s ∈ ws, s.size ≤ 4194304) (hln : l.length ≤ 1048576) (hws : r.kids.length + ws.length ≤ 4194304 ∧ r.names.length + ws.length ≤ 4194304 ∧ r.tags.length + ws.length ≤ 4194304) (w : World) (hd : RdDesc w2 d l) (hv : Rd w2 va 1 ws.length (cS ws)) (h : PSt w2 gr r w) :
    Calls Tryz.prog 40 #[d, .pointer (some ⟨gr, 0, none⟩), va] w (Parsed w2 gr (fieldsP l r ws) w) := by
  obtain ⟨v, rfl, hdv⟩ := hd
  obtain ⟨A, c, rfl, hnc, hcm, hcell⟩ := hdv.all
  obtain ⟨hvl, Av, cv, rfl, hvc, hvm, _⟩ := id hv
  unfold maxLen at hcm hvm
  have HV := Lib.hid hdv
  have HVA := Lib.hid hv
  have HSZ := Lib.hid hsz
  have HWS := Lib.hid hws
  obtain ⟨O, hO⟩ : ∃ O, O = fieldsP l r ws := ⟨_, rfl⟩
  rw [← hO]
  have HO := Lib.hid hO
  have P0 := Lib.hid (h.step (w' := w.alloc (.cells #[.slice A l.length c] 35)) ((Below.refl _ _).alloc (Nat.le_refl _) _))
  have K0 := Lib.hid (Keep.alloc w (.cells #[.slice A l.length c] 35))
  obtain ⟨vb, vn, vt, vk, hx, h4⟩ := P0.out.st
  have HX := Lib.hid hx
  have H4 := Lib.hid h4
  have e1 : (w.alloc (.cells #[.slice A l.length c] 35)).cell? ⟨gr, 1, none⟩ = some (.int .i64 r.kind) := hx.cell 1
  obtain ⟨hkd, h0, r1, hkp, hpp⟩ := hkd
  have PPE := Lib.hid hpp
  have HFC := Lib.hid (hO.trans (fields_choice (l := l) (ws := ws) hkd))
  have x3 : (w.alloc (.cells #[.slice A l.length c] 35)).cell? ⟨w.heap.size, 0, none⟩ = some (.slice A l.length c) := (Box.new w 35 _).cell 0
  have X3 := Lib.hid (Box.new w 35 #[.slice A l.length c])
  obtain ⟨n, hn⟩ : ∃ n, n = ws.length := ⟨_, rfl⟩
  have HN := Lib.hid hn
  rw [← hn] at hvc HVA h0 ⊢
  have d0 : decide ((0 : Int) < (n : Int)) = true := by simp; omega
  have dn : decide (0 < n) = true := by simp; omega
  have e1 : (0 : Int) ≤ 1 := by omega
  have e2 : (1 : Int) ≤ (n : Int) := by omega
  have e3 : (1 : Int) ≤ (cv : Int) := by omega
  have hfin : Hid (O = partsP l r1 (ws.drop 1)) := by
    show _ = _
    rw [HFC.out]; unfold choiceP
    rw [if_neg (by rintro rfl; simp at hn; omega), hkp]; rfl
  have HF1 := Lib.hid (show Rd w2 (.slice Av 1 cv) 1 1 (cS (ws.take 1)) by
    have h := HVA.out.front (a := 1) (c' := cv) (by omega) (by omega) (by unfold maxLen; omega)
    rw [Nat.mul_one, ← cS_take] at h
    exact h)
  have PKI := Lib.hid (fun w hd hv h => i_parseKids (.agg #[.slice A l.length c]) l w2 gr r (.slice Av 1 cv) (ws.take 1) hln (by have := HWS.out.1; rw [List.length_take]; omega) w hd hv h)
  have HKP := Lib.hid hkp
  have hlt1 : (ws.take 1).length = 1 := by rw [List.length_take]; omega
  have HL1 := Lib.hid hlt1
  have hk1 : r1.kids.length = r.kids.length + 1 ∧ r1.names = r.names ∧ r1.tags = r.tags := by
    unfold kidsP at hkp
    obtain ⟨ks, hks, rfl⟩ := Option.map_eq_some_iff.1 hkp
    have := kidsL_len hks
    exact ⟨by simp; omega, rfl, rfl⟩
  have hB2 := HVA.out.back_if (k := 1) hvc (by unfold maxLen; omega) h0
  obtain ⟨B, hB⟩ : ∃ B, (if cv = 1 then Av else Option.map (fun x : Addr => (⟨x.block, x.off + 1, none⟩ : Addr)) Av) = B := ⟨_, rfl⟩
  rw [hB] at hB2
  have HB2 := Lib.hid hB2
  have hl2 : (ws.drop 1).length = n - 1 := by rw [List.length_drop]; omega
  have HL2 := Lib.hid hl2
  have PPI := Lib.hid (fun va w hd hv h => i_parseParts (.agg #[.slice A l.length c]) l w2 gr r1 va (ws.drop 1) (fun s hs => HSZ.out s (List.drop_subset _ _ hs)) hln (by rw [hk1.1, hk1.2.1, hk1.2.2, hl2]; have := HWS.out; omega) w hd hv h)
  clear hpp hcell hdv hv hO hx h4 h hvl hsz hws hn hkp hlt1 hk1 hl2 hB2
  go_enter Tryz.func40, Tryz.ntmps40
  go_wp2_with fail
  first | go_region_with (first | (go_at_call 84; refine (PKI.out _ ⟨_, rfl, HV.out⟩ (by rw [HL1.out]; exact HF1.out) (P0.out.step (Below.refl _ _).drew)).mono ?_; intro e w5 hp; rw [HKP.out] at hp; obtain ⟨rfl, hp5, hk5⟩ := hp; have P5 := Lib.hid hp5; have K5 := Lib.hid hk5; have y3 : w5.cell? ⟨w.heap.size, 0, none⟩ = some (.slice A l.length c) := (hk5 _ _ _ (by decide) (by decide) (by decide) (by decide) X3.out).cell 0; clear hp5 hk5) | (go_at_call 85; refine (PPI.out _ _ ⟨_, rfl, HV.out⟩ (by rw [HL2.out]; exact HB2.out) P5.out).mono ?_; intro e w6 hp; rw [PPE.out] at hp; obtain ⟨rfl, hb6⟩ := hp) | fail) | fail
  all_goals
    have HB6 := Lib.hid hb6
    have HE := Lib.hid (hfin.out.trans PPE.out)
    clear hb6
    go_wp2_with fail
    go_ret
    exact Parsed.no HE.out HB6.out

set_option maxRecDepth 100000 in
set_option maxHeartbeats 8000000 in
theorem i_fields7ss (d : Value) (l : List RuleD) (w2 : World) (gr : Nat) (r : RuleD) (va : Value) (ws : List ByteArray) (hkd : r.kind = 7 ∧ 0 < ws.length ∧ ∃ r1 r2, kidsP l r (ws.take 1) = some r1 ∧ partsP l r1 (ws.drop 1) = some r2) (hsz : ∀ s ∈ ws, s.size ≤ 4194304) (hln : l.length ≤ 1048576) (hws : r.kids.length + ws.length ≤ 4194304 ∧ r.names.length + ws.length ≤ 4194304 ∧ r.tags.length + ws.length ≤ 4194304) (w : World) (hd : RdDesc w2 d l) (hv : Rd w2 va 1 ws.length (cS ws)) (h : PSt w2 gr r w) :
    Calls Tryz.prog 40 #[d, .pointer (some ⟨gr, 0, none⟩), va] w (Parsed w2 gr (fieldsP l r ws) w) := by
  obtain ⟨v, rfl, hdv⟩ := hd
  obtain ⟨A, c, rfl, hnc, hcm, hcell⟩ := hdv.all
  obtain ⟨hvl, Av, cv, rfl, hvc, hvm, _⟩ := id hv
  unfold maxLen at hcm hvm
  have HV := Lib.hid hdv
  have HVA := Lib.hid hv
  have HSZ := Lib.hid hsz
  have HWS := Lib.hid hws
  obtain ⟨O, hO⟩ : ∃ O, O = fieldsP l r ws := ⟨_, rfl⟩
  rw [← hO]
  have HO := Lib.hid hO
  have P0 := Lib.hid (h.step (w' := w.alloc (.cells #[.slice A l.length c] 35)) ((Below.refl _ _).alloc (Nat.le_refl _) _))
  have K0 := Lib.hid (Keep.alloc w (.cells #[.slice A l.length c] 35))
  obtain ⟨vb, vn, vt, vk, hx, h4⟩ := P0.out.st
  have HX := Lib.hid hx
  have H4 := Lib.hid h4
  have e1 : (w.alloc (.cells #[.slice A l.length c] 35)).cell? ⟨gr, 1, none⟩ = some (.int .i64 r.kind) := hx.cell 1
  obtain ⟨hkd, h0, r1, r2, hkp, hpp⟩ := hkd
  have PPE := Lib.hid hpp
  have HFC := Lib.hid (hO.trans (fields_choice (l := l) (ws := ws) hkd))
  have x3 : (w.alloc (.cells #[.slice A l.length c] 35)).cell? ⟨w.heap.size, 0, none⟩ = some (.slice A l.length c) := (Box.new w 35 _).cell 0
  have X3 := Lib.hid (Box.new w 35 #[.slice A l.length c])
  obtain ⟨n, hn⟩ : ∃ n, n = ws.length := ⟨_, rfl⟩
  have HN := Lib.hid hn
  rw [← hn] at hvc HVA h0 ⊢
  have d0 : decide ((0 : Int) < (n : Int)) = true := by simp; omega
  have dn : decide (0 < n) = true := by simp; omega
  have e1 : (0 : Int) ≤ 1 := by omega
  have e2 : (1 : Int) ≤ (n : Int) := by omega
  have e3 : (1 : Int) ≤ (cv : Int) := by omega
  have hfin : Hid (O = partsP l r1 (ws.drop 1)) := by
    show _ = _
    rw [HFC.out]; unfold choiceP
    rw [if_neg (by rintro rfl; simp at hn; omega), hkp]; rfl
  have HF1 := Lib.hid (show Rd w2 (.slice Av 1 cv) 1 1 (cS (ws.take 1)) by
    have h := HVA.out.front (a := 1) (c' := cv) (by omega) (by omega) (by unfold maxLen; omega)
    rw [Nat.mul_one, ← cS_take] at h
    exact h)
  have PKI := Lib.hid (fun w hd hv h => i_parseKids (.agg #[.slice A l.length c]) l w2 gr r (.slice Av 1 cv) (ws.take 1) hln (by have := HWS.out.1; rw [List.length_take]; omega) w hd hv h)
  have HKP := Lib.hid hkp
  have hlt1 : (ws.take 1).length = 1 := by rw [List.length_take]; omega
  have HL1 := Lib.hid hlt1
  have hk1 : r1.kids.length = r.kids.length + 1 ∧ r1.names = r.names ∧ r1.tags = r.tags := by
    unfold kidsP at hkp
    obtain ⟨ks, hks, rfl⟩ := Option.map_eq_some_iff.1 hkp
    have := kidsL_len hks
    exact ⟨by simp; omega, rfl, rfl⟩
  have hB2 := HVA.out.back_if (k := 1) hvc (by unfold maxLen; omega) h0
  obtain ⟨B, hB⟩ : ∃ B, (if cv = 1 then Av else Option.map (fun x : Addr => (⟨x.block, x.off + 1, none⟩ : Addr)) Av) = B := ⟨_, rfl⟩
  rw [hB] at hB2
  have HB2 := Lib.hid hB2
  have hl2 : (ws.drop 1).length = n - 1 := by rw [List.length_drop]; omega
  have HL2 := Lib.hid hl2
  have PPI := Lib.hid (fun va w hd hv h => i_parseParts (.agg #[.slice A l.length c]) l w2 gr r1 va (ws.drop 1) (fun s hs => HSZ.out s (List.drop_subset _ _ hs)) hln (by rw [hk1.1, hk1.2.1, hk1.2.2, hl2]; have := HWS.out; omega) w hd hv h)
  clear hpp hcell hdv hv hO hx h4 h hvl hsz hws hn hkp hlt1 hk1 hl2 hB2
  go_enter Tryz.func40, Tryz.ntmps40
  go_wp2_with fail
  first | go_region_with (first | (go_at_call 84; refine (PKI.out _ ⟨_, rfl, HV.out⟩ (by rw [HL1.out]; exact HF1.out) (P0.out.step (Below.refl _ _).drew)).mono ?_; intro e w5 hp; rw [HKP.out] at hp; obtain ⟨rfl, hp5, hk5⟩ := hp; have P5 := Lib.hid hp5; have K5 := Lib.hid hk5; have y3 : w5.cell? ⟨w.heap.size, 0, none⟩ = some (.slice A l.length c) := (hk5 _ _ _ (by decide) (by decide) (by decide) (by decide) X3.out).cell 0; clear hp5 hk5) | (go_at_call 85; refine (PPI.out _ _ ⟨_, rfl, HV.out⟩ (by rw [HL2.out]; exact HB2.out) P5.out).mono ?_; intro e w6 hp; rw [PPE.out] at hp; obtain ⟨rfl, hp6, hk6⟩ := hp) | fail) | fail
  all_goals
    have P6 := Lib.hid hp6
    have K6 := Lib.hid (K0.out.trans ((Keep.below (Below.refl _ _).drew).trans (K5.out.trans hk6)))
    have HE := Lib.hid (hfin.out.trans PPE.out)
    clear hp6 hk6
    go_wp2_with fail
    go_ret
    exact Parsed.yes HE.out P6.out K6.out

end Go.Proofs.YtkjjgpkegihmhaaGreatDoor

namespace Go.Proofs.YtkjjgpkegihmhaaGreatDoor
open Go.RowKit
set_option linter.unusedVariables false

theorem i_parseFields (d : Value) (l : List RuleD) (w2 : World) (gr : Nat) (r : RuleD) (va : Value) (ws : List ByteArray) (hsz : ∀ s ∈ ws, s.size ≤ 4194304) (hln : l.length ≤ 1048576) (hws : r.kids.length + ws.length ≤ 4194304 ∧ r.names.length + ws.length ≤ 4194304 ∧ r.tags.length + ws.length ≤ 4194304) (w : World) (hd : RdDesc w2 d l) (hv : Rd w2 va 1 ws.length (cS ws)) (h : PSt w2 gr r w) :
    Calls Tryz.prog 40 #[d, .pointer (some ⟨gr, 0, none⟩), va] w (Parsed w2 gr (fieldsP l r ws) w) := by
  by_cases h1 : r.kind = 1
  · exact i_fields1 d l w2 gr r va ws h1 hsz hln hws w hd hv h
  by_cases h2 : r.kind = 2
  · exact i_fields2 d l w2 gr r va ws h2 hsz hln hws w hd hv h
  by_cases h3 : r.kind = 3
  · exact i_fields3 d l w2 gr r va ws h3 hsz hln hws w hd hv h
  by_cases h4 : r.kind = 4
  · exact i_fields4 d l w2 gr r va ws h4 hsz hln hws w hd hv h
  by_cases h5 : r.kind = 5
  · exact i_fields5 d l w2 gr r va ws h5 hsz hln hws w hd hv h
  by_cases h6 : r.kind = 6
  · exact i_fields6 d l w2 gr r va ws h6 hsz hln hws w hd hv h
  by_cases h7 : r.kind = 7
  · rcases Nat.eq_zero_or_pos ws.length with h0 | h0
    · exact i_fields7z d l w2 gr r va ws ⟨h7, h0⟩ hsz hln hws w hd hv h
    · cases hk : kidsP l r (ws.take 1) with
      | none => exact i_fields7n d l w2 gr r va ws ⟨h7, h0, hk⟩ hsz hln hws w hd hv h
      | some r1 =>
        cases hp : partsP l r1 (ws.drop 1) with
        | none => exact i_fields7sn d l w2 gr r va ws ⟨h7, h0, r1, hk, hp⟩ hsz hln hws w hd hv h
        | some r2 => exact i_fields7ss d l w2 gr r va ws ⟨h7, h0, r1, r2, hk, hp⟩ hsz hln hws w hd hv h
  by_cases h8 : r.kind = 8
  · exact i_fields8 d l w2 gr r va ws h8 hsz hln hws w hd hv h
  by_cases h9 : r.kind = 9
  · exact i_fields9 d l w2 gr r va ws h9 hsz hln hws w hd hv h
  by_cases h10 : r.kind = 10
  · exact i_fields10 d l w2 gr r va ws h10 hsz hln hws w hd hv h
  exact i_fieldsNo d l w2 gr r va ws (by omega) hsz hln hws w hd hv h

end Go.Proofs.YtkjjgpkegihmhaaGreatDoor
