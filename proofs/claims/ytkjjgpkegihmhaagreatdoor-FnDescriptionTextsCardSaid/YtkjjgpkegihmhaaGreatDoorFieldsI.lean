/-
  parseFields of the program.
-/
import Derived.Test.YtkjjgpkegihmhaaGreatDoorGI
namespace Go.Proofs.YtkjjgpkegihmhaaGreatDoor
open Go.RowKit
set_option linter.unusedVariables false

theorem own_set_other4 {w : World} {base g j : Nat} {e e' : TypeId} {size n : Nat} {v u : Value} {xs : List Value} {cs : Array Value} (h : w.ownsRow base e size v n xs) (hb : Box w g e' cs) (hne : e ≠ e') : (w.setCell ⟨g, j, none⟩ u).ownsRow base e size v n xs := by
  have hk : w.grownBy (w.setCell ⟨g, j, none⟩ u) (some g) := by
    refine ⟨rfl, rfl, rfl, by simp [World.setCell], fun i hi hne => ?_⟩
    exact heap_setCell_other w ⟨g, j, none⟩ i u (fun e => hne (by rw [e]))
  exact h.kept hk (.inr (own_type h hb hne))

set_option maxRecDepth 100000 in
set_option maxHeartbeats 8000000 in
theorem i_fields4 (d : Value) (l : List RuleD) (w2 : World) (gr : Nat) (r : RuleD) (va : Value) (ws : List ByteArray) (hkd : r.kind = 4) (hsz : ∀ s ∈ ws, s.size ≤ 4194304) (hln : l.length ≤ 1048576) (hws : r.kids.length + ws.length ≤ 4194304 ∧ r.names.length + ws.length ≤ 4194304 ∧ r.tags.length + ws.length ≤ 4194304) (w : World) (hd : RdDesc w2 d l) (hv : Rd w2 va 1 ws.length (cS ws)) (h : PSt w2 gr r w) :
    Calls Tryz.prog 40 #[d, .pointer (some ⟨gr, 0, none⟩), va] w (Parsed w2 gr (fieldsP l r ws) w) := by
  obtain ⟨v, rfl, hdv⟩ := hd
  obtain ⟨A, c, rfl, hnc, hcm, hcell⟩ := hdv.all
  obtain ⟨hvl, Av, cv, rfl, hvc, hvm, _⟩ := id hv
  unfold maxLen at hcm hvm
  have HV := Lib.hid hdv
  have HVA := Lib.hid hv
  have HSZ := Lib.hid hsz
  have HWS := Lib.hid hws
  obtain ⟨O, hO⟩ : ∃ O, O = fieldsP l r ws := ⟨_, rfl⟩
  rw [← hO]
  have HO := Lib.hid hO
  have P0 := Lib.hid (h.step (w' := w.alloc (.cells #[.slice A l.length c] 35)) ((Below.refl _ _).alloc (Nat.le_refl _) _))
  have K0 := Lib.hid (Keep.alloc w (.cells #[.slice A l.length c] 35))
  obtain ⟨vb, vn, vt, vk, hx, h4⟩ := P0.out.st
  have HX := Lib.hid hx
  have H4 := Lib.hid h4
  have e1 : (w.alloc (.cells #[.slice A l.length c] 35)).cell? ⟨gr, 1, none⟩ = some (.int .i64 r.kind) := hx.cell 1
  have FC := Lib.hid (fun w hd hv h => i_parseKids (.agg #[.slice A l.length c]) l w2 gr r (.slice Av ws.length cv) ws hln hws.1 w hd hv h)
  have HFC := Lib.hid (hO.trans (fields_kids (by omega)))
  clear hcell hdv hv hO hx h4 h hvl hsz hws
  go_enter Tryz.func40, Tryz.ntmps40
  go_wp2_with fail
  refine (FC.out _ ⟨_, rfl, HV.out⟩ HVA.out P0.out).mono ?_
  intro e w5 hp
  cases hpp : kidsP l r ws with
  | none =>
    rw [hpp] at hp
    obtain ⟨rfl, hb5⟩ := hp
    have HB5 := Lib.hid hb5
    have HN := Lib.hid (HFC.out.trans hpp)
    clear hpp hb5
    go_wp2_with fail
    go_ret
    exact Parsed.no HN.out HB5.out
  | some r2 =>
    rw [hpp] at hp
    obtain ⟨rfl, hp5, hk5⟩ := hp
    have P5 := Lib.hid hp5
    have K5 := Lib.hid (K0.out.trans hk5)
    have HN := Lib.hid (HFC.out.trans hpp)
    clear hpp hp5 hk5
    go_wp2_with fail
    go_ret
    exact Parsed.yes HN.out P5.out K5.out

set_option maxRecDepth 100000 in
set_option maxHeartbeats 8000000 in
theorem i_fields5 (d : Value) (l : List RuleD) (w2 : World) (gr : Nat) (r : RuleD) (va : Value) (ws : List ByteArray) (hkd : r.kind = 5) (hsz : ∀ s ∈ ws, s.size ≤ 4194304) (hln : l.length ≤ 1048576) (hws : r.kids.length + ws.length ≤ 4194304 ∧ r.names.length + ws.length ≤ 4194304 ∧ r.tags.length + ws.length ≤ 4194304) (w : World) (hd : RdDesc w2 d l) (hv : Rd w2 va 1 ws.length (cS ws)) (h : PSt w2 gr r w) :
    Calls Tryz.prog 40 #[d, .pointer (some ⟨gr, 0, none⟩), va] w (Parsed w2 gr (fieldsP l r ws) w) := by
  obtain ⟨v, rfl, hdv⟩ := hd
  obtain ⟨A, c, rfl, hnc, hcm, hcell⟩ := hdv.all
  obtain ⟨hvl, Av, cv, rfl, hvc, hvm, _⟩ := id hv
  unfold maxLen at hcm hvm
  have HV := Lib.hid hdv
  have HVA := Lib.hid hv
  have HSZ := Lib.hid hsz
  have HWS := Lib.hid hws
  obtain ⟨O, hO⟩ : ∃ O, O = fieldsP l r ws := ⟨_, rfl⟩
  rw [← hO]
  have HO := Lib.hid hO
  have P0 := Lib.hid (h.step (w' := w.alloc (.cells #[.slice A l.length c] 35)) ((Below.refl _ _).alloc (Nat.le_refl _) _))
  have K0 := Lib.hid (Keep.alloc w (.cells #[.slice A l.length c] 35))
  obtain ⟨vb, vn, vt, vk, hx, h4⟩ := P0.out.st
  have HX := Lib.hid hx
  have H4 := Lib.hid h4
  have e1 : (w.alloc (.cells #[.slice A l.length c] 35)).cell? ⟨gr, 1, none⟩ = some (.int .i64 r.kind) := hx.cell 1
  have FC := Lib.hid (fun w hd hv h => i_parseKids (.agg #[.slice A l.length c]) l w2 gr r (.slice Av ws.length cv) ws hln hws.1 w hd hv h)
  have HFC := Lib.hid (hO.trans (fields_kids (by omega)))
  clear hcell hdv hv hO hx h4 h hvl hsz hws
  go_enter Tryz.func40, Tryz.ntmps40
  go_wp2_with fail
  refine (FC.out _ ⟨_, rfl, HV.out⟩ HVA.out P0.out).mono ?_
  intro e w5 hp
  cases hpp : kidsP l r ws with
  | none =>
    rw [hpp] at hp
    obtain ⟨rfl, hb5⟩ := hp
    have HB5 := Lib.hid hb5
    have HN := Lib.hid (HFC.out.trans hpp)
    clear hpp hb5
    go_wp2_with fail
    go_ret
    exact Parsed.no HN.out HB5.out
  | some r2 =>
    rw [hpp] at hp
    obtain ⟨rfl, hp5, hk5⟩ := hp
    have P5 := Lib.hid hp5
    have K5 := Lib.hid (K0.out.trans hk5)
    have HN := Lib.hid (HFC.out.trans hpp)
    clear hpp hp5 hk5
    go_wp2_with fail
    go_ret
    exact Parsed.yes HN.out P5.out K5.out

set_option maxRecDepth 100000 in
set_option maxHeartbeats 8000000 in
theorem i_fields8 (d : Value) (l : List RuleD) (w2 : World) (gr : Nat) (r : RuleD) (va : Value) (ws : List ByteArray) (hkd : r.kind = 8) (hsz : ∀ s ∈ ws, s.size ≤ 4194304) (hln : l.length ≤ 1048576) (hws : r.kids.length + ws.length ≤ 4194304 ∧ r.names.length + ws.length ≤ 4194304 ∧ r.tags.length + ws.length ≤ 4194304) (w : World) (hd : RdDesc w2 d l) (hv : Rd w2 va 1 ws.length (cS ws)) (h : PSt w2 gr r w) :
    Calls Tryz.prog 40 #[d, .pointer (some ⟨gr, 0, none⟩), va] w (Parsed w2 gr (fieldsP l r ws) w) := by
  obtain ⟨v, rfl, hdv⟩ := hd
  obtain ⟨A, c, rfl, hnc, hcm, hcell⟩ := hdv.all
  obtain ⟨hvl, Av, cv, rfl, hvc, hvm, _⟩ := id hv
  unfold maxLen at hcm hvm
  have HV := Lib.hid hdv
  have HVA := Lib.hid hv
  have HSZ := Lib.hid hsz
  have HWS := Lib.hid hws
  obtain ⟨O, hO⟩ : ∃ O, O = fieldsP l r ws := ⟨_, rfl⟩
  rw [← hO]
  have HO := Lib.hid hO
  have P0 := Lib.hid (h.step (w' := w.alloc (.cells #[.slice A l.length c] 35)) ((Below.refl _ _).alloc (Nat.le_refl _) _))
  have K0 := Lib.hid (Keep.alloc w (.cells #[.slice A l.length c] 35))
  obtain ⟨vb, vn, vt, vk, hx, h4⟩ := P0.out.st
  have HX := Lib.hid hx
  have H4 := Lib.hid h4
  have e1 : (w.alloc (.cells #[.slice A l.length c] 35)).cell? ⟨gr, 1, none⟩ = some (.int .i64 r.kind) := hx.cell 1
  have FC := Lib.hid (fun w hd hv h => i_parseKids (.agg #[.slice A l.length c]) l w2 gr r (.slice Av ws.length cv) ws hln hws.1 w hd hv h)
  have HFC := Lib.hid (hO.trans (fields_kids (by omega)))
  clear hcell hdv hv hO hx h4 h hvl hsz hws
  go_enter Tryz.func40, Tryz.ntmps40
  go_wp2_with fail
  refine (FC.out _ ⟨_, rfl, HV.out⟩ HVA.out P0.out).mono ?_
  intro e w5 hp
  cases hpp : kidsP l r ws with
  | none =>
    rw [hpp] at hp
    obtain ⟨rfl, hb5⟩ := hp
    have HB5 := Lib.hid hb5
    have HN := Lib.hid (HFC.out.trans hpp)
    clear hpp hb5
    go_wp2_with fail
    go_ret
    exact Parsed.no HN.out HB5.out
  | some r2 =>
    rw [hpp] at hp
    obtain ⟨rfl, hp5, hk5⟩ := hp
    have P5 := Lib.hid hp5
    have K5 := Lib.hid (K0.out.trans hk5)
    have HN := Lib.hid (HFC.out.trans hpp)
    clear hpp hp5 hk5
    go_wp2_with fail
    go_ret
    exact Parsed.yes HN.out P5.out K5.out

set_option maxRecDepth 100000 in
set_option maxHeartbeats 8000000 in
theorem i_fields9 (d : Value) (l : List RuleD) (w2 : World) (gr : Nat) (r : RuleD) (va : Value) (ws : List ByteArray) (hkd : r.kind = 9) (hsz : ∀ s ∈ ws, s.size ≤ 4194304) (hln : l.length ≤ 1048576) (hws : r.kids.length + ws.length ≤ 4194304 ∧ r.names.length + ws.length ≤ 4194304 ∧ r.tags.length + ws.length ≤ 4194304) (w : World) (hd : RdDesc w2 d l) (hv : Rd w2 va 1 ws.length (cS ws)) (h : PSt w2 gr r w) :
    Calls Tryz.prog 40 #[d, .pointer (some ⟨gr, 0, none⟩), va] w (Parsed w2 gr (fieldsP l r ws) w) := by
  obtain ⟨v, rfl, hdv⟩ := hd
  obtain ⟨A, c, rfl, hnc, hcm, hcell⟩ := hdv.all
  obtain ⟨hvl, Av, cv, rfl, hvc, hvm, _⟩ := id hv
  unfold maxLen at hcm hvm
  have HV := Lib.hid hdv
  have HVA := Lib.hid hv
  have HSZ := Lib.hid hsz
  have HWS := Lib.hid hws
  obtain ⟨O, hO⟩ : ∃ O, O = fieldsP l r ws := ⟨_, rfl⟩
  rw [← hO]
  have HO := Lib.hid hO
  have P0 := Lib.hid (h.step (w' := w.alloc (.cells #[.slice A l.length c] 35)) ((Below.refl _ _).alloc (Nat.le_refl _) _))
  have K0 := Lib.hid (Keep.alloc w (.cells #[.slice A l.length c] 35))
  obtain ⟨vb, vn, vt, vk, hx, h4⟩ := P0.out.st
  have HX := Lib.hid hx
  have H4 := Lib.hid h4
  have e1 : (w.alloc (.cells #[.slice A l.length c] 35)).cell? ⟨gr, 1, none⟩ = some (.int .i64 r.kind) := hx.cell 1
  have FC := Lib.hid (fun w hd hv h => i_parseKids (.agg #[.slice A l.length c]) l w2 gr r (.slice Av ws.length cv) ws hln hws.1 w hd hv h)
  have HFC := Lib.hid (hO.trans (fields_kids (by omega)))
  clear hcell hdv hv hO hx h4 h hvl hsz hws
  go_enter Tryz.func40, Tryz.ntmps40
  go_wp2_with fail
  refine (FC.out _ ⟨_, rfl, HV.out⟩ HVA.out P0.out).mono ?_
  intro e w5 hp
  cases hpp : kidsP l r ws with
  | none =>
    rw [hpp] at hp
    obtain ⟨rfl, hb5⟩ := hp
    have HB5 := Lib.hid hb5
    have HN := Lib.hid (HFC.out.trans hpp)
    clear hpp hb5
    go_wp2_with fail
    go_ret
    exact Parsed.no HN.out HB5.out
  | some r2 =>
    rw [hpp] at hp
    obtain ⟨rfl, hp5, hk5⟩ := hp
    have P5 := Lib.hid hp5
    have K5 := Lib.hid (K0.out.trans hk5)
    have HN := Lib.hid (HFC.out.trans hpp)
    clear hpp hp5 hk5
    go_wp2_with fail
    go_ret
    exact Parsed.yes HN.out P5.out K5.out

set_option maxRecDepth 100000 in
set_option maxHeartbeats 8000000 in
theorem i_fields6 (d : Value) (l : List RuleD) (w2 : World) (gr : Nat) (r : RuleD) (va : Value) (ws : List ByteArray) (hkd : r.kind = 6) (hsz : ∀ s ∈ ws, s.size ≤ 4194304) (hln : l.length ≤ 1048576) (hws : r.kids.length + ws.length ≤ 4194304 ∧ r.names.length + ws.length ≤ 4194304 ∧ r.tags.length + ws.length ≤ 4194304) (w : World) (hd : RdDesc w2 d l) (hv : Rd w2 va 1 ws.length (cS ws)) (h : PSt w2 gr r w) :
    Calls Tryz.prog 40 #[d, .pointer (some ⟨gr, 0, none⟩), va] w (Parsed w2 gr (fieldsP l r ws) w) := by
  obtain ⟨v, rfl, hdv⟩ := hd
  obtain ⟨A, c, rfl, hnc, hcm, hcell⟩ := hdv.all
  obtain ⟨hvl, Av, cv, rfl, hvc, hvm, _⟩ := id hv
  unfold maxLen at hcm hvm
  have HV := Lib.hid hdv
  have HVA := Lib.hid hv
  have HSZ := Lib.hid hsz
  have HWS := Lib.hid hws
  obtain ⟨O, hO⟩ : ∃ O, O = fieldsP l r ws := ⟨_, rfl⟩
  rw [← hO]
  have HO := Lib.hid hO
  have P0 := Lib.hid (h.step (w' := w.alloc (.cells #[.slice A l.length c] 35)) ((Below.refl _ _).alloc (Nat.le_refl _) _))
  have K0 := Lib.hid (Keep.alloc w (.cells #[.slice A l.length c] 35))
  obtain ⟨vb, vn, vt, vk, hx, h4⟩ := P0.out.st
  have HX := Lib.hid hx
  have H4 := Lib.hid h4
  have e1 : (w.alloc (.cells #[.slice A l.length c] 35)).cell? ⟨gr, 1, none⟩ = some (.int .i64 r.kind) := hx.cell 1
  have FC := Lib.hid (fun w hd hv h => i_parseParts (.agg #[.slice A l.length c]) l w2 gr r (.slice Av ws.length cv) ws hsz hln hws w hd hv h)
  have HFC := Lib.hid (hO.trans (fields_parts hkd))
  clear hcell hdv hv hO hx h4 h hvl hsz hws
  go_enter Tryz.func40, Tryz.ntmps40
  go_wp2_with fail
  refine (FC.out _ ⟨_, rfl, HV.out⟩ HVA.out P0.out).mono ?_
  intro e w5 hp
  cases hpp : partsP l r ws with
  | none =>
    rw [hpp] at hp
    obtain ⟨rfl, hb5⟩ := hp
    have HB5 := Lib.hid hb5
    have HN := Lib.hid (HFC.out.trans hpp)
    clear hpp hb5
    go_wp2_with fail
    go_ret
    exact Parsed.no HN.out HB5.out
  | some r2 =>
    rw [hpp] at hp
    obtain ⟨rfl, hp5, hk5⟩ := hp
    have P5 := Lib.hid hp5
    have K5 := Lib.hid (K0.out.trans hk5)
    have HN := Lib.hid (HFC.out.trans hpp)
    clear hpp hp5 hk5
    go_wp2_with fail
    go_ret
    exact Parsed.yes HN.out P5.out K5.out

set_option maxRecDepth 100000 in
set_option maxHeartbeats 8000000 in
theorem i_fields1 (d : Value) (l : List RuleD) (w2 : World) (gr : Nat) (r : RuleD) (va : Value) (ws : List ByteArray) (hkd : r.kind = 1) (hsz : ∀ s ∈ ws, s.size ≤ 4194304) (hln : l.length ≤ 1048576) (hws : r.kids.length + ws.length ≤ 4194304 ∧ r.names.length + ws.length ≤ 4194304 ∧ r.tags.length + ws.length ≤ 4194304) (w : World) (hd : RdDesc w2 d l) (hv : Rd w2 va 1 ws.length (cS ws)) (h : PSt w2 gr r w) :
    Calls Tryz.prog 40 #[d, .pointer (some ⟨gr, 0, none⟩), va] w (Parsed w2 gr (fieldsP l r ws) w) := by
  obtain ⟨v, rfl, hdv⟩ := hd
  obtain ⟨A, c, rfl, hnc, hcm, hcell⟩ := hdv.all
  obtain ⟨hvl, Av, cv, rfl, hvc, hvm, _⟩ := id hv
  unfold maxLen at hcm hvm
  have HV := Lib.hid hdv
  have HVA := Lib.hid hv
  have HSZ := Lib.hid hsz
  have HWS := Lib.hid hws
  obtain ⟨O, hO⟩ : ∃ O, O = fieldsP l r ws := ⟨_, rfl⟩
  rw [← hO]
  have HO := Lib.hid hO
  have P0 := Lib.hid (h.step (w' := w.alloc (.cells #[.slice A l.length c] 35)) ((Below.refl _ _).alloc (Nat.le_refl _) _))
  have K0 := Lib.hid (Keep.alloc w (.cells #[.slice A l.length c] 35))
  obtain ⟨vb, vn, vt, vk, hx, h4⟩ := P0.out.st
  have HX := Lib.hid hx
  have H4 := Lib.hid h4
  have e1 : (w.alloc (.cells #[.slice A l.length c] 35)).cell? ⟨gr, 1, none⟩ = some (.int .i64 r.kind) := hx.cell 1
  have HFC := Lib.hid (hO.trans (fields_num (l := l) (ws := ws) (by omega)))
  clear hcell hdv hv hO hx h4 h hvl hsz hws
  cases ws with
  | nil =>
    have hfin : Hid (O = none) := by show _ = _; rw [HFC.out]; rfl
    go_enter Tryz.func40, Tryz.ntmps40
    go_wp2_with fail
    go_ret
    exact Parsed.no hfin.out P0.out.be
  | cons x rest =>
    obtain ⟨n, hn⟩ : ∃ n, n = (x :: rest).length := ⟨_, rfl⟩
    have hnr : n = rest.length + 1 := hn
    rw [← hn] at hvc HVA ⊢
    obtain ⟨bn, on, rfl, hnc⟩ := texts_at (by have h := HVA.out; rw [hn] at h; exact h) (by simp)
    have ny0 : (w.alloc (.cells #[.slice A l.length c] 35)).cell? ⟨bn, on, none⟩ = some (.string x) := cell_after (hnc 0 (by simp)) P0.out.be
    have hn0 : (n == 0) = false := by rw [beq_eq_false_iff_ne]; omega
    have hni : ((n : Int) == 0) = false := by rw [beq_eq_false_iff_ne]; omega
    have h0i : (0 : Int) < (n : Int) := by omega
    have pi := fun w => i_ParseInt x w
    obtain ⟨num, hnum⟩ : ∃ num, num = parseNum x.data.toList := ⟨_, rfl⟩
    obtain ⟨iok, hiok⟩ : ∃ iok, iok = parseOk x.data.toList := ⟨_, rfl⟩
    rw [← hnum, ← hiok] at pi
    have PI := Lib.hid pi
    obtain ⟨lit, hlit⟩ : ∃ lit, lit = decide (rest.head? = some littleS) := ⟨_, rfl⟩
    have hres : Hid (O = if iok = true then some { r with size := num, little := lit } else none) := by
      show _ = _
      rw [HFC.out, hiok, hnum, hlit]; rfl
    have e2 : (w.alloc (.cells #[.slice A l.length c] 35)).cell? ⟨gr, 2, none⟩ = some (.int .i64 r.size) := HX.out.cell 2
    have f2 := HX.out.frozen 2
    obtain ⟨w6, hw6⟩ : ∃ w6, w6 = (w.alloc (.cells #[.slice A l.length c] 35)).setCell ⟨gr, 2, none⟩ (.int .i64 num) := ⟨_, rfl⟩
    have X6 := Lib.hid (show Box w6 gr 30 (rCells { r with size := num } vb vn vt vk) by rw [hw6]; exact HX.out.set 2 _)
    have H6 := Lib.hid (show Rows4 w6 w2.heap.size { r with size := num } vb vn vt vk by rw [hw6]; have h := H4.out.setBox (j := 2) (u := .int .i64 num) HX.out; exact ⟨h.b, h.n, h.t, h.k, h.tk⟩)
    have B6 := Lib.hid (show Below w2.heap.size w2 w6 by rw [hw6]; exact below_set P0.out.be P0.out.ge _)
    have K6 := Lib.hid (show Keep w w6 by rw [hw6]; exact K0.out.trans (Keep.set HX.out))
    have W6 := Lib.hid hw6
    have e3 : ((w.alloc (.cells #[.slice A l.length c] 35)).setCell ⟨gr, 2, none⟩ (.int .i64 num)).cell? ⟨gr, 3, none⟩ = some (.bool r.little) := (HX.out.set 2 _).cell 3
    have f3 := (HX.out.set 2 (.int .i64 num)).frozen 3
    have done_ : Hid (∀ w7, w7 = w6.setCell ⟨gr, 3, none⟩ (.bool lit) → PSt w2 gr { r with size := num, little := lit } w7 ∧ Keep w w7) := by
      intro w7 hw7
      subst hw7
      have h := H6.out.setBox (j := 3) (u := .bool lit) X6.out
      exact ⟨⟨⟨vb, vn, vt, vk, X6.out.set 3 _, ⟨h.b, h.n, h.t, h.k, h.tk⟩⟩, P0.out.ge, below_set B6.out P0.out.ge _⟩, K6.out.trans (Keep.set X6.out)⟩
    cases rest with
    | nil =>
      have hl0 : lit = false := by rw [hlit]; rfl
      have d1 : decide ((1 : Int) < (n : Int)) = false := by rw [hnr]; rfl
      have hrest := hres
      subst hl0
      clear hnc pi hnum hiok hn hlit hw6 hnr hres
      go_enter Tryz.func40, Tryz.ntmps40
      go_wp2_with fail
      refine (PI.out _).mono ?_
      rintro e w5 ⟨rfl, hww⟩
      subst hww
      cases iok
      · have hfin : Hid (O = none) := by show _ = _; rw [hrest.out]; rfl
        go_wp2_with fail
        go_ret
        obtain ⟨hp, hk⟩ := done_.out _ rfl
        rw [W6.out] at hp
        exact Parsed.no hfin.out hp.be
      · have hfin : Hid (O = some { r with size := num, little := false }) := by show _ = _; rw [hrest.out]; rfl
        go_wp2_with fail
        go_ret
        obtain ⟨hp, hk⟩ := done_.out _ rfl
        rw [W6.out] at hp hk
        exact Parsed.yes hfin.out hp hk
    | cons y rest2 =>
      have d1 : decide ((1 : Int) < (n : Int)) = true := by rw [hnr]; simp; omega
      have h1i : (1 : Int) < (n : Int) := by rw [hnr]; simp; omega
      have hl0 : lit = decide (y = littleS) := by rw [hlit]; simp
      have hrest := hres
      have ny1 : ((w.alloc (.cells #[.slice A l.length c] 35)).setCell ⟨gr, 2, none⟩ (.int .i64 num)).cell? ⟨bn, on + 1, none⟩ = some (.string y) := by rw [← hw6]; exact cell_after (hnc 1 (by simp)) B6.out
      have hle : littleS.toList = [108, 105, 116, 116, 108, 101] := by rw [Lib.toList_data]; rfl
      have hq : (y.toList == [108, 105, 116, 116, 108, 101]) = lit := by
        rw [hl0, ← hle]
        by_cases he : y = littleS
        · rw [decide_eq_true he, he]; simp
        · rw [decide_eq_false he]; exact str_ne he
      have HQ := Lib.hid hq
      clear hnc pi hnum hiok hn hlit hw6 hnr hres hl0 hq hle
      go_enter Tryz.func40, Tryz.ntmps40
      go_wp2_with fail
      refine (PI.out _).mono ?_
      rintro e w5 ⟨rfl, hww⟩
      subst hww
      cases lit
      · have hq := HQ.out
        cases iok
        · have hfin : Hid (O = none) := by show _ = _; rw [hrest.out]; rfl
          go_wp2_with fail
          go_ret
          obtain ⟨hp, hk⟩ := done_.out _ rfl
          rw [W6.out] at hp
          exact Parsed.no hfin.out hp.be
        · have hfin : Hid (O = some { r with size := num, little := false }) := by show _ = _; rw [hrest.out]; rfl
          go_wp2_with fail
          go_ret
          obtain ⟨hp, hk⟩ := done_.out _ rfl
          rw [W6.out] at hp hk
          exact Parsed.yes hfin.out hp hk
      · have hq := HQ.out
        cases iok
        · have hfin : Hid (O = none) := by show _ = _; rw [hrest.out]; rfl
          go_wp2_with fail
          go_ret
          obtain ⟨hp, hk⟩ := done_.out _ rfl
          rw [W6.out] at hp
          exact Parsed.no hfin.out hp.be
        · have hfin : Hid (O = some { r with size := num, little := true }) := by show _ = _; rw [hrest.out]; rfl
          go_wp2_with fail
          go_ret
          obtain ⟨hp, hk⟩ := done_.out _ rfl
          rw [W6.out] at hp hk
          exact Parsed.yes hfin.out hp hk

set_option maxRecDepth 100000 in
set_option maxHeartbeats 8000000 in
theorem i_fields3 (d : Value) (l : List RuleD) (w2 : World) (gr : Nat) (r : RuleD) (va : Value) (ws : List ByteArray) (hkd : r.kind = 3) (hsz : ∀ s ∈ ws, s.size ≤ 4194304) (hln : l.length ≤ 1048576) (hws : r.kids.length + ws.length ≤ 4194304 ∧ r.names.length + ws.length ≤ 4194304 ∧ r.tags.length + ws.length ≤ 4194304) (w : World) (hd : RdDesc w2 d l) (hv : Rd w2 va 1 ws.length (cS ws)) (h : PSt w2 gr r w) :
    Calls Tryz.prog 40 #[d, .pointer (some ⟨gr, 0, none⟩), va] w (Parsed w2 gr (fieldsP l r ws) w) := by
  obtain ⟨v, rfl, hdv⟩ := hd
  obtain ⟨A, c, rfl, hnc, hcm, hcell⟩ := hdv.all
  obtain ⟨hvl, Av, cv, rfl, hvc, hvm, _⟩ := id hv
  unfold maxLen at hcm hvm
  have HV := Lib.hid hdv
  have HVA := Lib.hid hv
  have HSZ := Lib.hid hsz
  have HWS := Lib.hid hws
  obtain ⟨O, hO⟩ : ∃ O, O = fieldsP l r ws := ⟨_, rfl⟩
  rw [← hO]
  have HO := Lib.hid hO
  have P0 := Lib.hid (h.step (w' := w.alloc (.cells #[.slice A l.length c] 35)) ((Below.refl _ _).alloc (Nat.le_refl _) _))
  have K0 := Lib.hid (Keep.alloc w (.cells #[.slice A l.length c] 35))
  obtain ⟨vb, vn, vt, vk, hx, h4⟩ := P0.out.st
  have HX := Lib.hid hx
  have H4 := Lib.hid h4
  have e1 : (w.alloc (.cells #[.slice A l.length c] 35)).cell? ⟨gr, 1, none⟩ = some (.int .i64 r.kind) := hx.cell 1
  have HFC := Lib.hid (hO.trans (fields_num (l := l) (ws := ws) (by omega)))
  clear hcell hdv hv hO hx h4 h hvl hsz hws
  cases ws with
  | nil =>
    have hfin : Hid (O = none) := by show _ = _; rw [HFC.out]; rfl
    go_enter Tryz.func40, Tryz.ntmps40
    go_wp2_with fail
    go_ret
    exact Parsed.no hfin.out P0.out.be
  | cons x rest =>
    obtain ⟨n, hn⟩ : ∃ n, n = (x :: rest).length := ⟨_, rfl⟩
    have hnr : n = rest.length + 1 := hn
    rw [← hn] at hvc HVA ⊢
    obtain ⟨bn, on, rfl, hnc⟩ := texts_at (by have h := HVA.out; rw [hn] at h; exact h) (by simp)
    have ny0 : (w.alloc (.cells #[.slice A l.length c] 35)).cell? ⟨bn, on, none⟩ = some (.string x) := cell_after (hnc 0 (by simp)) P0.out.be
    have hn0 : (n == 0) = false := by rw [beq_eq_false_iff_ne]; omega
    have hni : ((n : Int) == 0) = false := by rw [beq_eq_false_iff_ne]; omega
    have h0i : (0 : Int) < (n : Int) := by omega
    have pi := fun w => i_ParseInt x w
    obtain ⟨num, hnum⟩ : ∃ num, num = parseNum x.data.toList := ⟨_, rfl⟩
    obtain ⟨iok, hiok⟩ : ∃ iok, iok = parseOk x.data.toList := ⟨_, rfl⟩
    rw [← hnum, ← hiok] at pi
    have PI := Lib.hid pi
    obtain ⟨lit, hlit⟩ : ∃ lit, lit = decide (rest.head? = some littleS) := ⟨_, rfl⟩
    have hres : Hid (O = if iok = true then some { r with size := num, little := lit } else none) := by
      show _ = _
      rw [HFC.out, hiok, hnum, hlit]; rfl
    have e2 : (w.alloc (.cells #[.slice A l.length c] 35)).cell? ⟨gr, 2, none⟩ = some (.int .i64 r.size) := HX.out.cell 2
    have f2 := HX.out.frozen 2
    obtain ⟨w6, hw6⟩ : ∃ w6, w6 = (w.alloc (.cells #[.slice A l.length c] 35)).setCell ⟨gr, 2, none⟩ (.int .i64 num) := ⟨_, rfl⟩
    have X6 := Lib.hid (show Box w6 gr 30 (rCells { r with size := num } vb vn vt vk) by rw [hw6]; exact HX.out.set 2 _)
    have H6 := Lib.hid (show Rows4 w6 w2.heap.size { r with size := num } vb vn vt vk by rw [hw6]; have h := H4.out.setBox (j := 2) (u := .int .i64 num) HX.out; exact ⟨h.b, h.n, h.t, h.k, h.tk⟩)
    have B6 := Lib.hid (show Below w2.heap.size w2 w6 by rw [hw6]; exact below_set P0.out.be P0.out.ge _)
    have K6 := Lib.hid (show Keep w w6 by rw [hw6]; exact K0.out.trans (Keep.set HX.out))
    have W6 := Lib.hid hw6
    have e3 : ((w.alloc (.cells #[.slice A l.length c] 35)).setCell ⟨gr, 2, none⟩ (.int .i64 num)).cell? ⟨gr, 3, none⟩ = some (.bool r.little) := (HX.out.set 2 _).cell 3
    have f3 := (HX.out.set 2 (.int .i64 num)).frozen 3
    have done_ : Hid (∀ w7, w7 = w6.setCell ⟨gr, 3, none⟩ (.bool lit) → PSt w2 gr { r with size := num, little := lit } w7 ∧ Keep w w7) := by
      intro w7 hw7
      subst hw7
      have h := H6.out.setBox (j := 3) (u := .bool lit) X6.out
      exact ⟨⟨⟨vb, vn, vt, vk, X6.out.set 3 _, ⟨h.b, h.n, h.t, h.k, h.tk⟩⟩, P0.out.ge, below_set B6.out P0.out.ge _⟩, K6.out.trans (Keep.set X6.out)⟩
    cases rest with
    | nil =>
      have hl0 : lit = false := by rw [hlit]; rfl
      have d1 : decide ((1 : Int) < (n : Int)) = false := by rw [hnr]; rfl
      have hrest := hres
      subst hl0
      clear hnc pi hnum hiok hn hlit hw6 hnr hres
      go_enter Tryz.func40, Tryz.ntmps40
      go_wp2_with fail
      refine (PI.out _).mono ?_
      rintro e w5 ⟨rfl, hww⟩
      subst hww
      cases iok
      · have hfin : Hid (O = none) := by show _ = _; rw [hrest.out]; rfl
        go_wp2_with fail
        go_ret
        obtain ⟨hp, hk⟩ := done_.out _ rfl
        rw [W6.out] at hp
        exact Parsed.no hfin.out hp.be
      · have hfin : Hid (O = some { r with size := num, little := false }) := by show _ = _; rw [hrest.out]; rfl
        go_wp2_with fail
        go_ret
        obtain ⟨hp, hk⟩ := done_.out _ rfl
        rw [W6.out] at hp hk
        exact Parsed.yes hfin.out hp hk
    | cons y rest2 =>
      have d1 : decide ((1 : Int) < (n : Int)) = true := by rw [hnr]; simp; omega
      have h1i : (1 : Int) < (n : Int) := by rw [hnr]; simp; omega
      have hl0 : lit = decide (y = littleS) := by rw [hlit]; simp
      have hrest := hres
      have ny1 : ((w.alloc (.cells #[.slice A l.length c] 35)).setCell ⟨gr, 2, none⟩ (.int .i64 num)).cell? ⟨bn, on + 1, none⟩ = some (.string y) := by rw [← hw6]; exact cell_after (hnc 1 (by simp)) B6.out
      have hle : littleS.toList = [108, 105, 116, 116, 108, 101] := by rw [Lib.toList_data]; rfl
      have hq : (y.toList == [108, 105, 116, 116, 108, 101]) = lit := by
        rw [hl0, ← hle]
        by_cases he : y = littleS
        · rw [decide_eq_true he, he]; simp
        · rw [decide_eq_false he]; exact str_ne he
      have HQ := Lib.hid hq
      clear hnc pi hnum hiok hn hlit hw6 hnr hres hl0 hq hle
      go_enter Tryz.func40, Tryz.ntmps40
      go_wp2_with fail
      refine (PI.out _).mono ?_
      rintro e w5 ⟨rfl, hww⟩
      subst hww
      cases lit
      · have hq := HQ.out
        cases iok
        · have hfin : Hid (O = none) := by show _ = _; rw [hrest.out]; rfl
          go_wp2_with fail
          go_ret
          obtain ⟨hp, hk⟩ := done_.out _ rfl
          rw [W6.out] at hp
          exact Parsed.no hfin.out hp.be
        · have hfin : Hid (O = some { r with size := num, little := false }) := by show _ = _; rw [hrest.out]; rfl
          go_wp2_with fail
          go_ret
          obtain ⟨hp, hk⟩ := done_.out _ rfl
          rw [W6.out] at hp hk
          exact Parsed.yes hfin.out hp hk
      · have hq := HQ.out
        cases iok
        · have hfin : Hid (O = none) := by show _ = _; rw [hrest.out]; rfl
          go_wp2_with fail
          go_ret
          obtain ⟨hp, hk⟩ := done_.out _ rfl
          rw [W6.out] at hp
          exact Parsed.no hfin.out hp.be
        · have hfin : Hid (O = some { r with size := num, little := true }) := by show _ = _; rw [hrest.out]; rfl
          go_wp2_with fail
          go_ret
          obtain ⟨hp, hk⟩ := done_.out _ rfl
          rw [W6.out] at hp hk
          exact Parsed.yes hfin.out hp hk

set_option maxRecDepth 100000 in
set_option maxHeartbeats 8000000 in
theorem i_fields2 (d : Value) (l : List RuleD) (w2 : World) (gr : Nat) (r : RuleD) (va : Value) (ws : List ByteArray) (hkd : r.kind = 2) (hsz : ∀ s ∈ ws, s.size ≤ 4194304) (hln : l.length ≤ 1048576) (hws : r.kids.length + ws.length ≤ 4194304 ∧ r.names.length + ws.length ≤ 4194304 ∧ r.tags.length + ws.length ≤ 4194304) (w : World) (hd : RdDesc w2 d l) (hv : Rd w2 va 1 ws.length (cS ws)) (h : PSt w2 gr r w) :
    Calls Tryz.prog 40 #[d, .pointer (some ⟨gr, 0, none⟩), va] w (Parsed w2 gr (fieldsP l r ws) w) := by
  obtain ⟨v, rfl, hdv⟩ := hd
  obtain ⟨A, c, rfl, hnc, hcm, hcell⟩ := hdv.all
  obtain ⟨hvl, Av, cv, rfl, hvc, hvm, _⟩ := id hv
  unfold maxLen at hcm hvm
  have HV := Lib.hid hdv
  have HVA := Lib.hid hv
  have HSZ := Lib.hid hsz
  have HWS := Lib.hid hws
  obtain ⟨O, hO⟩ : ∃ O, O = fieldsP l r ws := ⟨_, rfl⟩
  rw [← hO]
  have HO := Lib.hid hO
  have P0 := Lib.hid (h.step (w' := w.alloc (.cells #[.slice A l.length c] 35)) ((Below.refl _ _).alloc (Nat.le_refl _) _))
  have K0 := Lib.hid (Keep.alloc w (.cells #[.slice A l.length c] 35))
  obtain ⟨vb, vn, vt, vk, hx, h4⟩ := P0.out.st
  have HX := Lib.hid hx
  have H4 := Lib.hid h4
  have e1 : (w.alloc (.cells #[.slice A l.length c] 35)).cell? ⟨gr, 1, none⟩ = some (.int .i64 r.kind) := hx.cell 1
  have HFC := Lib.hid (hO.trans (fields_hex (l := l) (ws := ws) (by omega)))
  clear hcell hdv hv hO hx h4 h hvl hws
  cases ws with
  | nil =>
    have hfin : Hid (O = none) := by show _ = _; rw [HFC.out]; rfl
    clear hsz
    go_enter Tryz.func40, Tryz.ntmps40
    go_wp2_with fail
    go_ret
    exact Parsed.no hfin.out P0.out.be
  | cons x rest =>
    obtain ⟨n, hn⟩ : ∃ n, n = (x :: rest).length := ⟨_, rfl⟩
    have hnr : n = rest.length + 1 := hn
    rw [← hn] at hvc HVA ⊢
    obtain ⟨bn, on, rfl, hnc⟩ := texts_at (by have h := HVA.out; rw [hn] at h; exact h) (by simp)
    have ny0 : (w.alloc (.cells #[.slice A l.length c] 35)).cell? ⟨bn, on, none⟩ = some (.string x) := cell_after (hnc 0 (by simp)) P0.out.be
    have hn0 : (n == 0) = false := by rw [beq_eq_false_iff_ne]; omega
    have hni : ((n : Int) == 0) = false := by rw [beq_eq_false_iff_ne]; omega
    have h0i : (0 : Int) < (n : Int) := by omega
    have ph := fun w => i_ParseHex x (hsz x List.mem_cons_self) w
    obtain ⟨bs, hbs⟩ : ∃ bs, bs = parseB x.data.toList := ⟨_, rfl⟩
    obtain ⟨iok, hiok⟩ : ∃ iok, iok = parseBOk x.data.toList := ⟨_, rfl⟩
    rw [← hbs, ← hiok] at ph
    have PH := Lib.hid ph
    have hrest : Hid (O = if iok = true then some { r with bytes := bs } else none) := by
      show _ = _
      rw [HFC.out, hiok, hbs]; rfl
    clear hnc ph hbs hiok hn hnr hsz
    go_enter Tryz.func40, Tryz.ntmps40
    go_wp2_with fail
    refine (PH.out _).mono ?_
    rintro e w5 ⟨v5, rfl, hov, hb5⟩
    have P5 := Lib.hid (P0.out.step hb5)
    have X5 := Lib.hid (HX.out.below hb5)
    have H5 := Lib.hid (H4.out.below hb5)
    have K5 := Lib.hid (K0.out.trans (Keep.below hb5))
    have OV := Lib.hid (own_mono hov P0.out.be.size)
    obtain ⟨_, A5, c5, rfl, _, _, _⟩ := Rd.of_own hov
    have e4 : w5.cell? ⟨gr, 4, none⟩ = some vb := X5.out.cell 4
    have f4 := X5.out.frozen 4
    have O6 := Lib.hid (own_set_other4 (j := 4) (u := .slice A5 bs.length c5) OV.out X5.out (by decide))
    clear hov hb5
    cases iok
    · have hfin : Hid (O = none) := by show _ = _; rw [hrest.out]; rfl
      go_wp2_with fail
      go_ret
      exact Parsed.no hfin.out (below_set P5.out.be P5.out.ge _)
    · have hfin : Hid (O = some { r with bytes := bs }) := by show _ = _; rw [hrest.out]; rfl
      go_wp2_with fail
      go_ret
      have h := H5.out.setBox (j := 4) (u := .slice A5 bs.length c5) X5.out
      exact Parsed.yes hfin.out ⟨⟨_, vn, vt, vk, X5.out.set 4 _, ⟨O6.out, h.n, h.t, h.k, h.tk⟩⟩, P5.out.ge, below_set P5.out.be P5.out.ge _⟩ (K5.out.trans (Keep.set X5.out))

set_option maxRecDepth 100000 in
set_option maxHeartbeats 8000000 in
theorem i_fields10 (d : Value) (l : List RuleD) (w2 : World) (gr : Nat) (r : RuleD) (va : Value) (ws : List ByteArray) (hkd : r.kind = 10) (hsz : ∀ s ∈ ws, s.size ≤ 4194304) (hln : l.length ≤ 1048576) (hws : r.kids.length + ws.length ≤ 4194304 ∧ r.names.length + ws.length ≤ 4194304 ∧ r.tags.length + ws.length ≤ 4194304) (w : World) (hd : RdDesc w2 d l) (hv : Rd w2 va 1 ws.length (cS ws)) (h : PSt w2 gr r w) :
    Calls Tryz.prog 40 #[d, .pointer (some ⟨gr, 0, none⟩), va] w (Parsed w2 gr (fieldsP l r ws) w) := by
  obtain ⟨v, rfl, hdv⟩ := hd
  obtain ⟨A, c, rfl, hnc, hcm, hcell⟩ := hdv.all
  obtain ⟨hvl, Av, cv, rfl, hvc, hvm, _⟩ := id hv
  unfold maxLen at hcm hvm
  have HV := Lib.hid hdv
  have HVA := Lib.hid hv
  have HSZ := Lib.hid hsz
  have HWS := Lib.hid hws
  obtain ⟨O, hO⟩ : ∃ O, O = fieldsP l r ws := ⟨_, rfl⟩
  rw [← hO]
  have HO := Lib.hid hO
  have P0 := Lib.hid (h.step (w' := w.alloc (.cells #[.slice A l.length c] 35)) ((Below.refl _ _).alloc (Nat.le_refl _) _))
  have K0 := Lib.hid (Keep.alloc w (.cells #[.slice A l.length c] 35))
  obtain ⟨vb, vn, vt, vk, hx, h4⟩ := P0.out.st
  have HX := Lib.hid hx
  have H4 := Lib.hid h4
  have e1 : (w.alloc (.cells #[.slice A l.length c] 35)).cell? ⟨gr, 1, none⟩ = some (.int .i64 r.kind) := hx.cell 1
  have HFC := Lib.hid (hO.trans (fields_hex (l := l) (ws := ws) (by omega)))
  clear hcell hdv hv hO hx h4 h hvl hws
  cases ws with
  | nil =>
    have hfin : Hid (O = none) := by show _ = _; rw [HFC.out]; rfl
    clear hsz
    go_enter Tryz.func40, Tryz.ntmps40
    go_wp2_with fail
    go_ret
    exact Parsed.no hfin.out P0.out.be
  | cons x rest =>
    obtain ⟨n, hn⟩ : ∃ n, n = (x :: rest).length := ⟨_, rfl⟩
    have hnr : n = rest.length + 1 := hn
    rw [← hn] at hvc HVA ⊢
    obtain ⟨bn, on, rfl, hnc⟩ := texts_at (by have h := HVA.out; rw [hn] at h; exact h) (by simp)
    have ny0 : (w.alloc (.cells #[.slice A l.length c] 35)).cell? ⟨bn, on, none⟩ = some (.string x) := cell_after (hnc 0 (by simp)) P0.out.be
    have hn0 : (n == 0) = false := by rw [beq_eq_false_iff_ne]; omega
    have hni : ((n : Int) == 0) = false := by rw [beq_eq_false_iff_ne]; omega
    have h0i : (0 : Int) < (n : Int) := by omega
    have ph := fun w => i_ParseHex x (hsz x List.mem_cons_self) w
    obtain ⟨bs, hbs⟩ : ∃ bs, bs = parseB x.data.toList := ⟨_, rfl⟩
    obtain ⟨iok, hiok⟩ : ∃ iok, iok = parseBOk x.data.toList := ⟨_, rfl⟩
    rw [← hbs, ← hiok] at ph
    have PH := Lib.hid ph
    have hrest : Hid (O = if iok = true then some { r with bytes := bs } else none) := by
      show _ = _
      rw [HFC.out, hiok, hbs]; rfl
    clear hnc ph hbs hiok hn hnr hsz
    go_enter Tryz.func40, Tryz.ntmps40
    go_wp2_with fail
    refine (PH.out _).mono ?_
    rintro e w5 ⟨v5, rfl, hov, hb5⟩
    have P5 := Lib.hid (P0.out.step hb5)
    have X5 := Lib.hid (HX.out.below hb5)
    have H5 := Lib.hid (H4.out.below hb5)
    have K5 := Lib.hid (K0.out.trans (Keep.below hb5))
    have OV := Lib.hid (own_mono hov P0.out.be.size)
    obtain ⟨_, A5, c5, rfl, _, _, _⟩ := Rd.of_own hov
    have e4 : w5.cell? ⟨gr, 4, none⟩ = some vb := X5.out.cell 4
    have f4 := X5.out.frozen 4
    have O6 := Lib.hid (own_set_other4 (j := 4) (u := .slice A5 bs.length c5) OV.out X5.out (by decide))
    clear hov hb5
    cases iok
    · have hfin : Hid (O = none) := by show _ = _; rw [hrest.out]; rfl
      go_wp2_with fail
      go_ret
      exact Parsed.no hfin.out (below_set P5.out.be P5.out.ge _)
    · have hfin : Hid (O = some { r with bytes := bs }) := by show _ = _; rw [hrest.out]; rfl
      go_wp2_with fail
      go_ret
      have h := H5.out.setBox (j := 4) (u := .slice A5 bs.length c5) X5.out
      exact Parsed.yes hfin.out ⟨⟨_, vn, vt, vk, X5.out.set 4 _, ⟨O6.out, h.n, h.t, h.k, h.tk⟩⟩, P5.out.ge, below_set P5.out.be P5.out.ge _⟩ (K5.out.trans (Keep.set X5.out))

set_option maxRecDepth 100000 in
set_option maxHeartbeats 8000000 in
theorem i_fieldsNo (d : Value) (l : List RuleD) (w2 : World) (gr : Nat) (r : RuleD) (va : Value) (ws : List ByteArray) (hkd : ¬ (1 ≤ r.kind ∧ r.kind ≤ 10)) (hsz : ∀ s ∈ ws, s.size ≤ 4194304) (hln : l.length ≤ 1048576) (hws : r.kids.length + ws.length ≤ 4194304 ∧ r.names.length + ws.length ≤ 4194304 ∧ r.tags.length + ws.length ≤ 4194304) (w : World) (hd : RdDesc w2 d l) (hv : Rd w2 va 1 ws.length (cS ws)) (h : PSt w2 gr r w) :
    Calls Tryz.prog 40 #[d, .pointer (some ⟨gr, 0, none⟩), va] w (Parsed w2 gr (fieldsP l r ws) w) := by
  obtain ⟨v, rfl, hdv⟩ := hd
  obtain ⟨A, c, rfl, hnc, hcm, hcell⟩ := hdv.all
  obtain ⟨hvl, Av, cv, rfl, hvc, hvm, _⟩ := id hv
  unfold maxLen at hcm hvm
  have HV := Lib.hid hdv
  have HVA := Lib.hid hv
  have HSZ := Lib.hid hsz
  have HWS := Lib.hid hws
  obtain ⟨O, hO⟩ : ∃ O, O = fieldsP l r ws := ⟨_, rfl⟩
  rw [← hO]
  have HO := Lib.hid hO
  have P0 := Lib.hid (h.step (w' := w.alloc (.cells #[.slice A l.length c] 35)) ((Below.refl _ _).alloc (Nat.le_refl _) _))
  have K0 := Lib.hid (Keep.alloc w (.cells #[.slice A l.length c] 35))
  obtain ⟨vb, vn, vt, vk, hx, h4⟩ := P0.out.st
  have HX := Lib.hid hx
  have H4 := Lib.hid h4
  have e1 : (w.alloc (.cells #[.slice A l.length c] 35)).cell? ⟨gr, 1, none⟩ = some (.int .i64 r.kind) := hx.cell 1
  have n1 : (r.kind == 1) = false := by rw [beq_eq_false_iff_ne]; omega
  have n2 : (r.kind == 2) = false := by rw [beq_eq_false_iff_ne]; omega
  have n3 : (r.kind == 3) = false := by rw [beq_eq_false_iff_ne]; omega
  have n4 : (r.kind == 4) = false := by rw [beq_eq_false_iff_ne]; omega
  have n5 : (r.kind == 5) = false := by rw [beq_eq_false_iff_ne]; omega
  have n6 : (r.kind == 6) = false := by rw [beq_eq_false_iff_ne]; omega
  have n7 : (r.kind == 7) = false := by rw [beq_eq_false_iff_ne]; omega
  have n8 : (r.kind == 8) = false := by rw [beq_eq_false_iff_ne]; omega
  have n9 : (r.kind == 9) = false := by rw [beq_eq_false_iff_ne]; omega
  have n10 : (r.kind == 10) = false := by rw [beq_eq_false_iff_ne]; omega
  have hfin : Hid (O = none) := hO.trans (fields_no hkd)
  clear hcell hdv hv hO hx h4 h hvl hsz hws hkd
  go_enter Tryz.func40, Tryz.ntmps40
  go_wp2_with fail
  go_ret
  exact Parsed.no hfin.out P0.out.be

end Go.Proofs.YtkjjgpkegihmhaaGreatDoor
