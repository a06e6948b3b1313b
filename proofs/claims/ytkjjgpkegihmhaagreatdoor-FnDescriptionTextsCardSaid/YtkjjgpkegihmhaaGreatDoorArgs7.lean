/-
  l6Args of the reference, a choice, and all kinds.
-/
import Derived.Test.YtkjjgpkegihmhaaGreatDoorArgsS
import Derived.Test.YtkjjgpkegihmhaaGreatDoorGJ
import Derived.Deep.DeepCutAuto
namespace Go.Proofs.YtkjjgpkegihmhaaGreatDoor
open Go.RowKit
set_option linter.unusedVariables false

set_option maxRecDepth 100000 in
set_option maxHeartbeats 8000000 in
theorem s_args7 (d : Value) (l : List RuleD) (nm : ByteArray) (kd : Int) (va : Value) (ws : List ByteArray) (hkd : kd = 7) (hnm : nm.size ≤ 1048576) (hkr : 0 ≤ kd ∧ kd ≤ 10) (h1 : 1 ≤ ws.length) (hws : ws.length ≤ 1048576) (hsz : ∀ s ∈ ws, s.size ≤ 1048576) (hln : l.length ≤ 1048576) (w : World) (hd : RdDesc w d l) (hv : Rd w va 1 ws.length (cS ws)) :
    Calls Tryz.prog 33 #[d, .agg #[.string nm, .int .i64 kd, .int .i64 0, .bool false, .slice none 0 0, .slice none 0 0, .slice none 0 0, .slice none 0 0], va] w (MadeA ws.length (argsS l ⟨nm, kd, 0, false, [], [], [], []⟩ ws) w) := by
  subst hkd
  obtain ⟨v, rfl, hdv⟩ := hd
  obtain ⟨A, c, rfl, hnc, hcm, hcell⟩ := hdv.all
  obtain ⟨hvl, Av, cv, rfl, hvc, hvm, _⟩ := id hv
  unfold maxLen at hcm hvm
  have HV := Lib.hid hdv
  have HVA := Lib.hid hv
  have HSZ := Lib.hid hsz
  obtain ⟨O, hO⟩ : ∃ O, O = argsS l ⟨nm, 7, 0, false, [], [], [], []⟩ ws := ⟨_, rfl⟩
  rw [← hO]
  have FIT0 := Lib.hid (show ∀ (sz : Int) (li : Bool) (bs : List UInt8) (ns : List ByteArray) (ts ks : List Int), (0 ≤ sz ∧ sz ≤ 1000000000000) → (∀ x ∈ ns, x.size ≤ 1048576) → (∀ x ∈ ts, 0 ≤ x ∧ x ≤ 1000000000000) → (∀ x ∈ ks, 0 ≤ x ∧ x ≤ 1048576) → Fit ⟨nm, 7, sz, li, bs, ns, ts, ks⟩ from fun sz li bs ns ts ks a1 a2 a3 a4 => ⟨hnm, a2, hkr, a1, a3, a4⟩)
  obtain ⟨w1, hw1⟩ : ∃ w1, w1 = (((w.alloc (.cells #[.slice A l.length c] 35)).alloc (.cells #[.string nm, .int .i64 7, .int .i64 0, .bool false, .slice none 0 0, .slice none 0 0, .slice none 0 0, .slice none 0 0] 30)).alloc (.cells #[.string ⟨#[]⟩, .int .i64 0, .int .i64 0, .bool false, .slice none 0 0, .slice none 0 0, .slice none 0 0, .slice none 0 0] 30)) := ⟨_, rfl⟩
  have D1 := Lib.hid (show Box w1 w.heap.size 35 #[.slice A l.length c] by rw [hw1]; exact ((Box.new w _ _).alloc _).alloc _)
  have R1 := Lib.hid (show Box w1 (w.heap.size + 1) 30 #[.string nm, .int .i64 7, .int .i64 0, .bool false, .slice none 0 0, .slice none 0 0, .slice none 0 0, .slice none 0 0] by rw [hw1]; exact (box_new1 w _ _ _).alloc _)
  have Z1 := Lib.hid (show Box w1 (w.heap.size + 1 + 1) 30 #[.string ⟨#[]⟩, .int .i64 0, .int .i64 0, .bool false, .slice none 0 0, .slice none 0 0, .slice none 0 0, .slice none 0 0] by rw [hw1]; exact box_new2 w _ _ _ _)
  have B1 := Lib.hid (show Below w.heap.size w w1 by rw [hw1]; exact (((Below.refl _ _).alloc (Nat.le_refl _) _).alloc (by simp) _).alloc (by simp; omega) _)
  have W1 := Lib.hid hw1
  have Z0 := Lib.hid (show (0 : Int) ≤ 0 ∧ (0 : Int) ≤ 1000000000000 by omega)
  clear hdv hcell hvl hw1 hnm hkr hsz
  have HFC : Hid (O = choS l ⟨nm, 7, 0, false, [], [], [], []⟩ ws) := by show _ = _; rw [hO]; unfold argsS; rw [if_neg (by simp), if_neg (by simp), if_neg (by simp), if_pos rfl]
  clear hO hv
  cases ws with
  | nil => simp at h1
  | cons x t =>
    obtain ⟨n, hn⟩ : ∃ n, n = (x :: t).length := ⟨_, rfl⟩
    have hnr : n = t.length + 1 := hn
    rw [← hn] at hvc hws HVA ⊢
    have htl : t.length = n - 1 := by omega
    obtain ⟨bn, on, rfl, hnc⟩ := texts_at (by have h := HVA.out; rw [hn] at h; exact h) (by simp)
    have HX := Lib.hid (show w.cell? ⟨bn, on, none⟩ = some (.string x) from hnc 0 (by simp))
    have hbl : bn < w.heap.size := World.block_lt_of_cell? w _ HX.out
    have hbne : bn ≠ w.heap.size + 1 := by omega
    have hbne2 : w.heap.size + 1 ≠ bn := by omega
    have h0i : (0 : Int) < (n : Int) := by omega
    have hn0 : 0 < n := by omega
    have dn0 : decide (0 < n) = true := by simp; omega
    have gg0 : (0 : Int) ≤ 0 := by omega
    have e1 : (0 : Int) ≤ 1 := by omega
    have e2 : (1 : Int) ≤ (n : Int) := by omega
    have e3 : (1 : Int) ≤ (cv : Int) := by omega
    have hB2 := Rd.back_if (k := 1) (xs := x :: t) HVA.out hvc (by unfold maxLen; omega) (by omega)
    rw [Option.map_some, List.drop_succ_cons, List.drop_zero] at hB2
    obtain ⟨B, hB⟩ : ∃ B, (if cv = 1 then some (⟨bn, on, none⟩ : Addr) else some ⟨bn, on + 1, none⟩) = B := ⟨_, rfl⟩
    rw [hB] at hB2
    have HB2 := Lib.hid hB2
    have PR := Lib.hid (fun va w hv => s_l6Pairs va t (by omega) (fun s hs => Nat.le_trans (HSZ.out s (List.mem_cons_of_mem _ hs)) (by omega)) w hv)
    have HTL := Lib.hid htl
    have HN := Lib.hid hnr
    clear hnc hn hnr hB2 h1 htl
    go_enter Tryz.func33, Tryz.ntmps33
    go_wp2_with fail
    refine (PR.out _ _ (by rw [HTL.out]; exact HB2.out.below (by rw [← W1.out]; exact B1.out))).mono ?_
    rintro e w5 ⟨va5, vb5, xa, xb, rfl, hoa, hob, hb5, hall, hla, hlb, q0, hqa, hqb⟩
    rw [← W1.out] at hoa hob hb5
    have B5 := Lib.hid (Below.then_ B1.out hb5 (Nat.le_refl _))
    have D5 := Lib.hid (D1.out.below hb5)
    have R5 := Lib.hid (R1.out.below hb5)
    have Z5 := Lib.hid (Z1.out.below hb5)
    obtain ⟨_, A5, c5, rfl, _, _, _⟩ := Rd.of_own hoa
    obtain ⟨_, A6, c6, rfl, _, hm6, _⟩ := Rd.of_own hob
    unfold maxLen at hm6
    have OA := Lib.hid (own_mono hoa B1.out.size)
    have OB := Lib.hid (own_mono hob B1.out.size)
    have HALL := Lib.hid hall
    have HLA := Lib.hid hla
    have HLB := Lib.hid hlb
    have HQA := Lib.hid hqa
    have KI := Lib.hid (fun va w hd hv => s_l6Kids (.agg #[.slice A l.length c]) l va ([x] ++ xb) (by have := HLB.out; have := HN.out; simp; omega) w hd hv)
    have KEEP := Lib.hid (show ∀ W, Below w5.heap.size w5 W → W.cell? ⟨w.heap.size, 0, none⟩ = some (.slice A l.length c) ∧ W.cell? ⟨bn, on, none⟩ = some (.string x) from fun W hb => ⟨(D5.out.below hb).cell 0, cell_after (cell_after HX.out B5.out) hb⟩)
    have TI := Lib.hid (fun w hv => s_l6Tags (.slice A5 xa.length c5) xa (by have := HLA.out; have := HN.out; omega) (fun s hs => by rw [HQA.out] at hs; obtain ⟨u, hu, rfl⟩ := List.mem_map.1 hs; exact sLeft_le (Nat.le_trans (HSZ.out u (List.mem_cons_of_mem _ (List.mem_of_mem_take hu))) (by omega))) w hv)
    obtain ⟨fn, hfn⟩ : ∃ fn, fn = t.all sOk := ⟨_, rfl⟩
    have HFN := Lib.hid hfn
    rw [← hfn]
    obtain ⟨ko, hko⟩ : ∃ ko, ko = kidsL l ([x] ++ xb) := ⟨_, rfl⟩
    have HKO := Lib.hid hko
    rw [← hko] at KI
    obtain ⟨tg, hto⟩ : ∃ tg, tg = tagsO xa := ⟨_, rfl⟩
    have HTO := Lib.hid hto
    rw [← hto] at TI
    obtain ⟨j0, hjf, hy0, hy1, hy2⟩ := info_parts info_String
    have hxb : xb.length ≤ 1048576 := by have := HLB.out; have := HTL.out; omega
    have y0 : w5.cell? ⟨w.heap.size + 1, 0, none⟩ = some (.string nm) := R5.out.cell 0
    have f0 : w5.frozen? ⟨w.heap.size + 1, 0, none⟩ = false := R5.out.frozen 0
    have y1 : w5.cell? ⟨w.heap.size + 1, 1, none⟩ = some (.int .i64 7) := R5.out.cell 1
    have f1 : w5.frozen? ⟨w.heap.size + 1, 1, none⟩ = false := R5.out.frozen 1
    have y2 : w5.cell? ⟨w.heap.size + 1, 2, none⟩ = some (.int .i64 0) := R5.out.cell 2
    have f2 : w5.frozen? ⟨w.heap.size + 1, 2, none⟩ = false := R5.out.frozen 2
    have y3 : w5.cell? ⟨w.heap.size + 1, 3, none⟩ = some (.bool false) := R5.out.cell 3
    have f3 : w5.frozen? ⟨w.heap.size + 1, 3, none⟩ = false := R5.out.frozen 3
    have y4 : w5.cell? ⟨w.heap.size + 1, 4, none⟩ = some (.slice none 0 0) := R5.out.cell 4
    have f4 : w5.frozen? ⟨w.heap.size + 1, 4, none⟩ = false := R5.out.frozen 4
    have y5 : w5.cell? ⟨w.heap.size + 1, 5, none⟩ = some (.slice none 0 0) := R5.out.cell 5
    have f5 : w5.frozen? ⟨w.heap.size + 1, 5, none⟩ = false := R5.out.frozen 5
    have y6 : w5.cell? ⟨w.heap.size + 1, 6, none⟩ = some (.slice none 0 0) := R5.out.cell 6
    have f6 : w5.frozen? ⟨w.heap.size + 1, 6, none⟩ = false := R5.out.frozen 6
    have y7 : w5.cell? ⟨w.heap.size + 1, 7, none⟩ = some (.slice none 0 0) := R5.out.cell 7
    have f7 : w5.frozen? ⟨w.heap.size + 1, 7, none⟩ = false := R5.out.frozen 7
    have KEEPR := Lib.hid (show ∀ W, Below w5.heap.size w5 W → Box W (w.heap.size + 1) 30 #[.string nm, .int .i64 7, .int .i64 0, .bool false, .slice none 0 0, .slice none 0 0, .slice none 0 0, .slice none 0 0] ∧ Box W (w.heap.size + 1 + 1) 30 #[.string ⟨#[]⟩, .int .i64 0, .int .i64 0, .bool false, .slice none 0 0, .slice none 0 0, .slice none 0 0, .slice none 0 0] from fun W hb => ⟨R5.out.below hb, Z5.out.below hb⟩)
    clear hb5 hoa hob hall hla hlb hqa hqb hfn hko hto
    go_wp2_with fail
    go_cut [8] (fun s8 wx => ∃ v7 xk, s8 = .bool ko.isSome ∧ wx.ownsRow w.heap.size 3 1 v7 xk.length (cI xk) ∧ (∀ ys, ko = some ys → xk = ys) ∧ xk.length ≤ n ∧ Box wx (w.heap.size + 1) 30 #[.string nm, .int .i64 7, .int .i64 0, .bool false, .slice none 0 0, .slice none 0 0, .slice none 0 0, v7] ∧ Box wx (w.heap.size + 1 + 1) 30 #[.string ⟨#[]⟩, .int .i64 0, .int .i64 0, .bool false, .slice none 0 0, .slice none 0 0, .slice none 0 0, .slice none 0 0] ∧ Below w.heap.size w wx ∧ wx.ownsRow w.heap.size 9 1 (.slice A5 xa.length c5) xa.length (cS xa))
    case first =>
      go_region_held3 (fun W => W.cell? ⟨w.heap.size, 0, none⟩ = some (.slice A l.length c) ∧ W.cell? ⟨bn, on, none⟩ = some (.string x))
        (first | exact KEEP.out _ (by first | ((repeat (first | with_reducible exact B8.out | with_reducible exact B9.out | with_reducible exact Below.refl _ _ | with_reducible refine Below.drew ?_ | with_reducible refine Below.alloc ?_ ?_ _ | (show (_ : Nat) ≤ _; (try simp) <;> omega))); done) | fail) | ((try dsimp only); refine ⟨?_, ?_⟩ <;> (go_keep; done)) | go_keep)
        (first
          | (refine step_append_rd _ (by rfl) (.tmp 91) (.tmp 92) 27 (by rfl) w5.heap.size 9 j0 (.string ⟨#[]⟩) 1 16 Tryz.underlying27 hjf hy0 hy1 hy2 (by rfl) (by decide) (.slice (some ⟨w5.heap.size, 0, none⟩) 1 1) 1 (cS [x]) (by rfl) (by first | exact World.ownsRow.drew (by simpa [cS] using World.ownsRow_lit (base := w5.heap.size) (e := 9) (size := 1) w5 #[.string x] 1 (Nat.le_refl _) (by unfold maxLen; omega) rfl) | (simpa [cS] using World.ownsRow_lit (base := w5.heap.size) (e := 9) (size := 1) w5.drew #[.string x] 1 (Nat.le_refl _) (by unfold maxLen; omega) rfl)) (.slice A6 xb.length c6) xb.length (cS xb) (by rfl) ((Rd.of_own OB.out).below (by first | ((repeat (first | with_reducible exact B8.out | with_reducible exact B9.out | with_reducible exact Below.refl _ _ | with_reducible refine Below.drew ?_ | with_reducible refine Below.alloc ?_ ?_ _ | (show (_ : Nat) ≤ _; (try simp) <;> omega))); done) | fail)) (cS_one xb) (by unfold maxLen; omega) (by omega) (by (try simp) <;> omega) ?_; intro v8 w8 ho8 hg8 hp8; obtain ⟨A8, c8, rfl⟩ : ∃ A c, v8 = .slice A (1 + xb.length) c := (by obtain ⟨_, A, c, h, _⟩ := Rd.of_own ho8; exact ⟨A, c, h⟩); have O8 := Lib.hid (show w8.ownsRow w5.heap.size 9 1 (.slice A8 (1 + xb.length) c8) (1 + xb.length) (cS ([x] ++ xb)) from (by rw [cS_append]; exact ho8)); have B8 := Lib.hid (show Below w5.heap.size w5 w8 from Below.grown (by first | ((repeat (first | with_reducible exact B8.out | with_reducible exact B9.out | with_reducible exact Below.refl _ _ | with_reducible refine Below.drew ?_ | with_reducible refine Below.alloc ?_ ?_ _ | (show (_ : Nat) ≤ _; (try simp) <;> omega))); done) | fail) hg8 (by (try simp) <;> omega) (fun k hk => by simp [Value.ownBlock] at hk; omega)); have hz8 := B8.out.size; clear ho8 hg8 hp8)
          | (go_at_call 72; refine (KI.out _ _ ⟨_, rfl, HV.out.below (Below.then_ B5.out B8.out (Nat.le_refl _))⟩ (by rw [show ([x] ++ xb).length = 1 + xb.length from by simp; omega]; exact Rd.of_own O8.out)).mono ?_; rintro e w9 ⟨v9, xk, rfl, ho9, hb9, hys9, hxl9⟩; obtain ⟨_, A9, c9, rfl, _, _, _⟩ := Rd.of_own ho9; have O9 := Lib.hid ho9; have B9 := Lib.hid (Below.then_ B8.out hb9 (Nat.le_refl _)); have HYS := Lib.hid hys9; have HXL := Lib.hid hxl9; have E8 := Lib.hid B8.out.size; have x97 := (KEEPR.out _ B9.out).1.cell 7; have f97 := (KEEPR.out _ B9.out).1.frozen 7; clear ho9 hb9 hys9 hxl9)
          | fail)
      all_goals
        go_wp2_with fail
        go_meet
        have R9 := (KEEPR.out _ B9.out).1
        have Z9 := (KEEPR.out _ B9.out).2
        refine ⟨_, xk, rfl, ?_, HYS.out, ?_, R9.set 7 _, Z9.setOther _ (by show w.heap.size + 1 + 1 ≠ w.heap.size + 1; omega) _, below_set (Below.then_ B5.out B9.out (Nat.le_refl _)) (Nat.le_succ _) _, ?_⟩
        · exact own_set_other4 (own_mono O9.out (Nat.le_trans B5.out.size E8.out)) R9 (by decide)
        · have h1 := HXL.out
          have h2 := HLB.out
          have h3 := HN.out
          simp at h1
          omega
        · exact own_set_other4 (own_below OA.out B9.out) R9 (by decide)
    case rest =>
      obtain ⟨v7, xk, rfl, ho7, hys, hxk, hr7, hz7, hb7, hoa7⟩ := hcut
      rename World => w7
      obtain ⟨_, A7, c7, rfl, _, _, _⟩ := Rd.of_own ho7
      have O7 := Lib.hid ho7
      have R7 := Lib.hid hr7
      have Z7 := Lib.hid hz7
      have B7 := Lib.hid hb7
      have OA7 := Lib.hid hoa7
      have HYS := Lib.hid hys
      have HXK := Lib.hid hxk
      clear ho7 hr7 hz7 hb7 hoa7 hys hxk y0 f0 y1 f1 y2 f2 y3 f3 y4 f4 y5 f5 y6 f6 y7 f7
      go_wp2_with fail
      refine (TI.out _ (Rd.of_own OA7.out)).mono ?_
      rintro e w9 ⟨v9, xt, rfl, ho9, hb9, hts, htl⟩
      obtain ⟨_, A9, c9, rfl, _, _, _⟩ := Rd.of_own ho9
      have B9 := Lib.hid (Below.then_ B7.out hb9 (Nat.le_refl _))
      have R5 := Lib.hid (R7.out.below hb9)
      have Z5 := Lib.hid (Z7.out.below hb9)
      have OT := Lib.hid (own_mono ho9 B7.out.size)
      have OK := Lib.hid (own_below O7.out hb9)
      have AP := Lib.hid (own_later O7.out ho9)
      have HTS := Lib.hid hts
      have HTLN := Lib.hid htl
      have y0 : w9.cell? ⟨w.heap.size + 1, 0, none⟩ = some (.string nm) := R5.out.cell 0
      have f0 : w9.frozen? ⟨w.heap.size + 1, 0, none⟩ = false := R5.out.frozen 0
      have y1 : w9.cell? ⟨w.heap.size + 1, 1, none⟩ = some (.int .i64 7) := R5.out.cell 1
      have f1 : w9.frozen? ⟨w.heap.size + 1, 1, none⟩ = false := R5.out.frozen 1
      have y2 : w9.cell? ⟨w.heap.size + 1, 2, none⟩ = some (.int .i64 0) := R5.out.cell 2
      have f2 : w9.frozen? ⟨w.heap.size + 1, 2, none⟩ = false := R5.out.frozen 2
      have y3 : w9.cell? ⟨w.heap.size + 1, 3, none⟩ = some (.bool false) := R5.out.cell 3
      have f3 : w9.frozen? ⟨w.heap.size + 1, 3, none⟩ = false := R5.out.frozen 3
      have y4 : w9.cell? ⟨w.heap.size + 1, 4, none⟩ = some (.slice none 0 0) := R5.out.cell 4
      have f4 : w9.frozen? ⟨w.heap.size + 1, 4, none⟩ = false := R5.out.frozen 4
      have y5 : w9.cell? ⟨w.heap.size + 1, 5, none⟩ = some (.slice none 0 0) := R5.out.cell 5
      have f5 : w9.frozen? ⟨w.heap.size + 1, 5, none⟩ = false := R5.out.frozen 5
      have y6 : w9.cell? ⟨w.heap.size + 1, 6, none⟩ = some (.slice none 0 0) := R5.out.cell 6
      have f6 : w9.frozen? ⟨w.heap.size + 1, 6, none⟩ = false := R5.out.frozen 6
      have y7 : w9.cell? ⟨w.heap.size + 1, 7, none⟩ = some (.slice A7 xk.length c7) := R5.out.cell 7
      have f7 : w9.frozen? ⟨w.heap.size + 1, 7, none⟩ = false := R5.out.frozen 7
      have z0 : w9.cell? ⟨w.heap.size + 1 + 1, 0, none⟩ = some (.string ⟨#[]⟩) := Z5.out.cell 0
      have q0 : w9.frozen? ⟨w.heap.size + 1 + 1, 0, none⟩ = false := Z5.out.frozen 0
      have z1 : w9.cell? ⟨w.heap.size + 1 + 1, 1, none⟩ = some (.int .i64 0) := Z5.out.cell 1
      have q1 : w9.frozen? ⟨w.heap.size + 1 + 1, 1, none⟩ = false := Z5.out.frozen 1
      have z2 : w9.cell? ⟨w.heap.size + 1 + 1, 2, none⟩ = some (.int .i64 0) := Z5.out.cell 2
      have q2 : w9.frozen? ⟨w.heap.size + 1 + 1, 2, none⟩ = false := Z5.out.frozen 2
      have z3 : w9.cell? ⟨w.heap.size + 1 + 1, 3, none⟩ = some (.bool false) := Z5.out.cell 3
      have q3 : w9.frozen? ⟨w.heap.size + 1 + 1, 3, none⟩ = false := Z5.out.frozen 3
      have z4 : w9.cell? ⟨w.heap.size + 1 + 1, 4, none⟩ = some (.slice none 0 0) := Z5.out.cell 4
      have q4 : w9.frozen? ⟨w.heap.size + 1 + 1, 4, none⟩ = false := Z5.out.frozen 4
      have z5 : w9.cell? ⟨w.heap.size + 1 + 1, 5, none⟩ = some (.slice none 0 0) := Z5.out.cell 5
      have q5 : w9.frozen? ⟨w.heap.size + 1 + 1, 5, none⟩ = false := Z5.out.frozen 5
      have z6 : w9.cell? ⟨w.heap.size + 1 + 1, 6, none⟩ = some (.slice none 0 0) := Z5.out.cell 6
      have q6 : w9.frozen? ⟨w.heap.size + 1 + 1, 6, none⟩ = false := Z5.out.frozen 6
      have z7 : w9.cell? ⟨w.heap.size + 1 + 1, 7, none⟩ = some (.slice none 0 0) := Z5.out.cell 7
      have q7 : w9.frozen? ⟨w.heap.size + 1 + 1, 7, none⟩ = false := Z5.out.frozen 7
      clear ho9 hb9 hts htl
      cases fn
      · have hno : Hid (¬ (t.all sOk = true ∧ (t.map sLeft).all tagOk = true)) := fun h => by rw [← HFN.out] at h; exact absurd h.1 (by simp)
        cases ko
        · rw [show (none : Option (List Int)).isSome = false from rfl]
          cases tg
          · rw [show (none : Option (List Int)).isSome = false from rfl]
            have hres : Hid (O = none) := by show _ = _; rw [HFC.out]; show (if t.all sOk = true ∧ (t.map sLeft).all tagOk = true then _ else none) = _; rw [if_neg hno.out]
            go_wp2_with fail
            refine bodyPost_ret (v := .tuple #[.agg #[.string nm, .int .i64 7, .int .i64 0, .bool false, .slice none 0 0, .slice none 0 0, .slice A9 xt.length c9, .slice A7 xk.length c7], .bool false]) (by simp [results, Tryz.results33, go_sem, z0, z1, z2, z3, z4, z5, z6, z7]) rfl ?_
            exact MadeA.mk_ (x := ⟨nm, 7, 0, false, [], [], xt, xk⟩) (by rw [hres.out]; rfl) (((show Rows4 w9 w.heap.size ⟨nm, 7, 0, false, [], [], xt, xk⟩ (.slice none 0 0) (.slice none 0 0) (.slice A9 xt.length c9) (.slice A7 xk.length c7) from ⟨World.ownsRow_nil _ _ _ _, World.ownsRow_nil _ _ _ _, OT.out, OK.out, AP.out⟩).setBox (j := 6) (u := .slice A9 xt.length c9) R5.out).all8 (Z5.out.setOther ⟨w.heap.size + 1, 6, none⟩ (Nat.ne_of_gt (Nat.lt_succ_self _)) (.slice A9 xt.length c9))) (Below.all8 (below_set (j := 6) B9.out (Nat.le_succ _) (.slice A9 xt.length c9)) (Nat.le_trans (Nat.le_succ _) (Nat.le_succ _)) _ _ _ _ _ _ _ _) (by intro y hy; rw [hres.out] at hy; cases hy)
          · rename_i ts
            rw [show (some ts).isSome = true from rfl]
            have hres : Hid (O = none) := by show _ = _; rw [HFC.out]; show (if t.all sOk = true ∧ (t.map sLeft).all tagOk = true then _ else none) = _; rw [if_neg hno.out]
            go_wp2_with fail
            refine bodyPost_ret (v := .tuple #[.agg #[.string nm, .int .i64 7, .int .i64 0, .bool false, .slice none 0 0, .slice none 0 0, .slice A9 xt.length c9, .slice A7 xk.length c7], .bool false]) (by simp [results, Tryz.results33, go_sem, z0, z1, z2, z3, z4, z5, z6, z7]) rfl ?_
            exact MadeA.mk_ (x := ⟨nm, 7, 0, false, [], [], xt, xk⟩) (by rw [hres.out]; rfl) (((show Rows4 w9 w.heap.size ⟨nm, 7, 0, false, [], [], xt, xk⟩ (.slice none 0 0) (.slice none 0 0) (.slice A9 xt.length c9) (.slice A7 xk.length c7) from ⟨World.ownsRow_nil _ _ _ _, World.ownsRow_nil _ _ _ _, OT.out, OK.out, AP.out⟩).setBox (j := 6) (u := .slice A9 xt.length c9) R5.out).all8 (Z5.out.setOther ⟨w.heap.size + 1, 6, none⟩ (Nat.ne_of_gt (Nat.lt_succ_self _)) (.slice A9 xt.length c9))) (Below.all8 (below_set (j := 6) B9.out (Nat.le_succ _) (.slice A9 xt.length c9)) (Nat.le_trans (Nat.le_succ _) (Nat.le_succ _)) _ _ _ _ _ _ _ _) (by intro y hy; rw [hres.out] at hy; cases hy)
        · rename_i ks
          rw [show (some ks).isSome = true from rfl]
          cases tg
          · rw [show (none : Option (List Int)).isSome = false from rfl]
            have hres : Hid (O = none) := by show _ = _; rw [HFC.out]; show (if t.all sOk = true ∧ (t.map sLeft).all tagOk = true then _ else none) = _; rw [if_neg hno.out]
            go_wp2_with fail
            refine bodyPost_ret (v := .tuple #[.agg #[.string nm, .int .i64 7, .int .i64 0, .bool false, .slice none 0 0, .slice none 0 0, .slice A9 xt.length c9, .slice A7 xk.length c7], .bool false]) (by simp [results, Tryz.results33, go_sem, z0, z1, z2, z3, z4, z5, z6, z7]) rfl ?_
            exact MadeA.mk_ (x := ⟨nm, 7, 0, false, [], [], xt, xk⟩) (by rw [hres.out]; rfl) (((show Rows4 w9 w.heap.size ⟨nm, 7, 0, false, [], [], xt, xk⟩ (.slice none 0 0) (.slice none 0 0) (.slice A9 xt.length c9) (.slice A7 xk.length c7) from ⟨World.ownsRow_nil _ _ _ _, World.ownsRow_nil _ _ _ _, OT.out, OK.out, AP.out⟩).setBox (j := 6) (u := .slice A9 xt.length c9) R5.out).all8 (Z5.out.setOther ⟨w.heap.size + 1, 6, none⟩ (Nat.ne_of_gt (Nat.lt_succ_self _)) (.slice A9 xt.length c9))) (Below.all8 (below_set (j := 6) B9.out (Nat.le_succ _) (.slice A9 xt.length c9)) (Nat.le_trans (Nat.le_succ _) (Nat.le_succ _)) _ _ _ _ _ _ _ _) (by intro y hy; rw [hres.out] at hy; cases hy)
          · rename_i ts
            rw [show (some ts).isSome = true from rfl]
            have hres : Hid (O = none) := by show _ = _; rw [HFC.out]; show (if t.all sOk = true ∧ (t.map sLeft).all tagOk = true then _ else none) = _; rw [if_neg hno.out]
            go_wp2_with fail
            refine bodyPost_ret (v := .tuple #[.agg #[.string nm, .int .i64 7, .int .i64 0, .bool false, .slice none 0 0, .slice none 0 0, .slice A9 xt.length c9, .slice A7 xk.length c7], .bool false]) (by simp [results, Tryz.results33, go_sem, z0, z1, z2, z3, z4, z5, z6, z7]) rfl ?_
            exact MadeA.mk_ (x := ⟨nm, 7, 0, false, [], [], xt, xk⟩) (by rw [hres.out]; rfl) (((show Rows4 w9 w.heap.size ⟨nm, 7, 0, false, [], [], xt, xk⟩ (.slice none 0 0) (.slice none 0 0) (.slice A9 xt.length c9) (.slice A7 xk.length c7) from ⟨World.ownsRow_nil _ _ _ _, World.ownsRow_nil _ _ _ _, OT.out, OK.out, AP.out⟩).setBox (j := 6) (u := .slice A9 xt.length c9) R5.out).all8 (Z5.out.setOther ⟨w.heap.size + 1, 6, none⟩ (Nat.ne_of_gt (Nat.lt_succ_self _)) (.slice A9 xt.length c9))) (Below.all8 (below_set (j := 6) B9.out (Nat.le_succ _) (.slice A9 xt.length c9)) (Nat.le_trans (Nat.le_succ _) (Nat.le_succ _)) _ _ _ _ _ _ _ _) (by intro y hy; rw [hres.out] at hy; cases hy)
      · have hxb : Hid (xb = t.map sRight) := (HALL.out HFN.out.symm).2
        have hxa : Hid (xa = t.map sLeft) := (HALL.out HFN.out.symm).1
        cases ko
        · rw [show (none : Option (List Int)).isSome = false from rfl]
          cases tg
          · rw [show (none : Option (List Int)).isSome = false from rfl]
            have hres : Hid (O = none) := by show _ = _; rw [HFC.out]; show (if t.all sOk = true ∧ (t.map sLeft).all tagOk = true then _ else none) = _; rw [if_neg (fun h => by have h2 := HTO.out; unfold tagsO at h2; rw [hxa.out, if_pos h.2] at h2; cases h2)]
            go_wp2_with fail
            refine bodyPost_ret (v := .tuple #[.agg #[.string nm, .int .i64 7, .int .i64 0, .bool false, .slice none 0 0, .slice none 0 0, .slice A9 xt.length c9, .slice A7 xk.length c7], .bool false]) (by simp [results, Tryz.results33, go_sem, z0, z1, z2, z3, z4, z5, z6, z7]) rfl ?_
            exact MadeA.mk_ (x := ⟨nm, 7, 0, false, [], [], xt, xk⟩) (by rw [hres.out]; rfl) (((show Rows4 w9 w.heap.size ⟨nm, 7, 0, false, [], [], xt, xk⟩ (.slice none 0 0) (.slice none 0 0) (.slice A9 xt.length c9) (.slice A7 xk.length c7) from ⟨World.ownsRow_nil _ _ _ _, World.ownsRow_nil _ _ _ _, OT.out, OK.out, AP.out⟩).setBox (j := 6) (u := .slice A9 xt.length c9) R5.out).all8 (Z5.out.setOther ⟨w.heap.size + 1, 6, none⟩ (Nat.ne_of_gt (Nat.lt_succ_self _)) (.slice A9 xt.length c9))) (Below.all8 (below_set (j := 6) B9.out (Nat.le_succ _) (.slice A9 xt.length c9)) (Nat.le_trans (Nat.le_succ _) (Nat.le_succ _)) _ _ _ _ _ _ _ _) (by intro y hy; rw [hres.out] at hy; cases hy)
          · rename_i ts
            rw [show (some ts).isSome = true from rfl]
            have hres : Hid (O = none) := by show _ = _; rw [HFC.out]; show (if t.all sOk = true ∧ (t.map sLeft).all tagOk = true then _ else none) = _; split; (· have h2 := HKO.out; rw [hxb.out] at h2; rw [show x :: t.map sRight = [x] ++ t.map sRight from rfl, ← h2]; rfl); rfl
            go_wp2_with fail
            refine bodyPost_ret (v := .tuple #[.agg #[.string nm, .int .i64 7, .int .i64 0, .bool false, .slice none 0 0, .slice none 0 0, .slice A9 xt.length c9, .slice A7 xk.length c7], .bool false]) (by simp [results, Tryz.results33, go_sem, z0, z1, z2, z3, z4, z5, z6, z7]) rfl ?_
            exact MadeA.mk_ (x := ⟨nm, 7, 0, false, [], [], xt, xk⟩) (by rw [hres.out]; rfl) (((show Rows4 w9 w.heap.size ⟨nm, 7, 0, false, [], [], xt, xk⟩ (.slice none 0 0) (.slice none 0 0) (.slice A9 xt.length c9) (.slice A7 xk.length c7) from ⟨World.ownsRow_nil _ _ _ _, World.ownsRow_nil _ _ _ _, OT.out, OK.out, AP.out⟩).setBox (j := 6) (u := .slice A9 xt.length c9) R5.out).all8 (Z5.out.setOther ⟨w.heap.size + 1, 6, none⟩ (Nat.ne_of_gt (Nat.lt_succ_self _)) (.slice A9 xt.length c9))) (Below.all8 (below_set (j := 6) B9.out (Nat.le_succ _) (.slice A9 xt.length c9)) (Nat.le_trans (Nat.le_succ _) (Nat.le_succ _)) _ _ _ _ _ _ _ _) (by intro y hy; rw [hres.out] at hy; cases hy)
        · rename_i ks
          rw [show (some ks).isSome = true from rfl]
          cases tg
          · rw [show (none : Option (List Int)).isSome = false from rfl]
            have hres : Hid (O = none) := by show _ = _; rw [HFC.out]; show (if t.all sOk = true ∧ (t.map sLeft).all tagOk = true then _ else none) = _; rw [if_neg (fun h => by have h2 := HTO.out; unfold tagsO at h2; rw [hxa.out, if_pos h.2] at h2; cases h2)]
            go_wp2_with fail
            refine bodyPost_ret (v := .tuple #[.agg #[.string nm, .int .i64 7, .int .i64 0, .bool false, .slice none 0 0, .slice none 0 0, .slice A9 xt.length c9, .slice A7 xk.length c7], .bool false]) (by simp [results, Tryz.results33, go_sem, z0, z1, z2, z3, z4, z5, z6, z7]) rfl ?_
            exact MadeA.mk_ (x := ⟨nm, 7, 0, false, [], [], xt, xk⟩) (by rw [hres.out]; rfl) (((show Rows4 w9 w.heap.size ⟨nm, 7, 0, false, [], [], xt, xk⟩ (.slice none 0 0) (.slice none 0 0) (.slice A9 xt.length c9) (.slice A7 xk.length c7) from ⟨World.ownsRow_nil _ _ _ _, World.ownsRow_nil _ _ _ _, OT.out, OK.out, AP.out⟩).setBox (j := 6) (u := .slice A9 xt.length c9) R5.out).all8 (Z5.out.setOther ⟨w.heap.size + 1, 6, none⟩ (Nat.ne_of_gt (Nat.lt_succ_self _)) (.slice A9 xt.length c9))) (Below.all8 (below_set (j := 6) B9.out (Nat.le_succ _) (.slice A9 xt.length c9)) (Nat.le_trans (Nat.le_succ _) (Nat.le_succ _)) _ _ _ _ _ _ _ _) (by intro y hy; rw [hres.out] at hy; cases hy)
          · rename_i ts
            rw [show (some ts).isSome = true from rfl]
            have htg : Hid ((t.map sLeft).all tagOk = true ∧ ts = (t.map sLeft).map tagNum) := by
              have h2 := HTO.out
              unfold tagsO at h2
              rw [hxa.out] at h2
              split at h2
              · rename_i ha
                injection h2 with h2
                exact ⟨ha, h2⟩
              · cases h2
            obtain rfl := HYS.out ks rfl
            obtain rfl := HTS.out ts rfl
            have KM := Lib.hid (kidsL_mem HKO.out.symm)
            have TM := Lib.hid (show ∀ y ∈ xt, 0 ≤ y ∧ y ≤ 1000000000000 from fun y hy => by
              rw [htg.out.2] at hy
              obtain ⟨s, hs, rfl⟩ := List.mem_map.1 hy
              exact parseNum_range _)
            have hres : Hid (O = some ⟨nm, 7, 0, false, [], [], xt, xk⟩) := by show _ = _; rw [HFC.out]; show (if t.all sOk = true ∧ (t.map sLeft).all tagOk = true then _ else none) = _; rw [if_pos ⟨HFN.out.symm, htg.out.1⟩]; have h2 := HKO.out; rw [hxb.out] at h2; rw [show x :: t.map sRight = [x] ++ t.map sRight from rfl, ← h2, htg.out.2]; rfl
            go_wp2_with fail
            refine bodyPost_ret (v := .tuple #[.agg #[.string nm, .int .i64 7, .int .i64 0, .bool false, .slice none 0 0, .slice none 0 0, .slice A9 xt.length c9, .slice A7 xk.length c7], .bool true]) (by simp [results, Tryz.results33, go_sem, z0, z1, z2, z3, z4, z5, z6, z7]) rfl ?_
            exact MadeA.mk_ (x := ⟨nm, 7, 0, false, [], [], xt, xk⟩) (by rw [hres.out]; rfl) (((show Rows4 w9 w.heap.size ⟨nm, 7, 0, false, [], [], xt, xk⟩ (.slice none 0 0) (.slice none 0 0) (.slice A9 xt.length c9) (.slice A7 xk.length c7) from ⟨World.ownsRow_nil _ _ _ _, World.ownsRow_nil _ _ _ _, OT.out, OK.out, AP.out⟩).setBox (j := 6) (u := .slice A9 xt.length c9) R5.out).all8 (Z5.out.setOther ⟨w.heap.size + 1, 6, none⟩ (Nat.ne_of_gt (Nat.lt_succ_self _)) (.slice A9 xt.length c9))) (Below.all8 (below_set (j := 6) B9.out (Nat.le_succ _) (.slice A9 xt.length c9)) (Nat.le_trans (Nat.le_succ _) (Nat.le_succ _)) _ _ _ _ _ _ _ _) (by intro y hy; rw [hres.out] at hy; injection hy with hy; exact ⟨hy, FIT0.out _ _ _ _ _ _ Z0.out (by simp) TM.out (fun x hx => by have := KM.out x hx; omega), by simp, by simp, by show xt.length ≤ _; have h1 := HTLN.out; have h2 := HLA.out; have h3 := HN.out; omega, HXK.out⟩)

theorem s_l6Args (d : Value) (l : List RuleD) (nm : ByteArray) (kd : Int) (va : Value) (ws : List ByteArray) (hnm : nm.size ≤ 1048576) (hkr : 0 ≤ kd ∧ kd ≤ 10) (h1 : 1 ≤ ws.length) (hws : ws.length ≤ 1048576) (hsz : ∀ s ∈ ws, s.size ≤ 1048576) (hln : l.length ≤ 1048576) (w : World) (hd : RdDesc w d l) (hv : Rd w va 1 ws.length (cS ws)) :
    Calls Tryz.prog 33 #[d, .agg #[.string nm, .int .i64 kd, .int .i64 0, .bool false, .slice none 0 0, .slice none 0 0, .slice none 0 0, .slice none 0 0], va] w (MadeA ws.length (argsS l ⟨nm, kd, 0, false, [], [], [], []⟩ ws) w) := by
  by_cases k1 : kd = 1
  · exact s_args1 d l nm kd va ws k1 hnm hkr h1 hws hsz hln w hd hv
  by_cases k2 : kd = 2
  · exact s_args2 d l nm kd va ws k2 hnm hkr h1 hws hsz hln w hd hv
  by_cases k3 : kd = 3
  · exact s_args3 d l nm kd va ws k3 hnm hkr h1 hws hsz hln w hd hv
  by_cases k6 : kd = 6
  · exact s_args6 d l nm kd va ws k6 hnm hkr h1 hws hsz hln w hd hv
  by_cases k7 : kd = 7
  · exact s_args7 d l nm kd va ws k7 hnm hkr h1 hws hsz hln w hd hv
  by_cases k10 : kd = 10
  · exact s_args10 d l nm kd va ws k10 hnm hkr h1 hws hsz hln w hd hv
  exact s_args0 d l nm kd va ws ⟨k1, k2, k3, k6, k7, k10⟩ hnm hkr h1 hws hsz hln w hd hv

end Go.Proofs.YtkjjgpkegihmhaaGreatDoor
