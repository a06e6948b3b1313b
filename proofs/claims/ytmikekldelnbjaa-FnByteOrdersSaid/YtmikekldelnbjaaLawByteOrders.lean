/-
  The law FnByteOrders: integers are read from their bytes in both orders, and the orders are reverse to each other.
-/
import Derived.Test.YtmikekldelnbjaaBig
import Derived.Test.YtmikekldelnbjaaDrawsTwo
import Derived.Test.YtmikekldelnbjaaBigEndian
import Derived.Test.YtmikekldelnbjaaLittleEndian
import Derived.Test.YtmikekldelnbjaaReadInt
import Derived.Test.YtmikekldelnbjaaLater
import Derived.Test.YtmikekldelnbjaaMaxS
import Derived.BigGuard
namespace Go.Proofs.Ytmikekldelnbjaa
open Go.RowKit
set_option linter.unusedVariables false

theorem be_from (l : List UInt8) : ∀ a : Nat, l.foldl (fun n x => n * 256 + x.toNat) a = a * 256 ^ l.length + be l := by
  induction l with
  | nil => intro a; simp [be]
  | cons x r ih =>
    intro a
    have h0 := ih (0 * 256 + x.toNat)
    have h1 := ih (a * 256 + x.toNat)
    have e : be (x :: r) = r.foldl (fun n x => n * 256 + x.toNat) (0 * 256 + x.toNat) := rfl
    rw [e, h0]
    show r.foldl (fun n x => n * 256 + x.toNat) (a * 256 + x.toNat) = _
    rw [h1, List.length_cons, Nat.pow_succ]
    have e1 : (a * 256 + x.toNat) * 256 ^ r.length = a * (256 ^ r.length * 256) + x.toNat * 256 ^ r.length := by rw [Nat.add_mul, Nat.mul_assoc, Nat.mul_comm 256]
    rw [e1, Nat.zero_mul, Nat.zero_add, Nat.add_assoc]
theorem be_cons (x : UInt8) (r : List UInt8) : be (x :: r) = x.toNat * 256 ^ r.length + be r := by
  show r.foldl (fun n x => n * 256 + x.toNat) (0 * 256 + x.toNat) = _
  rw [be_from, Nat.zero_mul, Nat.zero_add]
theorem be_big (n : Nat) : ∀ k, be (bigL n k) = n % 256 ^ k := by
  intro k
  induction k with
  | zero => simp [be, bigL, Nat.mod_one]
  | succ k ih =>
    rw [bigL, be_cons, ih, bigL_len, posB_toNat, Nat.mod_pow_succ, Nat.mul_comm, Nat.add_comm]
theorem read_big {n : Nat} {k : Nat} (hk : k ≤ 4) (hn : n < 256 ^ k) : readInt (bigL n k) false = n := by
  unfold readInt ordered
  rw [if_pos (by rw [bigL_len]; exact hk)]
  simp only [Bool.false_eq_true, if_false]
  rw [be_big, Nat.mod_eq_of_lt hn]
theorem read_little {n : Nat} {k : Nat} (hk : k ≤ 4) (hn : n < 256 ^ k) : readInt (bigL n k).reverse true = n := by
  unfold readInt ordered
  rw [if_pos (by rw [List.length_reverse, bigL_len]; exact hk)]
  simp only [if_true, List.reverse_reverse]
  rw [be_big, Nat.mod_eq_of_lt hn]

/-- The cells of a row of bytes. -/
theorem byte_cells {w : World} {v : Value} {l : List UInt8} {n : Nat} (h : Rd w v 1 n (cB l)) (hn : 0 < n) :
    ∃ b off c, v = .slice (some ⟨b, off, none⟩) n c ∧ n ≤ c ∧ c ≤ 2 ^ 63 - 1 ∧ ∀ j x, l[j]? = some x → w.cell? ⟨b, off + j, none⟩ = some (.int .u8 (x.toNat : Int)) := by
  obtain ⟨hl, A, c, rfl, h1, h2, h3⟩ := h
  obtain ⟨b, off, rfl, hc⟩ := h3 (by rw [hl]; omega)
  refine ⟨b, off, c, rfl, h1, by unfold maxLen at h2; omega, fun j x hx => hc j _ ?_⟩
  simp [cB, hx]

set_option maxRecDepth 100000 in
set_option maxHeartbeats 16000000 in
theorem law_FnByteOrders (v : Value) (l : List UInt8) (w : World) (hr : Rd w v 1 l.length (cB l)) :
    Calls Try.prog 12 #[v] w fun e w' => e = .returned (.bool true) ∧ Below w.heap.size w w' := by
  by_cases hbig : (1048576 : Int) < (l.length : Int)
  · have hd : decide ((1048576 : Int) < (l.length : Int)) = true := by simpa using hbig
    go_enter Try.func12, Try.ntmps12
    go_wp2_with fail
    refine (l_big v l _ hr).mono ?_
    rintro e w1 ⟨rfl, rfl⟩
    go_wp2_with fail
    go_ret
    exact ⟨rfl, Below.refl _ _⟩
  · have hd : decide ((1048576 : Int) < (l.length : Int)) = false := by simpa using hbig
    go_enter Try.func12, Try.ntmps12
    go_wp2_with fail
    refine (l_big v l _ hr).mono ?_
    rintro e w1 ⟨rfl, rfl⟩
    go_wp2_with fail
    refine (s_DrawBigEndian v l (by omega) _ hr).mono ?_
    rintro e w1 ⟨n, s, rfl, hn, hs, hb1⟩
    clear hbig hd
    have HB1 := Lib.hid hb1
    have IB := i_BigEndian n s (by omega) w1
    have IL := fun w => i_LittleEndian n s (by omega) w
    by_cases hbad : s < 1 ∨ 4 < s ∨ n < 0
    · have e0 : bigE n s = [] := bigE_not (by omega)
      rw [e0] at IB IL
      rw [List.reverse_nil] at IL
      have HIB := Lib.hid IB
      have HIL := Lib.hid IL
      clear IB IL e0 hb1
      go_wp2_with fail
      refine HIB.out.mono ?_
      rintro e w2 ⟨va, rfl, hoa, hb2⟩
      have HB2 := Lib.hid (Below.then_ HB1.out hb2 (Nat.le_refl _))
      obtain ⟨A, ca, rfl⟩ : ∃ A c, va = .slice A 0 c := by
        obtain ⟨_, A, c, h, _⟩ := Rd.of_own hoa
        exact ⟨A, c, h⟩
      clear hoa hb2
      go_wp2_with fail
      refine (HIL.out _).mono ?_
      rintro e w3 ⟨vb, rfl, hob, hb3⟩
      have HB3 := Lib.hid (Below.then_ HB2.out hb3 (Nat.le_refl _))
      obtain ⟨B, cb, rfl⟩ : ∃ A c, vb = .slice A 0 c := by
        obtain ⟨_, A, c, h, _⟩ := Rd.of_own hob
        exact ⟨A, c, h⟩
      clear hob hb3
      by_cases c1 : s < 1
      · have d1 : decide (s < 1) = true := by simpa using c1
        clear hbad
        go_wp2_with fail
        go_ret
        exact ⟨rfl, HB3.out⟩
      · have d1 : decide (s < 1) = false := by simpa using c1
        by_cases c2 : 4 < s
        · have d2 : decide (4 < s) = true := by simpa using c2
          clear hbad
          go_wp2_with fail
          go_ret
          exact ⟨rfl, HB3.out⟩
        · have d2 : decide (4 < s) = false := by simpa using c2
          have c3 : n < 0 := by omega
          have d3 : decide (n < 0) = true := by simpa using c3
          clear hbad
          go_wp2_with fail
          go_ret
          exact ⟨rfl, HB3.out⟩
    · have h0 : 0 ≤ n := by omega
      obtain ⟨N, rfl⟩ : ∃ N : Nat, n = N := ⟨n.toNat, by omega⟩
      have hcs : s = 1 ∨ s = 2 ∨ s = 3 ∨ s = 4 := by omega
      clear hbad
      rcases hcs with rfl | rfl | rfl | rfl
      · -- size 1
        obtain ⟨P, hP⟩ : ∃ P : Int, P = 256 := ⟨_, rfl⟩
        have hsh : Op.shift .shl .i64 1 .i64 8 = pure (.int .i64 P) := by rw [hP]; kernel_rfl
        have MX := Lib.hid (fun w => s_Max2 0 1 w)
        by_cases hlt : (N : Int) < P
        · have hNl : N < 256 ^ 1 := by omega
          have e0 : bigE (N : Int) 1 = bigL N 1 := bigE_of (by omega) (by omega) (by omega) (by show (N : Int) < 256 ^ 1; omega)
          rw [e0] at IB IL
          have HR1 := Lib.hid (read_big (show 1 ≤ 4 by omega) hNl)
          have HR2 := Lib.hid (read_little (show 1 ≤ 4 by omega) hNl)
          have hLl : (bigL N 1).length = 1 := bigL_len N 1
          obtain ⟨L, hL⟩ : ∃ L, L = bigL N 1 := ⟨_, rfl⟩
          rw [← hL] at IB IL HR1 HR2 hLl
          clear e0 hL hP hn
          obtain ⟨x0, rfl⟩ : ∃ x0 : UInt8, L = [x0] := by
            match L, hLl with
            | [x0], _ => exact ⟨x0, rfl⟩
          have HIB := Lib.hid IB
          have HIL := Lib.hid IL
          clear IB IL hLl hb1 hNl
          go_wp2_with fail
          refine HIB.out.mono ?_
          rintro e w2 ⟨va, rfl, hoa, hb2⟩
          have ha2 := Rd.of_own hoa
          have HB2 := Lib.hid (Below.then_ HB1.out hb2 (Nat.le_refl _))
          obtain ⟨b, off, ca, rfl, hca1, hca2, hca⟩ := byte_cells ha2 (show 0 < 1 by omega)
          have HA2 := Lib.hid ha2
          have HCA := Lib.hid hca
          clear hoa hb2 ha2 hca
          go_wp2_with fail
          refine (HIL.out _).mono ?_
          rintro e w3 ⟨vb, rfl, hob, hb3⟩
          have hb3' := Rd.of_own hob
          have HB3 := Lib.hid (Below.then_ HB2.out hb3 (Nat.le_refl _))
          obtain ⟨b', off', cb, rfl, hcb1, hcb2, hcb⟩ := byte_cells (n := 1) hb3' (by omega)
          have HA3 := Lib.hid (HA2.out.below hb3)
          have HV3 := Lib.hid hb3'
          have A0 := Lib.hid (show w3.cell? ⟨b, off, none⟩ = some (.int .u8 (x0.toNat : Int)) from cell_after (HCA.out 0 x0 rfl) hb3)
          have E0 := Lib.hid (show w3.cell? ⟨b', off', none⟩ = some (.int .u8 (x0.toNat : Int)) from hcb 0 x0 rfl)
          clear hob hb3 hb3' hcb
          go_wp2_with fail
          refine (MX.out _).mono ?_
          rw [show max (0 : Int) 1 = 1 from by omega]
          rintro e w4 ⟨rfl, rfl⟩
          go_wp2_with fail
          refine wp_loop_rounds 2 ?_
          rw [rounds_succ]
          have a0 := A0.out
          have e0 := E0.out
          go_wp2_with fail
          have la := later_cell A0.out
          have le := later_cell E0.out
          refine wp_region_later (by kernel_rfl) (by kernel_rfl) ?_
          repeat (go_big_quiet_step (fail))
          refine wpQuiet_nil ?_
          intro y0 hy0
          have HY0 := Lib.hid (hy0)
          clear hy0 la le a0 e0
          go_wp2_with fail
          rw [rounds_succ]
          go_wp2_with fail
          refine (i_ReadInteger _ _ _ _ (HA3.out.below HY0.out)).mono ?_
          rw [HR1.out]
          rintro e z1 ⟨rfl, rfl⟩
          go_wp2_with fail
          refine (i_ReadInteger _ _ _ _ (HV3.out.below HY0.out)).mono ?_
          rw [HR2.out]
          rintro e z2 ⟨rfl, rfl⟩
          go_wp2_with fail
          go_ret
          exact ⟨by simp, Below.then_ HB3.out HY0.out (Nat.le_refl _)⟩
        · have e0 : bigE (N : Int) 1 = [] := bigE_not (by right; right; right; show (256 : Int) ^ 1 ≤ (N : Int); omega)
          rw [e0] at IB IL
          rw [List.reverse_nil] at IL
          have HIB := Lib.hid IB
          have HIL := Lib.hid IL
          clear IB IL e0 hb1 hP hn
          go_wp2_with fail
          refine HIB.out.mono ?_
          rintro e w2 ⟨va, rfl, hoa, hb2⟩
          have HB2 := Lib.hid (Below.then_ HB1.out hb2 (Nat.le_refl _))
          obtain ⟨A, ca, rfl⟩ : ∃ A c, va = .slice A 0 c := by
            obtain ⟨_, A, c, h, _⟩ := Rd.of_own hoa
            exact ⟨A, c, h⟩
          clear hoa hb2
          go_wp2_with fail
          refine (HIL.out _).mono ?_
          rintro e w3 ⟨vb, rfl, hob, hb3⟩
          have HB3 := Lib.hid (Below.then_ HB2.out hb3 (Nat.le_refl _))
          obtain ⟨B, cb, rfl⟩ : ∃ A c, vb = .slice A 0 c := by
            obtain ⟨_, A, c, h, _⟩ := Rd.of_own hob
            exact ⟨A, c, h⟩
          clear hob hb3
          have hge : P ≤ (N : Int) := by omega
          go_wp2_with fail
          refine (MX.out _).mono ?_
          rw [show max (0 : Int) 1 = 1 from by omega]
          rintro e w4 ⟨rfl, rfl⟩
          go_wp2_with fail
          go_ret
          exact ⟨rfl, HB3.out⟩
      · -- size 2
        obtain ⟨P, hP⟩ : ∃ P : Int, P = 65536 := ⟨_, rfl⟩
        have hsh : Op.shift .shl .i64 1 .i64 16 = pure (.int .i64 P) := by rw [hP]; kernel_rfl
        have MX := Lib.hid (fun w => s_Max2 0 2 w)
        by_cases hlt : (N : Int) < P
        · have hNl : N < 256 ^ 2 := by omega
          have e0 : bigE (N : Int) 2 = bigL N 2 := bigE_of (by omega) (by omega) (by omega) (by show (N : Int) < 256 ^ 2; omega)
          rw [e0] at IB IL
          have HR1 := Lib.hid (read_big (show 2 ≤ 4 by omega) hNl)
          have HR2 := Lib.hid (read_little (show 2 ≤ 4 by omega) hNl)
          have hLl : (bigL N 2).length = 2 := bigL_len N 2
          obtain ⟨L, hL⟩ : ∃ L, L = bigL N 2 := ⟨_, rfl⟩
          rw [← hL] at IB IL HR1 HR2 hLl
          clear e0 hL hP hn
          obtain ⟨x0, x1, rfl⟩ : ∃ x0 x1 : UInt8, L = [x0, x1] := by
            match L, hLl with
            | [x0, x1], _ => exact ⟨x0, x1, rfl⟩
          have HIB := Lib.hid IB
          have HIL := Lib.hid IL
          clear IB IL hLl hb1 hNl
          go_wp2_with fail
          refine HIB.out.mono ?_
          rintro e w2 ⟨va, rfl, hoa, hb2⟩
          have ha2 := Rd.of_own hoa
          have HB2 := Lib.hid (Below.then_ HB1.out hb2 (Nat.le_refl _))
          obtain ⟨b, off, ca, rfl, hca1, hca2, hca⟩ := byte_cells ha2 (show 0 < 2 by omega)
          have HA2 := Lib.hid ha2
          have HCA := Lib.hid hca
          clear hoa hb2 ha2 hca
          go_wp2_with fail
          refine (HIL.out _).mono ?_
          rintro e w3 ⟨vb, rfl, hob, hb3⟩
          have hb3' := Rd.of_own hob
          have HB3 := Lib.hid (Below.then_ HB2.out hb3 (Nat.le_refl _))
          obtain ⟨b', off', cb, rfl, hcb1, hcb2, hcb⟩ := byte_cells (n := 2) hb3' (by omega)
          have HA3 := Lib.hid (HA2.out.below hb3)
          have HV3 := Lib.hid hb3'
          have A0 := Lib.hid (show w3.cell? ⟨b, off, none⟩ = some (.int .u8 (x0.toNat : Int)) from cell_after (HCA.out 0 x0 rfl) hb3)
          have E0 := Lib.hid (show w3.cell? ⟨b', off', none⟩ = some (.int .u8 (x1.toNat : Int)) from hcb 0 x1 rfl)
          have A1 := Lib.hid (show w3.cell? ⟨b, off + 1, none⟩ = some (.int .u8 (x1.toNat : Int)) from cell_after (HCA.out 1 x1 rfl) hb3)
          have E1 := Lib.hid (show w3.cell? ⟨b', off' + 1, none⟩ = some (.int .u8 (x0.toNat : Int)) from hcb 1 x0 rfl)
          clear hob hb3 hb3' hcb
          go_wp2_with fail
          refine (MX.out _).mono ?_
          rw [show max (0 : Int) 2 = 2 from by omega]
          rintro e w4 ⟨rfl, rfl⟩
          go_wp2_with fail
          refine wp_loop_rounds 3 ?_
          rw [rounds_succ]
          have a0 := A0.out
          have e0 := E1.out
          go_wp2_with fail
          have la := later_cell A0.out
          have le := later_cell E1.out
          refine wp_region_later (by kernel_rfl) (by kernel_rfl) ?_
          repeat (go_big_quiet_step (fail))
          refine wpQuiet_nil ?_
          intro y0 hy0
          have HY0 := Lib.hid (hy0)
          clear hy0 la le a0 e0
          go_wp2_with fail
          rw [rounds_succ]
          have a1 := A1.out
          have e1 := E0.out
          go_wp2_with fail
          have la := later_cell (cell_after A1.out HY0.out)
          have le := later_cell (cell_after E0.out HY0.out)
          refine wp_region_later (by kernel_rfl) (by kernel_rfl) ?_
          repeat (go_big_quiet_step (fail))
          refine wpQuiet_nil ?_
          intro y1 hy1
          have HY1 := Lib.hid (Below.then_ HY0.out hy1 (Nat.le_refl _))
          clear hy1 la le a1 e1
          go_wp2_with fail
          rw [rounds_succ]
          go_wp2_with fail
          refine (i_ReadInteger _ _ _ _ (HA3.out.below HY1.out)).mono ?_
          rw [HR1.out]
          rintro e z1 ⟨rfl, rfl⟩
          go_wp2_with fail
          refine (i_ReadInteger _ _ _ _ (HV3.out.below HY1.out)).mono ?_
          rw [HR2.out]
          rintro e z2 ⟨rfl, rfl⟩
          go_wp2_with fail
          go_ret
          exact ⟨by simp, Below.then_ HB3.out HY1.out (Nat.le_refl _)⟩
        · have e0 : bigE (N : Int) 2 = [] := bigE_not (by right; right; right; show (256 : Int) ^ 2 ≤ (N : Int); omega)
          rw [e0] at IB IL
          rw [List.reverse_nil] at IL
          have HIB := Lib.hid IB
          have HIL := Lib.hid IL
          clear IB IL e0 hb1 hP hn
          go_wp2_with fail
          refine HIB.out.mono ?_
          rintro e w2 ⟨va, rfl, hoa, hb2⟩
          have HB2 := Lib.hid (Below.then_ HB1.out hb2 (Nat.le_refl _))
          obtain ⟨A, ca, rfl⟩ : ∃ A c, va = .slice A 0 c := by
            obtain ⟨_, A, c, h, _⟩ := Rd.of_own hoa
            exact ⟨A, c, h⟩
          clear hoa hb2
          go_wp2_with fail
          refine (HIL.out _).mono ?_
          rintro e w3 ⟨vb, rfl, hob, hb3⟩
          have HB3 := Lib.hid (Below.then_ HB2.out hb3 (Nat.le_refl _))
          obtain ⟨B, cb, rfl⟩ : ∃ A c, vb = .slice A 0 c := by
            obtain ⟨_, A, c, h, _⟩ := Rd.of_own hob
            exact ⟨A, c, h⟩
          clear hob hb3
          have hge : P ≤ (N : Int) := by omega
          go_wp2_with fail
          refine (MX.out _).mono ?_
          rw [show max (0 : Int) 2 = 2 from by omega]
          rintro e w4 ⟨rfl, rfl⟩
          go_wp2_with fail
          go_ret
          exact ⟨rfl, HB3.out⟩
      · -- size 3
        obtain ⟨P, hP⟩ : ∃ P : Int, P = 16777216 := ⟨_, rfl⟩
        have hsh : Op.shift .shl .i64 1 .i64 24 = pure (.int .i64 P) := by rw [hP]; kernel_rfl
        have MX := Lib.hid (fun w => s_Max2 0 3 w)
        by_cases hlt : (N : Int) < P
        · have hNl : N < 256 ^ 3 := by omega
          have e0 : bigE (N : Int) 3 = bigL N 3 := bigE_of (by omega) (by omega) (by omega) (by show (N : Int) < 256 ^ 3; omega)
          rw [e0] at IB IL
          have HR1 := Lib.hid (read_big (show 3 ≤ 4 by omega) hNl)
          have HR2 := Lib.hid (read_little (show 3 ≤ 4 by omega) hNl)
          have hLl : (bigL N 3).length = 3 := bigL_len N 3
          obtain ⟨L, hL⟩ : ∃ L, L = bigL N 3 := ⟨_, rfl⟩
          rw [← hL] at IB IL HR1 HR2 hLl
          clear e0 hL hP hn
          obtain ⟨x0, x1, x2, rfl⟩ : ∃ x0 x1 x2 : UInt8, L = [x0, x1, x2] := by
            match L, hLl with
            | [x0, x1, x2], _ => exact ⟨x0, x1, x2, rfl⟩
          have HIB := Lib.hid IB
          have HIL := Lib.hid IL
          clear IB IL hLl hb1 hNl
          go_wp2_with fail
          refine HIB.out.mono ?_
          rintro e w2 ⟨va, rfl, hoa, hb2⟩
          have ha2 := Rd.of_own hoa
          have HB2 := Lib.hid (Below.then_ HB1.out hb2 (Nat.le_refl _))
          obtain ⟨b, off, ca, rfl, hca1, hca2, hca⟩ := byte_cells ha2 (show 0 < 3 by omega)
          have HA2 := Lib.hid ha2
          have HCA := Lib.hid hca
          clear hoa hb2 ha2 hca
          go_wp2_with fail
          refine (HIL.out _).mono ?_
          rintro e w3 ⟨vb, rfl, hob, hb3⟩
          have hb3' := Rd.of_own hob
          have HB3 := Lib.hid (Below.then_ HB2.out hb3 (Nat.le_refl _))
          obtain ⟨b', off', cb, rfl, hcb1, hcb2, hcb⟩ := byte_cells (n := 3) hb3' (by omega)
          have HA3 := Lib.hid (HA2.out.below hb3)
          have HV3 := Lib.hid hb3'
          have A0 := Lib.hid (show w3.cell? ⟨b, off, none⟩ = some (.int .u8 (x0.toNat : Int)) from cell_after (HCA.out 0 x0 rfl) hb3)
          have E0 := Lib.hid (show w3.cell? ⟨b', off', none⟩ = some (.int .u8 (x2.toNat : Int)) from hcb 0 x2 rfl)
          have A1 := Lib.hid (show w3.cell? ⟨b, off + 1, none⟩ = some (.int .u8 (x1.toNat : Int)) from cell_after (HCA.out 1 x1 rfl) hb3)
          have E1 := Lib.hid (show w3.cell? ⟨b', off' + 1, none⟩ = some (.int .u8 (x1.toNat : Int)) from hcb 1 x1 rfl)
          have A2 := Lib.hid (show w3.cell? ⟨b, off + 2, none⟩ = some (.int .u8 (x2.toNat : Int)) from cell_after (HCA.out 2 x2 rfl) hb3)
          have E2 := Lib.hid (show w3.cell? ⟨b', off' + 2, none⟩ = some (.int .u8 (x0.toNat : Int)) from hcb 2 x0 rfl)
          clear hob hb3 hb3' hcb
          go_wp2_with fail
          refine (MX.out _).mono ?_
          rw [show max (0 : Int) 3 = 3 from by omega]
          rintro e w4 ⟨rfl, rfl⟩
          go_wp2_with fail
          refine wp_loop_rounds 4 ?_
          rw [rounds_succ]
          have a0 := A0.out
          have e0 := E2.out
          go_wp2_with fail
          have la := later_cell A0.out
          have le := later_cell E2.out
          refine wp_region_later (by kernel_rfl) (by kernel_rfl) ?_
          repeat (go_big_quiet_step (fail))
          refine wpQuiet_nil ?_
          intro y0 hy0
          have HY0 := Lib.hid (hy0)
          clear hy0 la le a0 e0
          go_wp2_with fail
          rw [rounds_succ]
          have a1 := A1.out
          have e1 := E1.out
          go_wp2_with fail
          have la := later_cell (cell_after A1.out HY0.out)
          have le := later_cell (cell_after E1.out HY0.out)
          refine wp_region_later (by kernel_rfl) (by kernel_rfl) ?_
          repeat (go_big_quiet_step (fail))
          refine wpQuiet_nil ?_
          intro y1 hy1
          have HY1 := Lib.hid (Below.then_ HY0.out hy1 (Nat.le_refl _))
          clear hy1 la le a1 e1
          go_wp2_with fail
          rw [rounds_succ]
          have a2 := A2.out
          have e2 := E0.out
          go_wp2_with fail
          have la := later_cell (cell_after A2.out HY1.out)
          have le := later_cell (cell_after E0.out HY1.out)
          refine wp_region_later (by kernel_rfl) (by kernel_rfl) ?_
          repeat (go_big_quiet_step (fail))
          refine wpQuiet_nil ?_
          intro y2 hy2
          have HY2 := Lib.hid (Below.then_ HY1.out hy2 (Nat.le_refl _))
          clear hy2 la le a2 e2
          go_wp2_with fail
          rw [rounds_succ]
          go_wp2_with fail
          refine (i_ReadInteger _ _ _ _ (HA3.out.below HY2.out)).mono ?_
          rw [HR1.out]
          rintro e z1 ⟨rfl, rfl⟩
          go_wp2_with fail
          refine (i_ReadInteger _ _ _ _ (HV3.out.below HY2.out)).mono ?_
          rw [HR2.out]
          rintro e z2 ⟨rfl, rfl⟩
          go_wp2_with fail
          go_ret
          exact ⟨by simp, Below.then_ HB3.out HY2.out (Nat.le_refl _)⟩
        · have e0 : bigE (N : Int) 3 = [] := bigE_not (by right; right; right; show (256 : Int) ^ 3 ≤ (N : Int); omega)
          rw [e0] at IB IL
          rw [List.reverse_nil] at IL
          have HIB := Lib.hid IB
          have HIL := Lib.hid IL
          clear IB IL e0 hb1 hP hn
          go_wp2_with fail
          refine HIB.out.mono ?_
          rintro e w2 ⟨va, rfl, hoa, hb2⟩
          have HB2 := Lib.hid (Below.then_ HB1.out hb2 (Nat.le_refl _))
          obtain ⟨A, ca, rfl⟩ : ∃ A c, va = .slice A 0 c := by
            obtain ⟨_, A, c, h, _⟩ := Rd.of_own hoa
            exact ⟨A, c, h⟩
          clear hoa hb2
          go_wp2_with fail
          refine (HIL.out _).mono ?_
          rintro e w3 ⟨vb, rfl, hob, hb3⟩
          have HB3 := Lib.hid (Below.then_ HB2.out hb3 (Nat.le_refl _))
          obtain ⟨B, cb, rfl⟩ : ∃ A c, vb = .slice A 0 c := by
            obtain ⟨_, A, c, h, _⟩ := Rd.of_own hob
            exact ⟨A, c, h⟩
          clear hob hb3
          have hge : P ≤ (N : Int) := by omega
          go_wp2_with fail
          refine (MX.out _).mono ?_
          rw [show max (0 : Int) 3 = 3 from by omega]
          rintro e w4 ⟨rfl, rfl⟩
          go_wp2_with fail
          go_ret
          exact ⟨rfl, HB3.out⟩
      · -- size 4
        obtain ⟨P, hP⟩ : ∃ P : Int, P = 4294967296 := ⟨_, rfl⟩
        have hsh : Op.shift .shl .i64 1 .i64 32 = pure (.int .i64 P) := by rw [hP]; kernel_rfl
        have MX := Lib.hid (fun w => s_Max2 0 4 w)
        by_cases hlt : (N : Int) < P
        · have hNl : N < 256 ^ 4 := by omega
          have e0 : bigE (N : Int) 4 = bigL N 4 := bigE_of (by omega) (by omega) (by omega) (by show (N : Int) < 256 ^ 4; omega)
          rw [e0] at IB IL
          have HR1 := Lib.hid (read_big (show 4 ≤ 4 by omega) hNl)
          have HR2 := Lib.hid (read_little (show 4 ≤ 4 by omega) hNl)
          have hLl : (bigL N 4).length = 4 := bigL_len N 4
          obtain ⟨L, hL⟩ : ∃ L, L = bigL N 4 := ⟨_, rfl⟩
          rw [← hL] at IB IL HR1 HR2 hLl
          clear e0 hL hP hn
          obtain ⟨x0, x1, x2, x3, rfl⟩ : ∃ x0 x1 x2 x3 : UInt8, L = [x0, x1, x2, x3] := by
            match L, hLl with
            | [x0, x1, x2, x3], _ => exact ⟨x0, x1, x2, x3, rfl⟩
          have HIB := Lib.hid IB
          have HIL := Lib.hid IL
          clear IB IL hLl hb1 hNl
          go_wp2_with fail
          refine HIB.out.mono ?_
          rintro e w2 ⟨va, rfl, hoa, hb2⟩
          have ha2 := Rd.of_own hoa
          have HB2 := Lib.hid (Below.then_ HB1.out hb2 (Nat.le_refl _))
          obtain ⟨b, off, ca, rfl, hca1, hca2, hca⟩ := byte_cells ha2 (show 0 < 4 by omega)
          have HA2 := Lib.hid ha2
          have HCA := Lib.hid hca
          clear hoa hb2 ha2 hca
          go_wp2_with fail
          refine (HIL.out _).mono ?_
          rintro e w3 ⟨vb, rfl, hob, hb3⟩
          have hb3' := Rd.of_own hob
          have HB3 := Lib.hid (Below.then_ HB2.out hb3 (Nat.le_refl _))
          obtain ⟨b', off', cb, rfl, hcb1, hcb2, hcb⟩ := byte_cells (n := 4) hb3' (by omega)
          have HA3 := Lib.hid (HA2.out.below hb3)
          have HV3 := Lib.hid hb3'
          have A0 := Lib.hid (show w3.cell? ⟨b, off, none⟩ = some (.int .u8 (x0.toNat : Int)) from cell_after (HCA.out 0 x0 rfl) hb3)
          have E0 := Lib.hid (show w3.cell? ⟨b', off', none⟩ = some (.int .u8 (x3.toNat : Int)) from hcb 0 x3 rfl)
          have A1 := Lib.hid (show w3.cell? ⟨b, off + 1, none⟩ = some (.int .u8 (x1.toNat : Int)) from cell_after (HCA.out 1 x1 rfl) hb3)
          have E1 := Lib.hid (show w3.cell? ⟨b', off' + 1, none⟩ = some (.int .u8 (x2.toNat : Int)) from hcb 1 x2 rfl)
          have A2 := Lib.hid (show w3.cell? ⟨b, off + 2, none⟩ = some (.int .u8 (x2.toNat : Int)) from cell_after (HCA.out 2 x2 rfl) hb3)
          have E2 := Lib.hid (show w3.cell? ⟨b', off' + 2, none⟩ = some (.int .u8 (x1.toNat : Int)) from hcb 2 x1 rfl)
          have A3 := Lib.hid (show w3.cell? ⟨b, off + 3, none⟩ = some (.int .u8 (x3.toNat : Int)) from cell_after (HCA.out 3 x3 rfl) hb3)
          have E3 := Lib.hid (show w3.cell? ⟨b', off' + 3, none⟩ = some (.int .u8 (x0.toNat : Int)) from hcb 3 x0 rfl)
          clear hob hb3 hb3' hcb
          go_wp2_with fail
          refine (MX.out _).mono ?_
          rw [show max (0 : Int) 4 = 4 from by omega]
          rintro e w4 ⟨rfl, rfl⟩
          go_wp2_with fail
          refine wp_loop_rounds 5 ?_
          rw [rounds_succ]
          have a0 := A0.out
          have e0 := E3.out
          go_wp2_with fail
          have la := later_cell A0.out
          have le := later_cell E3.out
          refine wp_region_later (by kernel_rfl) (by kernel_rfl) ?_
          repeat (go_big_quiet_step (fail))
          refine wpQuiet_nil ?_
          intro y0 hy0
          have HY0 := Lib.hid (hy0)
          clear hy0 la le a0 e0
          go_wp2_with fail
          rw [rounds_succ]
          have a1 := A1.out
          have e1 := E2.out
          go_wp2_with fail
          have la := later_cell (cell_after A1.out HY0.out)
          have le := later_cell (cell_after E2.out HY0.out)
          refine wp_region_later (by kernel_rfl) (by kernel_rfl) ?_
          repeat (go_big_quiet_step (fail))
          refine wpQuiet_nil ?_
          intro y1 hy1
          have HY1 := Lib.hid (Below.then_ HY0.out hy1 (Nat.le_refl _))
          clear hy1 la le a1 e1
          go_wp2_with fail
          rw [rounds_succ]
          have a2 := A2.out
          have e2 := E1.out
          go_wp2_with fail
          have la := later_cell (cell_after A2.out HY1.out)
          have le := later_cell (cell_after E1.out HY1.out)
          refine wp_region_later (by kernel_rfl) (by kernel_rfl) ?_
          repeat (go_big_quiet_step (fail))
          refine wpQuiet_nil ?_
          intro y2 hy2
          have HY2 := Lib.hid (Below.then_ HY1.out hy2 (Nat.le_refl _))
          clear hy2 la le a2 e2
          go_wp2_with fail
          rw [rounds_succ]
          have a3 := A3.out
          have e3 := E0.out
          go_wp2_with fail
          have la := later_cell (cell_after A3.out HY2.out)
          have le := later_cell (cell_after E0.out HY2.out)
          refine wp_region_later (by kernel_rfl) (by kernel_rfl) ?_
          repeat (go_big_quiet_step (fail))
          refine wpQuiet_nil ?_
          intro y3 hy3
          have HY3 := Lib.hid (Below.then_ HY2.out hy3 (Nat.le_refl _))
          clear hy3 la le a3 e3
          go_wp2_with fail
          rw [rounds_succ]
          go_wp2_with fail
          refine (i_ReadInteger _ _ _ _ (HA3.out.below HY3.out)).mono ?_
          rw [HR1.out]
          rintro e z1 ⟨rfl, rfl⟩
          go_wp2_with fail
          refine (i_ReadInteger _ _ _ _ (HV3.out.below HY3.out)).mono ?_
          rw [HR2.out]
          rintro e z2 ⟨rfl, rfl⟩
          go_wp2_with fail
          go_ret
          exact ⟨by simp, Below.then_ HB3.out HY3.out (Nat.le_refl _)⟩
        · have e0 : bigE (N : Int) 4 = [] := bigE_not (by right; right; right; show (256 : Int) ^ 4 ≤ (N : Int); omega)
          rw [e0] at IB IL
          rw [List.reverse_nil] at IL
          have HIB := Lib.hid IB
          have HIL := Lib.hid IL
          clear IB IL e0 hb1 hP hn
          go_wp2_with fail
          refine HIB.out.mono ?_
          rintro e w2 ⟨va, rfl, hoa, hb2⟩
          have HB2 := Lib.hid (Below.then_ HB1.out hb2 (Nat.le_refl _))
          obtain ⟨A, ca, rfl⟩ : ∃ A c, va = .slice A 0 c := by
            obtain ⟨_, A, c, h, _⟩ := Rd.of_own hoa
            exact ⟨A, c, h⟩
          clear hoa hb2
          go_wp2_with fail
          refine (HIL.out _).mono ?_
          rintro e w3 ⟨vb, rfl, hob, hb3⟩
          have HB3 := Lib.hid (Below.then_ HB2.out hb3 (Nat.le_refl _))
          obtain ⟨B, cb, rfl⟩ : ∃ A c, vb = .slice A 0 c := by
            obtain ⟨_, A, c, h, _⟩ := Rd.of_own hob
            exact ⟨A, c, h⟩
          clear hob hb3
          have hge : P ≤ (N : Int) := by omega
          go_wp2_with fail
          refine (MX.out _).mono ?_
          rw [show max (0 : Int) 4 = 4 from by omega]
          rintro e w4 ⟨rfl, rfl⟩
          go_wp2_with fail
          go_ret
          exact ⟨rfl, HB3.out⟩

end Go.Proofs.Ytmikekldelnbjaa
