/-
  The law FnSplices: a splice is undone by the splice back; lengths and sums agree.
-/
import Derived.Test.YtmikekldelnbjaaBig
import Derived.Test.YtmikekldelnbjaaDrawsTwo
import Derived.Test.YtmikekldelnbjaaSame
import Derived.Test.YtmikekldelnbjaaSpliceS
import Derived.Test.YtmikekldelnbjaaSum
import Derived.Deep.QuietTactic
import Derived.BigQuiet
import Derived.Test.YtmikekldelnbjaaLater
namespace Go.Proofs.Ytmikekldelnbjaa
open Go.RowKit
set_option linter.unusedVariables false

theorem addB_append (a b : List UInt8) : addB (a ++ b) = addB a + addB b := by simp [addB]
def cutL (l : List UInt8) (a k : Nat) : List UInt8 := (l.drop a).take k
def putL (l m : List UInt8) (a k : Nat) : List UInt8 := l.take a ++ m ++ l.drop (a + k)
theorem three (l : List UInt8) (a k : Nat) : l = l.take a ++ cutL l a k ++ l.drop (a + k) := by
  unfold cutL
  rw [List.append_assoc, Nat.add_comm a k, ← List.drop_drop, List.drop_drop, Nat.add_comm k a, ← List.drop_drop, List.take_append_drop, List.take_append_drop]
theorem cutL_len {l : List UInt8} {a k : Nat} (h : a + k ≤ l.length) : (cutL l a k).length = k := by simp [cutL]; omega
theorem putL_len {l m : List UInt8} {a k : Nat} (h : a + k ≤ l.length) : (putL l m a k).length + k = l.length + m.length := by simp [putL]; omega
theorem put_ok {l m : List UInt8} {a k : Nat} (h : a + k ≤ l.length) : spliceOk (putL l m a k) a m.length = true := by
  have := putL_len (m := m) h
  simp [spliceOk]; omega
theorem put_back {l m : List UInt8} {a k : Nat} (h : a + k ≤ l.length) : spliceL (putL l m a k) a m.length (cutL l a k) = l := by
  rw [spliceL_ok (put_ok h)]
  have e1 : (putL l m a k).take a = l.take a := by
    unfold putL
    rw [List.append_assoc, List.take_append_of_le_length (by simp; omega), List.take_take, Nat.min_self]
  have e2 : (putL l m a k).drop (a + m.length) = l.drop (a + k) := by
    unfold putL
    have : a + m.length = (l.take a ++ m).length := by simp; omega
    rw [this, List.drop_left]
  simp only [Int.toNat_natCast]
  rw [e1, e2, ← three]
theorem put_sum (l m : List UInt8) (a k : Nat) : addB (putL l m a k) + addB (cutL l a k) = addB l + addB m := by
  have h := congrArg addB (three l a k)
  rw [addB_append, addB_append] at h
  unfold putL
  rw [addB_append, addB_append]
  omega

theorem q_Sum (v : Value) (l : List UInt8) (hn : l.length ≤ 4194304) (p : Int) (hp : ((addB l % 256 : Nat) : Int) = p) (w : World) (h : Rd w v 1 l.length (cB l)) :
    Calls Try.prog 16 #[v] w fun e w' => e = .returned (.int .i64 p) ∧ w' = w := by
  subst hp
  exact (i_SumOfBytes v l hn w h).mono fun _ _ ⟨h, h'⟩ => ⟨h, h'.symm⟩

set_option maxHeartbeats 4000000 in
theorem law_FnSplices (v : Value) (l : List UInt8) (w : World) (hr : Rd w v 1 l.length (cB l)) :
    Calls Try.prog 11 #[v] w fun e w' => e = .returned (.bool true) ∧ Below w.heap.size w w' := by
  by_cases hbig : (1048576 : Int) < (l.length : Int)
  · have hd : decide ((1048576 : Int) < (l.length : Int)) = true := by simpa using hbig
    go_enter Try.func11, Try.ntmps11
    go_wp2_with fail
    refine (l_big v l _ hr).mono ?_
    rintro e w1 ⟨rfl, rfl⟩
    go_wp2_with fail
    go_ret
    exact ⟨rfl, Below.refl _ _⟩
  · have hd : decide ((1048576 : Int) < (l.length : Int)) = false := by simpa using hbig
    go_enter Try.func11, Try.ntmps11
    go_wp2_with fail
    refine (l_big v l _ hr).mono ?_
    rintro e w1 ⟨rfl, rfl⟩
    go_wp2_with fail
    refine (s_DrawSpliceBytes v l (by omega) _ hr).mono ?_
    rintro e w1 ⟨vb, t, i, r, u, m, rfl, htl, hml, hi, hr1, ho1, hm1, hb1⟩
    clear hbig hd
    have hrb := Rd.of_own ho1
    have hru := Rd.of_own hm1
    obtain ⟨B, cap, rfl, hcl, hcm⟩ : ∃ B cap, vb = .slice B t.length cap ∧ t.length ≤ cap ∧ cap ≤ maxLen := by
      obtain ⟨_, B, cap, h, h1, h2, _⟩ := hrb
      exact ⟨B, cap, h, h1, h2⟩
    obtain ⟨B', cap', rfl⟩ : ∃ B cap, u = .slice B m.length cap := by
      obtain ⟨_, B, cap, h, _⟩ := hru
      exact ⟨B, cap, h⟩
    unfold maxLen at hcm
    cases hok : spliceOk t i r with
    | false =>
      have I := i_SpliceBytes (.slice B t.length cap) (.slice B' m.length cap') t m i r (by omega) (by omega) (by omega) (by omega) w1 hrb hru
      rw [spliceL_no hok, hok] at I
      go_wp2_with fail
      refine I.mono ?_
      rintro e w2 ⟨x, rfl, hx2, hb12⟩
      have hb2 := Below.then_ hb1 hb12 (Nat.le_refl _)
      have S := s_SpliceBytes (.slice B t.length cap) (.slice B' m.length cap') t m i r (by omega) (by omega) (by omega) (by omega) w2 (hrb.below hb12) (hru.below hb12)
      rw [hok] at S
      clear hok
      go_wp2_with fail
      refine S.mono ?_
      rintro e w3 ⟨y, rfl, hy3, hb23⟩
      have hb3 := Below.then_ hb2 hb23 (Nat.le_refl _)
      go_wp2_with fail
      refine (l_sameBytes x _ t t _ ((Rd.of_own hx2).below hb23) ((hrb.below hb12).below hb23)).mono ?_
      rintro e w4 ⟨rfl, hb34⟩
      go_wp2_with fail
      go_ret
      exact ⟨by simp, Below.then_ hb3 hb34 (Nat.le_refl _)⟩
    | true =>
      have I := i_SpliceBytes (.slice B t.length cap) (.slice B' m.length cap') t m i r (by omega) (by omega) (by omega) (by omega) w1 hrb hru
      have S := fun w hv hu => s_SpliceBytes (.slice B t.length cap) (.slice B' m.length cap') t m i r (by omega) (by omega) (by omega) (by omega) w hv hu
      rw [spliceL_ok hok, hok] at I S
      simp only [spliceOk, Bool.and_eq_true, decide_eq_true_eq] at hok
      obtain ⟨⟨⟨h1, h2⟩, h3⟩, h4⟩ := hok
      obtain ⟨a, rfl⟩ : ∃ x : Nat, i = x := ⟨i.toNat, by omega⟩
      obtain ⟨k, rfl⟩ : ∃ y : Nat, r = y := ⟨r.toNat, by omega⟩
      simp only [Int.toNat_natCast] at I S
      have hak : a + k ≤ t.length := by omega
      have hPl := putL_len (m := m) hak
      have hCl := cutL_len hak
      have hback := put_back (m := m) hak
      have hbok := put_ok (m := m) hak
      have hsum := put_sum t m a k
      obtain ⟨P, hP⟩ : ∃ P, putL t m a k = P := ⟨_, rfl⟩
      obtain ⟨C, hC⟩ : ∃ C, cutL t a k = C := ⟨_, rfl⟩
      change Calls _ _ _ _ (MadeP _ _ (putL t m a k).length (cB (putL t m a k)) _ _) at I
      change ∀ w hv hu, Calls _ _ _ _ (MadeP _ _ (putL t m a k).length (cB (putL t m a k)) _ _) at S
      rw [hP] at hPl hback hbok hsum I S
      rw [hC] at hCl hback hsum
      obtain ⟨p, hp⟩ : ∃ p : Int, ((addB P % 256 : Nat) : Int) = p := ⟨_, rfl⟩
      obtain ⟨q, hq⟩ : ∃ p : Int, ((addB C % 256 : Nat) : Int) = p := ⟨_, rfl⟩
      obtain ⟨p', hp'⟩ : ∃ p : Int, ((addB t % 256 : Nat) : Int) = p := ⟨_, rfl⟩
      obtain ⟨q', hq'⟩ : ∃ p : Int, ((addB m % 256 : Nat) : Int) = p := ⟨_, rfl⟩
      have hsums : (p + q) % 256 = (p' + q') % 256 := by omega
      have r1 : 0 ≤ p ∧ p ≤ 255 := by omega
      have r2 : 0 ≤ q ∧ q ≤ 255 := by omega
      have r3 : 0 ≤ p' ∧ p' ≤ 255 := by omega
      have r4 : 0 ≤ q' ∧ q' ≤ 255 := by omega
      have HP := Lib.hid hp
      have HQ := Lib.hid hq
      have HP' := Lib.hid hp'
      have HQ' := Lib.hid hq'
      have HS := Lib.hid hsums
      clear hp hq hp' hq' hsum hsums hP hi hr1 h1 h2 h3 h4
      have HPL := Lib.hid hPl
      have HCL := Lib.hid hCl
      clear hPl hCl
      go_wp2_with fail
      refine I.mono ?_
      rintro e w2 ⟨x, rfl, hx2, hb12⟩
      have hb2 := Below.then_ hb1 hb12 (Nat.le_refl _)
      have hrx := Rd.of_own hx2
      obtain ⟨X, xap, rfl⟩ : ∃ B cap, x = .slice B P.length cap := by
        obtain ⟨_, B, cap, h, _⟩ := hrx
        exact ⟨B, cap, h⟩
      go_wp2_with fail
      refine (S w2 (hrb.below hb12) (hru.below hb12)).mono ?_
      rintro e w3 ⟨y, rfl, hy3, hb23⟩
      have hb3 := Below.then_ hb2 hb23 (Nat.le_refl _)
      have hrb3 := (hrb.below hb12).below hb23
      have hru3 := (hru.below hb12).below hb23
      have hrx3 := hrx.below hb23
      by_cases hcap : cap = a
      · obtain rfl : k = 0 := by omega
        have hrc3 : Rd w3 (.slice B 0 0) 1 C.length (cB C) := by
          have e : C = [] := List.eq_nil_of_length_eq_zero (by have := HCL.out; omega)
          rw [e]
          exact Rd.none_ _ _ _ (Nat.zero_le _)
        obtain rfl := hcap
        have b1 : (0 : Int) ≤ (cap : Int) := by omega
        have I2 := i_SpliceBytes (.slice X P.length xap) (.slice B 0 0) P C cap m.length (by omega) (by omega) (by have := HPL.out; omega) (by have := HCL.out; omega) w3 hrx3 hrc3
        rw [hback, hbok] at I2
        clear hback hbok
        go_wp2_with fail
        refine I2.mono ?_
        rintro e w4 ⟨z, rfl, hz4, hb34⟩
        have hb4 := Below.then_ hb3 hb34 (Nat.le_refl _)
        have hrx4 := hrx3.below hb34
        have hrc4 := hrc3.below hb34
        have hrb4 := hrb3.below hb34
        have hru4 := hru3.below hb34
        have z4 := Rd.of_own hz4
        have b7 : IntKind.i64.wrap (p + q) = p + q := IntWalk.i64_in _ (by omega)
        have b8 : IntKind.i64.wrap (p' + q') = p' + q' := IntWalk.i64_in _ (by omega)
        have Q1 := Lib.hid (fun x : Later w4 => (q_Sum (.slice X P.length xap) P (by have := HPL.out; omega) p HP.out x.world (hrx4.below x.below)).mono (fun _ _ (h : _ ∧ _) => (⟨h.1, x, h.2⟩ : _ ∧ ∃ y : Later w4, _ = y.world)))
        have Q2 := Lib.hid (fun x : Later w4 => (q_Sum (.slice B 0 0) C (by have := HCL.out; omega) q HQ.out x.world (hrc4.below x.below)).mono (fun _ _ (h : _ ∧ _) => (⟨h.1, x, h.2⟩ : _ ∧ ∃ y : Later w4, _ = y.world)))
        have Q3 := Lib.hid (fun w h => q_Sum (.slice B t.length cap) t (by omega) p' HP'.out w h)
        have Q4 := Lib.hid (fun w h => q_Sum (.slice B' m.length cap') m (by omega) q' HQ'.out w h)
        have HZ4 := Lib.hid z4
        have HB4 := Lib.hid hb4
        have HRB := Lib.hid hrb4
        have HRU := Lib.hid hru4
        clear z4 hz4 hb4 hrb4 hru4 hrx4 hrc4 hb34 hrx3 hrc3 hrb3 hru3 hb3 hb23 hy3 hb2 hb12 hx2 hrx I2 I S hrb hru ho1 hm1 hb1
        go_wp2_with fail
        refine wp_region_later (by kernel_rfl) (by kernel_rfl) ?_
        repeat (go_big_quiet_step (first | (go_at_call 16; with_reducible exact Q1.out _) | (go_at_call 16; with_reducible exact Q2.out _)))
        refine wpQuiet_nil ?_
        intro w5 hb45
        have HB5 := Lib.hid (Below.then_ HB4.out hb45 (Nat.le_refl _))
        have HZ5 := Lib.hid (HZ4.out.below hb45)
        have HRB5 := Lib.hid (HRB.out.below hb45)
        have HRU5 := Lib.hid (HRU.out.below hb45)
        clear hb45
        go_wp2_with fail
        refine (l_sameBytes z _ t t _ HZ5.out HRB5.out).mono ?_
        rw [decide_eq_true rfl]
        rintro e w6 ⟨rfl, hb56⟩
        have HB6 := Lib.hid (Below.then_ HB5.out hb56 (Nat.le_refl _))
        have hr6 := HRB5.out.below hb56
        have hu6 := HRU5.out.below hb56
        have HR6 := Lib.hid hr6
        have HU6 := Lib.hid hu6
        have hlen : ((P.length : Int) == (t.length : Int) + (m.length : Int)) = true := by have := HPL.out; simp; omega
        have hfin : ((p + q) % 256 == (p' + q') % 256) = true := by rw [HS.out]; simp
        clear hb56 hr6 hu6
        go_wp2_with fail
        refine (Q3.out _ HR6.out).mono ?_
        rintro e w7 ⟨rfl, rfl⟩
        go_wp2_with fail
        refine (Q4.out _ HU6.out).mono ?_
        rintro e w8 ⟨rfl, rfl⟩
        go_wp2_with fail
        go_ret
        exact ⟨rfl, HB6.out⟩
      · have hrc3 : Rd w3 (.slice (B.map (·.add a)) k (cap - a)) 1 C.length (cB C) := by
          have h := hrb3.back (k := a) (c' := cap - a) (by omega) (by unfold maxLen; omega)
          have h2 := h.front (a := k) (c' := cap - a) (by omega) (by omega) (by unfold maxLen; omega)
          rw [Nat.mul_one, Nat.mul_one, ← cB_drop, ← cB_take] at h2
          rw [HCL.out, ← hC]
          exact h2
        have b1 : (0 : Int) ≤ (a : Int) := by omega
        have b2 : (a : Int) ≤ (a : Int) + (k : Int) := by omega
        have b3 : (a : Int) + (k : Int) ≤ (cap : Int) := by omega
        have b5 : ((a : Int) + (k : Int)).toNat = a + k := by omega
        have b6 : IntKind.i64.wrap ((a : Int) + (k : Int)) = (a : Int) + (k : Int) := IntWalk.i64_in _ (by omega)
        have I2 := i_SpliceBytes (.slice X P.length xap) (.slice (B.map (·.add a)) k (cap - a)) P C a m.length (by omega) (by omega) (by have := HPL.out; omega) (by have := HCL.out; omega) w3 hrx3 hrc3
        rw [hback, hbok] at I2
        clear hback hbok
        go_wp2_with fail
        refine I2.mono ?_
        rintro e w4 ⟨z, rfl, hz4, hb34⟩
        have hb4 := Below.then_ hb3 hb34 (Nat.le_refl _)
        have hrx4 := hrx3.below hb34
        have hrc4 := hrc3.below hb34
        have hrb4 := hrb3.below hb34
        have hru4 := hru3.below hb34
        have z4 := Rd.of_own hz4
        have b7 : IntKind.i64.wrap (p + q) = p + q := IntWalk.i64_in _ (by omega)
        have b8 : IntKind.i64.wrap (p' + q') = p' + q' := IntWalk.i64_in _ (by omega)
        have Q1 := Lib.hid (fun x : Later w4 => (q_Sum (.slice X P.length xap) P (by have := HPL.out; omega) p HP.out x.world (hrx4.below x.below)).mono (fun _ _ (h : _ ∧ _) => (⟨h.1, x, h.2⟩ : _ ∧ ∃ y : Later w4, _ = y.world)))
        have Q2 := Lib.hid (fun x : Later w4 => (q_Sum (.slice (B.map (·.add a)) k (cap - a)) C (by have := HCL.out; omega) q HQ.out x.world (hrc4.below x.below)).mono (fun _ _ (h : _ ∧ _) => (⟨h.1, x, h.2⟩ : _ ∧ ∃ y : Later w4, _ = y.world)))
        have Q3 := Lib.hid (fun w h => q_Sum (.slice B t.length cap) t (by omega) p' HP'.out w h)
        have Q4 := Lib.hid (fun w h => q_Sum (.slice B' m.length cap') m (by omega) q' HQ'.out w h)
        have HZ4 := Lib.hid z4
        have HB4 := Lib.hid hb4
        have HRB := Lib.hid hrb4
        have HRU := Lib.hid hru4
        clear z4 hz4 hb4 hrb4 hru4 hrx4 hrc4 hb34 hrx3 hrc3 hrb3 hru3 hb3 hb23 hy3 hb2 hb12 hx2 hrx I2 I S hrb hru ho1 hm1 hb1
        go_wp2_with fail
        refine wp_region_later (by kernel_rfl) (by kernel_rfl) ?_
        repeat (go_big_quiet_step (first | (go_at_call 16; with_reducible exact Q1.out _) | (go_at_call 16; with_reducible exact Q2.out _)))
        refine wpQuiet_nil ?_
        intro w5 hb45
        have HB5 := Lib.hid (Below.then_ HB4.out hb45 (Nat.le_refl _))
        have HZ5 := Lib.hid (HZ4.out.below hb45)
        have HRB5 := Lib.hid (HRB.out.below hb45)
        have HRU5 := Lib.hid (HRU.out.below hb45)
        clear hb45
        go_wp2_with fail
        refine (l_sameBytes z _ t t _ HZ5.out HRB5.out).mono ?_
        rw [decide_eq_true rfl]
        rintro e w6 ⟨rfl, hb56⟩
        have HB6 := Lib.hid (Below.then_ HB5.out hb56 (Nat.le_refl _))
        have hr6 := HRB5.out.below hb56
        have hu6 := HRU5.out.below hb56
        have HR6 := Lib.hid hr6
        have HU6 := Lib.hid hu6
        have hlen : ((P.length : Int) == (t.length : Int) - (k : Int) + (m.length : Int)) = true := by have := HPL.out; simp; omega
        have hfin : ((p + q) % 256 == (p' + q') % 256) = true := by rw [HS.out]; simp
        clear hb56 hr6 hu6
        go_wp2_with fail
        refine (Q3.out _ HR6.out).mono ?_
        rintro e w7 ⟨rfl, rfl⟩
        go_wp2_with fail
        refine (Q4.out _ HU6.out).mono ?_
        rintro e w8 ⟨rfl, rfl⟩
        go_wp2_with fail
        go_ret
        exact ⟨rfl, HB6.out⟩

end Go.Proofs.Ytmikekldelnbjaa
