/-
  The law FnNames: kinds have different names, which are names; a digit behind a name makes a name where there is room.
-/
import Derived.Test.YtophakimobcnlaaKind
import Derived.Test.YtophakimobcnlaaName
import Derived.Test.YtophakimobcnlaaDrawName
namespace Go.Proofs.Ytophakimobcnlaa
open Go.RowKit
set_option linter.unusedVariables false

theorem kind_ne {j k : Int} (h1 : 1 ≤ j) (h2 : j < k) (h3 : k ≤ 10) : ((kindName j).toList == (kindName k).toList) = false := by
  refine str_ne ?_
  unfold kindName
  intro e
  have hd : ∀ a < 11, ∀ b < a, 1 ≤ b → (kindNat b).data ≠ (kindNat a).data := by decide
  exact hd k.toNat (by omega) j.toNat (by omega) (by omega) (by rw [e])
theorem kind_isName {k : Int} (h1 : 1 ≤ k) (h3 : k ≤ 10) : isName (kindName k).data.toList = true := by
  unfold kindName
  have hd : ∀ a < 11, 1 ≤ a → isName (kindNat a).data.toList = true := by decide
  exact hd k.toNat (by omega) (by omega)

theorem nameFrom_snoc (l : List UInt8) (x : UInt8) : ∀ k, nameFrom k (l ++ [x]) = (nameFrom k l && okAt x (k + l.length)) := by
  induction l with
  | nil => intro k; simp [nameFrom]
  | cons y r ih => intro k; simp [nameFrom, ih, Bool.and_assoc]; rw [show k + 1 + r.length = k + (r.length + 1) from by omega]
theorem isName_one {l : List UInt8} (h : isName l = true) : isName (l ++ [49]) = decide (l.length < 12) := by
  unfold isName at h ⊢
  simp only [Bool.and_eq_true, decide_eq_true_eq] at h
  rw [nameFrom_snoc, h.2]
  have : okAt 49 (0 + l.length) = true := by
    have h1 := h.1.1
    unfold okAt
    rw [show (0 + l.length != 0) = true by rw [bne_iff_ne]; omega]
    rfl
  rw [this, Bool.eq_iff_iff]
  simp
  omega
theorem isName_size {l : List UInt8} (h : isName l = true) : l.length ≤ 12 := by
  unfold isName at h
  simp only [Bool.and_eq_true, decide_eq_true_eq] at h
  exact h.1.2

set_option maxHeartbeats 1000000 in
theorem l_big (v : Value) (l : List UInt8) (w : World) (hr : Rd w v 1 l.length (cB l)) :
    Calls Try.prog 38 #[v] w fun e w' => e = .returned (.bool (decide ((1048576 : Int) < l.length))) ∧ w = w' := by
  obtain ⟨_, A, c, rfl, hnc, hcm, hcell⟩ := hr
  clear hcell
  go_enter Try.func38, Try.ntmps38
  go_wp2_with fail
  go_ret
  exact ⟨rfl, rfl⟩

set_option maxHeartbeats 2000000 in
theorem law_FnNames (v : Value) (l : List UInt8) (w : World) (hr : Rd w v 1 l.length (cB l)) :
    Calls Try.prog 14 #[v] w fun e w' => e = .returned (.bool true) ∧ Below w.heap.size w w' := by
  by_cases hbig : (1048576 : Int) < (l.length : Int)
  · have hd : decide ((1048576 : Int) < (l.length : Int)) = true := by simpa using hbig
    go_enter Try.func14, Try.ntmps14
    go_wp2_with fail
    refine (l_big v l _ hr).mono ?_
    rintro e w1 ⟨rfl, rfl⟩
    go_wp2_with fail
    go_ret
    exact ⟨rfl, Below.refl _ _⟩
  · have hd : decide ((1048576 : Int) < (l.length : Int)) = false := by simpa using hbig
    go_enter Try.func14, Try.ntmps14
    go_wp2_with fail
    refine (l_big v l _ hr).mono ?_
    rintro e w1 ⟨rfl, rfl⟩
    go_wp2_with fail
    refine (s_DrawIsName v l (by omega) _ hr).mono ?_
    rintro e w1 ⟨s, rfl, hsm, hb1⟩
    go_wp2_with fail
    go_loopw [4, 5] (fun k _ wr => ∃ q : Int, k = .int .i64 q ∧ 1 ≤ q ∧ q ≤ 11 ∧ Below w.heap.size w wr) (fun k _ _ => (11 - intOf k).toNat)
    case atStart => exact ⟨1, rfl, by omega, by omega, hb1⟩
    case round =>
      obtain ⟨q, rfl, hq1, hq2, hbr⟩ := hrel
      clear hb1
      by_cases hlt : q ≤ 10
      · go_wp2_with fail
        obtain ⟨wo, rfl⟩ : ∃ wo : World, wo = wr := ⟨_, rfl⟩
        go_loopw [5] (fun j wr => ∃ p : Int, j = .int .i64 p ∧ 1 ≤ p ∧ p ≤ q ∧ Below w.heap.size w wr) (fun j _ => (q - intOf j).toNat)
        case atStart => exact ⟨1, rfl, by omega, by omega, hbr⟩
        case round =>
          obtain ⟨p, rfl, hp1, hp2, hbr2⟩ := hrel
          clear hbr
          by_cases hpq : p < q
          · have hne := kind_ne hp1 hpq hlt
            go_wp2_with fail
            refine (i_KindName p _).mono ?_
            rintro e w2 ⟨rfl, hb2⟩
            go_wp2_with fail
            refine (i_KindName q _).mono ?_
            rintro e w3 ⟨rfl, hb3⟩
            go_wp2_with fail
            go_roundw
            case rel => exact ⟨p + 1, rfl, by omega, by omega, Below.then_ (Below.then_ hbr2 hb2 (Nat.le_refl _)) hb3 (Nat.le_refl _)⟩
            case measure => simp [intOf]; omega
          · have hnm := kind_isName hq1 hlt
            go_wp2_with fail
            refine (i_KindName q _).mono ?_
            rintro e w2 ⟨rfl, hb2⟩
            go_wp2_with fail
            refine (i_IsName (kindName q) _).mono ?_
            rintro e w3 ⟨rfl, hb3⟩
            go_wp2_with fail
            go_roundw
            case rel => exact ⟨q + 1, rfl, by omega, by omega, Below.then_ (Below.then_ hbr2 hb2 (Nat.le_refl _)) hb3 (Nat.le_refl _)⟩
            case measure => simp [intOf]; omega
      · by_cases hnm : isName s.data.toList = true
        · have hsz := isName_size hnm
          rw [len_of] at hsz
          have hone : Hid (isName (s ++ ⟨#[49]⟩ : ByteArray).data.toList = decide ((s.size : Int) < 12)) := by
            show _ = _
            have e : (s ++ ⟨#[49]⟩ : ByteArray).data.toList = s.data.toList ++ [49] := by simp [ByteArray.data_append]
            rw [e, isName_one hnm, len_of]
            simp
            omega
          have HN := Lib.hid hnm
          clear hnm
          go_wp2_with fail
          refine (i_IsName s _).mono ?_
          rintro e w2 ⟨rfl, hb2⟩
          rw [HN.out]
          go_wp2_with fail
          refine (s_IsName s (by unfold maxLen; omega) _).mono ?_
          rintro e w3 ⟨rfl, rfl⟩
          rw [HN.out]
          go_wp2_with fail
          refine (i_IsName s _).mono ?_
          rintro e w3 ⟨rfl, hb3⟩
          rw [HN.out]
          go_wp2_with fail
          refine (i_IsName _ _).mono ?_
          rintro e w4 ⟨rfl, hb4⟩
          rw [hone.out]
          go_wp2_with fail
          go_ret
          exact ⟨rfl, Below.then_ (Below.then_ (Below.then_ hbr hb2 (Nat.le_refl _)) hb3 (Nat.le_refl _)) hb4 (Nat.le_refl _)⟩
        · have HN := Lib.hid (by simpa using hnm : isName s.data.toList = false)
          clear hnm
          go_wp2_with fail
          refine (i_IsName s _).mono ?_
          rintro e w2 ⟨rfl, hb2⟩
          rw [HN.out]
          go_wp2_with fail
          refine (s_IsName s hsm _).mono ?_
          rintro e w3 ⟨rfl, rfl⟩
          rw [HN.out]
          go_wp2_with fail
          refine (i_IsName s _).mono ?_
          rintro e w3 ⟨rfl, hb3⟩
          rw [HN.out]
          go_wp2_with fail
          go_ret
          exact ⟨rfl, Below.then_ (Below.then_ hbr hb2 (Nat.le_refl _)) hb3 (Nat.le_refl _)⟩

end Go.Proofs.Ytophakimobcnlaa
