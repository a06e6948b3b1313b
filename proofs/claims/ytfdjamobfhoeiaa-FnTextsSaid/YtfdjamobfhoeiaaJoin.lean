/-
  JoinText, by both texts.
-/
import Derived.Test.YtfdjamobfhoeiaaProg
import Derived.Test.YtfdjamobfhoeiaaBase
import Derived.Test.YtfdjamobfhoeiaaRep
import Derived.Test.YtfdjamobfhoeiaaSplitL
import Derived.Test.YtfdjamobfhoeiaaShelf
import Derived.WalkKit
import Derived.WalkSpells
import Derived.WalkLawsBesides
import Derived.Lib.Hide
namespace Go.Proofs.Ytfdjamobfhoeiaa
open Go.RowKit
attribute [local go_sem] mkS_append mkS_size

theorem joinTail_len (sep : List UInt8) (r : List (List UInt8)) : (Lib.joinTail sep r).length = sep.length * r.length + Lib.lens r := Lib.joinTail_length sep r
theorem join_len_le (ps : List (List UInt8)) (sep : List UInt8) : (Lib.join ps sep).length ≤ Lib.lens ps + sep.length * ps.length := by
  cases ps with
  | nil => simp [Lib.join_nil]
  | cons x r =>
    rw [Lib.join_cons, List.length_append, joinTail_len]
    simp only [Lib.lens, List.map_cons, List.sum_cons, List.length_cons, Nat.mul_succ]
    omega
theorem join_take_succ (ps : List (List UInt8)) (sep : List UInt8) {k : Nat} (h : k < ps.length) (h0 : 0 < k) : Lib.join (ps.take (k + 1)) sep = Lib.join (ps.take k) sep ++ sep ++ ps[k] := by
  have hne : ps.take k ≠ [] := by
    intro e
    have := congrArg List.length e
    rw [List.length_take, List.length_nil] at this; omega
  rw [List.take_succ_eq_append_getElem h, join_snoc _ _ _ hne]
theorem join_take_one (ps : List (List UInt8)) (sep : List UInt8) (h : 0 < ps.length) : Lib.join (ps.take 1) sep = ps[0] := by
  have := List.take_succ_eq_append_getElem (l := ps) (i := 0) h
  rw [this]; simp [Lib.join_one]
theorem join_take_le (ps : List (List UInt8)) (sep : List UInt8) (k : Nat) : (Lib.join (ps.take k) sep).length ≤ Lib.lens ps + sep.length * ps.length := by
  refine Nat.le_trans (join_len_le _ _) ?_
  have h1 := Lib.lens_take_le ps k
  have h2 : (ps.take k).length ≤ ps.length := by rw [List.length_take]; omega
  have := Nat.mul_le_mul_left sep.length h2
  omega

set_option maxHeartbeats 1000000 in
theorem s_JoinText (v : Value) (ps : List (List UInt8)) (sep : List UInt8) (hn : ps.length ≤ 4194304) (hb : Lib.lens ps + sep.length * ps.length ≤ 35184372088832) (w : World) (h : Rd w v 1 ps.length (cS (tS ps))) :
    Calls Try.prog 24 #[v, .string (mkS sep)] w fun e w' => e = .returned (.string (mkS (Lib.join ps sep))) ∧ w = w' := by
  obtain ⟨_, A, c, rfl, hnc, hcm, hcell⟩ := h
  unfold maxLen at hcm
  have HC := Lib.hid hcell; clear hcell
  obtain ⟨n, hN⟩ : ∃ n, n = ps.length := ⟨_, rfl⟩
  rw [← hN] at hnc hn
  have hb' : ∀ k, (Lib.join (ps.take k) sep).length ≤ 35184372088832 := fun k => Nat.le_trans (join_take_le ps sep k) hb
  have HBD := Lib.hid hb'
  have HN := Lib.hid hN
  rw [← hN]
  clear hb hb' hN
  go_enter Try.func24, Try.ntmps24
  go_wp2_with fail
  go_loop [5, 6] (fun o i => ∃ k : Nat, k ≤ n ∧ i = .int .i64 k ∧ o = .string (mkS (Lib.join (ps.take k) sep))) (fun _ i => n - (intOf i).toNat)
  case atStart => exact ⟨0, Nat.zero_le _, rfl, rfl⟩
  case round =>
    obtain ⟨k, hk, rfl, rfl⟩ := hrel
    by_cases hlt : k < n
    · have hkp : k < ps.length := by rw [← HN.out]; exact hlt
      obtain ⟨b, off, rfl, hc⟩ := HC.out (by rw [cS_len, tS_len, ← HN.out]; omega)
      have hcl := hc k _ (tS_at hkp)
      obtain ⟨t, ht⟩ : ∃ t, t = ps[k] := ⟨_, rfl⟩
      rw [← ht] at hcl
      have hsz := HBD.out k
      obtain ⟨J, hJ⟩ : ∃ J, J = Lib.join (ps.take k) sep := ⟨_, rfl⟩
      rw [← hJ] at hsz ⊢
      have HJ := Lib.hid hJ
      have hsz2 := HBD.out (k + 1)
      rcases Nat.lt_or_ge k 1 with h0 | h0
      · have HF := Lib.hid (show Lib.join (ps.take (k + 1)) sep = J ++ t by
          obtain rfl : k = 0 := by omega
          rw [hJ, ht]; exact (join_take_one ps sep hkp).trans (by simp [Lib.join_nil]))
        rw [HF.out] at hsz2
        simp only [List.length_append] at hsz2
        have hd : decide ((0 : Int) < (k : Int)) = false := by simp; omega
        clear hc ht hJ
        go_wp2_with fail
        go_round
        case rel => exact ⟨k + 1, by omega, by go_num, by rw [HF.out]⟩
        case measure => simp [intOf]; omega
      · have HF := Lib.hid (show Lib.join (ps.take (k + 1)) sep = J ++ (sep ++ t) by rw [hJ, ht, ← List.append_assoc]; exact join_take_succ ps sep hkp h0)
        rw [HF.out] at hsz2
        simp only [List.length_append] at hsz2
        have hd : decide ((0 : Int) < (k : Int)) = true := by simp; omega
        clear hc ht hJ
        go_wp2_with fail
        go_round
        case rel => exact ⟨k + 1, by omega, by go_num, by rw [HF.out]⟩
        case measure => simp [intOf]; omega
    · obtain rfl : k = n := by omega
      have HF := Lib.hid (show ps.take k = ps from List.take_of_length_le (by rw [← HN.out]; exact Nat.le_refl _))
      go_wp2_with fail
      go_ret
      exact ⟨ret_str (by rw [HF.out]), rfl⟩

set_option maxHeartbeats 1000000 in
theorem i_JoinText (v : Value) (ps : List (List UInt8)) (sep : List UInt8) (hn : ps.length ≤ 4194304) (hb : Lib.lens ps + sep.length * ps.length ≤ 35184372088832) (w : World) (h : Rd w v 1 ps.length (cS (tS ps))) :
    Calls Try.prog 26 #[v, .string (mkS sep)] w fun e w' => e = .returned (.string (mkS (Lib.join ps sep))) ∧ Below w.heap.size w w' := by
  obtain ⟨_, A, c, rfl, hnc, hcm, hcell⟩ := h
  unfold maxLen at hcm
  have hle := Nat.le_trans (join_len_le ps sep) hb
  rcases Nat.eq_zero_or_pos ps.length with h0 | h0
  · have e0 : ps = [] := List.eq_nil_of_length_eq_zero h0
    subst e0
    clear hcell hb hle
    go_enter Try.func26, Try.ntmps26
    go_wp2_with fail
    refine (Try.strings_Join_none _ _ _ _).mono ?_
    rintro e w1 ⟨rfl, rfl⟩
    go_wp2_with fail
    go_ret
    exact ⟨rfl, Below.refl _ _⟩
  · obtain ⟨b, off, rfl, hc⟩ := hcell (by rw [cS_len, tS_len]; exact h0)
    have hJ := Try.strings_Join b off c (tS ps) (mkS sep) w (fun j x hx => by
      rw [hc j (.string x) (by simp [cS, hx])]) (by
      have h1 := hc 0 _ (tS_at h0)
      exact World.block_lt_of_cell? w _ h1) (by rw [tS_len]; omega) (by rw [tS_len]; exact hnc) (by rw [tS_data, mkS_list]; omega)
    rw [tS_data, mkS_list, tS_len] at hJ
    have HJ := Lib.hid hJ
    clear hcell hc hJ
    go_enter Try.func26, Try.ntmps26
    go_wp2_with fail
    refine HJ.out.mono ?_
    rintro e w1 ⟨rfl, hb1⟩
    go_wp2_with fail
    go_ret
    exact ⟨rfl, hb1⟩

end Go.Proofs.Ytfdjamobfhoeiaa
