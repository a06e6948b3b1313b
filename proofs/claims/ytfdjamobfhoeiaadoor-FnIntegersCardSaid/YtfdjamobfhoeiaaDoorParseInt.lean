/-
  ParseInt, by both texts.
-/
import Derived.Test.YtfdjamobfhoeiaaDoorProg
import Derived.Test.YtfdjamobfhoeiaaDoorBase
import Derived.Test.YtfdjamobfhoeiaaDoorText
import Derived.Test.YtfdjamobfhoeiaaDoorDec
import Derived.Test.YtfdjamobfhoeiaaDoorFmtInt
import Derived.WalkKit
import Derived.WalkSpells
import Derived.WalkLawsBesides
import Derived.Lib.Hide
namespace Go.Proofs.YtfdjamobfhoeiaaDoor
open Go.RowKit

theorem ret_parse {l : List UInt8} {n : Int} {b : Bool} (hn : n = parseNum l) (hb : b = parseOk l) : Ending.returned (.tuple #[.int .i64 n, .bool b]) = .returned (.tuple #[.int .i64 (parseNum l), .bool (parseOk l)]) := by rw [hn, hb]
theorem parseNum_not {l : List UInt8} (h : parseOk l = false) : (0 : Int) = parseNum l := by unfold parseNum; rw [h]; rfl
theorem parseNum_of {l : List UInt8} (h : parseOk l = true) : ((val l : Nat) : Int) = parseNum l := by unfold parseNum; rw [h]; rfl

/-- The rounds' relation. -/
def ValInv (s : ByteArray) (k : Nat) (n : Int) : Prop := (s.data.toList.take k).all isDigit = true ∧ n = (val (s.data.toList.take k) : Nat)
theorem ValInv.zero (s : ByteArray) : ValInv s 0 0 := ⟨by simp, by simp [val]⟩
theorem ValInv.bound {s : ByteArray} {k : Nat} {n : Int} (h : ValInv s k n) (hk : k ≤ s.size) (h13 : s.size ≤ 13) : 0 ≤ n ∧ n < 10000000000000 := by
  obtain ⟨h1, rfl⟩ := h
  have := val_lt h1
  have hl : (s.data.toList.take k).length = k := by rw [List.length_take, len_of]; omega
  rw [hl] at this
  have : (10 : Nat) ^ k ≤ 10 ^ 13 := Nat.pow_le_pow_right (by omega) (by omega)
  omega
theorem ValInv.step {s : ByteArray} {k : Nat} {n : Int} (h : ValInv s k n) (hlt : k < s.size) (h1 : 48 ≤ s[k].toNat) (h2 : s[k].toNat ≤ 57) : ValInv s (k + 1) (10 * n + ((s[k].toNat : Int) - 48)) := by
  obtain ⟨hd, rfl⟩ := h
  unfold ValInv
  rw [take_step (get_list s k hlt), val_snoc, List.all_append, hd]
  exact ⟨by simp [isDigit]; omega, by omega⟩
theorem ValInv.done {s : ByteArray} {n : Int} (h : ValInv s s.size n) : s.data.toList.all isDigit = true ∧ n = (val s.data.toList : Nat) := by
  have := h
  unfold ValInv at this
  rwa [List.take_of_length_le (by rw [len_of]; exact Nat.le_refl _)] at this

set_option maxHeartbeats 2000000 in
theorem i_ParseInt (s : ByteArray) (w : World) :
    Calls Tryd.prog 9 #[.string s] w fun e w' => e = .returned (.tuple #[.int .i64 (parseNum s.data.toList), .bool (parseOk s.data.toList)]) ∧ w = w' := by
  by_cases h0 : s.size = 0
  · have hfin := Lib.hid (parseOk_not (l := s.data.toList) (.inl (by rw [len_of]; omega)))
    have he : s.toList.isEmpty = true := by rw [Lib.toList_data]; simp; exact Array.eq_empty_of_size_eq_zero h0
    clear h0
    go_enter Tryd.func9, Tryd.ntmps9
    go_wp2_with fail
    go_ret2
    exact ⟨ret_parse (parseNum_not hfin.out) hfin.out.symm, rfl⟩
  · have he : s.toList.isEmpty = false := by
      rw [Lib.toList_data]
      cases e : s.data.toList with
      | nil => have := len_of s; rw [e] at this; simp at this; omega
      | cons x r => rfl
    by_cases h13 : 13 < s.size
    · have hfin := Lib.hid (parseOk_not (l := s.data.toList) (.inr (.inl (by rw [len_of]; omega))))
      have hd : decide (13 < (s.size : Int)) = true := by simp; omega
      clear h0
      go_enter Tryd.func9, Tryd.ntmps9
      go_wp2_with fail
      go_ret2
      exact ⟨ret_parse (parseNum_not hfin.out) hfin.out.symm, rfl⟩
    · have hd : decide (13 < (s.size : Int)) = false := by simp; omega
      have hp : 0 < s.size := by omega
      have Hg0 := Lib.hid (get_list s 0 hp)
      clear h0
      by_cases hlead : s[0] = 48 ∧ 1 < s.size
      · obtain ⟨hz, h1⟩ := hlead
        have hfin := Lib.hid (parseOk_not (l := s.data.toList) (.inr (.inr (.inr (.inr ⟨by rw [len_of]; omega, by rw [Hg0.out, hz]⟩)))))
        have hb : (((s[0].toNat : Nat) : Int) == 48) = true := by rw [hz]; rfl
        have hd1 : decide (1 < (s.size : Int)) = true := by simp; omega
        clear hz
        go_enter Tryd.func9, Tryd.ntmps9
        go_wp2_with fail
        go_ret2
        exact ⟨ret_parse (parseNum_not hfin.out) hfin.out.symm, rfl⟩
      · have hbad : ((((s[0].toNat : Nat) : Int) == 48) && decide (1 < (s.size : Int))) = false := by
          rw [Bool.and_eq_false_iff]
          by_cases hz : s[0] = 48
          · right; simp; have := Nat.not_lt.1 (fun h => hlead ⟨hz, h⟩); omega
          · left
            rw [beq_eq_false_iff_ne]
            intro e
            exact hz (UInt8.toNat_inj.1 (by simp; omega))
        have HL := Lib.hid (show s.data.toList.length = 1 ∨ s.data.toList[0]? ≠ some 48 by
          rw [len_of]
          by_cases hz : s[0] = 48
          · left; have := Nat.not_lt.1 (fun h => hlead ⟨hz, h⟩); omega
          · right; rw [Hg0.out]; intro e; exact hz (Option.some.inj e))
        clear hlead
        have hcases : (((s[0].toNat : Nat) : Int) == 48) = false ∨ ((((s[0].toNat : Nat) : Int) == 48) = true ∧ decide (1 < (s.size : Int)) = false) := by
          cases hq : (((s[0].toNat : Nat) : Int) == 48)
          · left; rfl
          · right; rw [hq] at hbad; simpa using hbad
        clear hbad
        rcases hcases with hq | ⟨hq, hq2⟩
        all_goals
          go_enter Tryd.func9, Tryd.ntmps9
          go_wp2_with fail
          go_loop [4, 5] (fun n i => ∃ (k : Nat) (v : Int), k ≤ s.size ∧ i = .int .i64 k ∧ n = .int .i64 v ∧ ValInv s k v) (fun _ i => s.size - (intOf i).toNat)
          case atStart => exact ⟨0, 0, Nat.zero_le _, rfl, rfl, ValInv.zero s⟩
          case round =>
            obtain ⟨k, v, hk, rfl, rfl, hv⟩ := hrel
            obtain ⟨hv1, hv2⟩ := hv.bound hk (by omega)
            clear hq
            by_cases hlt : k < s.size
            · have hub : s[k].toNat < 256 := s[k].toNat_lt
              by_cases hlo : 48 ≤ s[k].toNat
              · by_cases hhi : s[k].toNat ≤ 57
                · have HS := Lib.hid (hv.step hlt hlo hhi)
                  go_wp2_with fail
                  go_round
                  case rel => exact ⟨k + 1, _, by omega, by go_num, rfl, HS.out⟩
                  case measure => simp [intOf]; omega
                · have hfin := Lib.hid (parseOk_not (l := s.data.toList) (.inr (.inr (.inl (all_bad (get_list s k hlt) (by simp [isDigit]; omega))))))
                  have hd2 : decide (57 < ((s[k].toNat : Nat) : Int)) = true := by simp; omega
                  go_wp2_with fail
                  go_ret2
                  exact ⟨ret_parse (parseNum_not hfin.out) hfin.out.symm, rfl⟩
              · have hfin := Lib.hid (parseOk_not (l := s.data.toList) (.inr (.inr (.inl (all_bad (get_list s k hlt) (by simp [isDigit]; omega))))))
                go_wp2_with fail
                go_ret2
                exact ⟨ret_parse (parseNum_not hfin.out) hfin.out.symm, rfl⟩
            · obtain rfl : k = s.size := by omega
              obtain ⟨hall, hval⟩ := hv.done
              by_cases hmax : v ≤ 1000000000000
              · have hfin := Lib.hid (parseOk_of (l := s.data.toList) (by rw [len_of]; omega) (by rw [len_of]; omega) hall (by omega) HL.out)
                have HV := Lib.hid hval
                clear hval hall
                go_wp2_with fail
                go_ret2
                exact ⟨ret_parse (by rw [HV.out]; exact parseNum_of hfin.out) hfin.out.symm, rfl⟩
              · have hfin := Lib.hid (parseOk_not (l := s.data.toList) (.inr (.inr (.inr (.inl (by omega))))))
                clear hval hall
                go_wp2_with fail
                go_ret2
                exact ⟨ret_parse (parseNum_not hfin.out) hfin.out.symm, rfl⟩

end Go.Proofs.YtfdjamobfhoeiaaDoor
