/-
  ReadInteger, by both texts.
-/
import Derived.Test.YtmikekldelnbjaaProg
import Derived.Test.YtmikekldelnbjaaBase
import Derived.Test.YtmikekldelnbjaaRep
import Derived.WalkKit
import Derived.WalkSpells
import Derived.WalkLawsBesides
import Derived.Laws.BitsAllLaws
import Derived.Lib.Hide
namespace Go.Proofs.Ytmikekldelnbjaa
open Go.RowKit

def be (l : List UInt8) : Nat := l.foldl (fun n x => n * 256 + x.toNat) 0
theorem be_snoc (l : List UInt8) (x : UInt8) : be (l ++ [x]) = be l * 256 + x.toNat := by simp [be]
def ordered (l : List UInt8) (little : Bool) : List UInt8 := if little then l.reverse else l
def readInt (l : List UInt8) (little : Bool) : Int := if l.length ≤ 4 then (be (ordered l little) : Nat) else 0
theorem ordered_len (l : List UInt8) (little : Bool) : (ordered l little).length = l.length := by cases little <;> simp [ordered]
theorem be_step {l : List UInt8} {k : Nat} (h : k < l.length) : be (l.take (k + 1)) = be (l.take k) * 256 + l[k].toNat := by
  rw [List.take_succ_eq_append_getElem h, be_snoc]
theorem be_bound (l : List UInt8) : ∀ k, k ≤ l.length → be (l.take k) < 256 ^ k := by
  intro k
  induction k with
  | zero => intro _; simp [be]
  | succ k ih =>
    intro h
    rw [be_step (by omega)]
    have := ih (by omega)
    have := l[k].toNat_lt
    rw [Nat.pow_succ]
    omega
theorem be_bound4 (l : List UInt8) (k : Nat) (h : k ≤ l.length) (h4 : k ≤ 4) : be (l.take k) < 4294967296 := by
  have := be_bound l k h
  have : 256 ^ k ≤ 256 ^ 4 := Nat.pow_le_pow_right (by omega) h4
  omega
theorem be_bound3 (l : List UInt8) (k : Nat) (h : k ≤ l.length) (h4 : k < 4) : be (l.take k) < 16777216 := by
  have := be_bound l k h
  have : 256 ^ k ≤ 256 ^ 3 := Nat.pow_le_pow_right (by omega) (by omega)
  omega
theorem rev_at {l : List UInt8} {k : Nat} (h : k < l.length) : (ordered l true)[k]? = some (l[l.length - 1 - k]) := by
  simp [ordered, h]
theorem fwd_at {l : List UInt8} {k : Nat} (h : k < l.length) : (ordered l false)[k]? = some l[k] := by
  simp [ordered, h]
theorem be_at {l : List UInt8} {k : Nat} {x : UInt8} (h : l[k]? = some x) : be (l.take (k + 1)) = be (l.take k) * 256 + x.toNat := by
  have hk : k < l.length := (List.getElem?_eq_some_iff.1 h).1
  rw [be_step hk]
  rw [List.getElem?_eq_getElem hk] at h
  rw [Option.some.inj h]

theorem ofInt_i64 (a : Nat) (ha : a < 9223372036854775808) : (BitVec.ofInt 64 (a : Int)).toNat = a := by
  rw [BitVec.ofInt_natCast, BitVec.toNat_ofNat]; exact Nat.mod_eq_of_lt (by omega)
theorem i64_or_byte (a b : Nat) (ha : a < 16777216) (hb : b < 256) : bits .or .i64 ((a : Int) * 256) (b : Int) = (a : Int) * 256 + b := by
  have e : a * 256 ||| b = a * 256 + b := by
    have := Nat.shiftLeft_add_eq_or_of_lt (i := 8) hb a
    rw [Nat.shiftLeft_eq] at this
    exact this.symm
  show IntKind.i64.wrap ((BitVec.ofInt 64 ((a : Int) * 256) ||| BitVec.ofInt 64 (b : Int)).toNat : Int) = _
  rw [show ((a : Int) * 256) = ((a * 256 : Nat) : Int) by omega, BitVec.toNat_or, ofInt_i64 _ (by omega), ofInt_i64 _ (by omega), e, IntKind.wrap_i64]
  omega

set_option maxHeartbeats 1000000 in
theorem s_ReadInteger (v : Value) (l : List UInt8) (little : Bool) (w : World) (h : Rd w v 1 l.length (cB l)) :
    Calls Try.prog 22 #[v, .bool little] w fun e w' => e = .returned (.int .i64 (readInt l little)) ∧ w = w' := by
  obtain ⟨_, A, c, rfl, hnc, hcm, hcell⟩ := h
  unfold maxLen at hcm
  have HC := Lib.hid hcell; clear hcell
  by_cases h4 : l.length ≤ 4
  · have hd : decide (4 < (l.length : Int)) = false := by simp; omega
    have hfin : Hid (((be (ordered l little) : Nat) : Int) = readInt l little) := by show _ = _; unfold readInt; rw [if_pos h4]
    cases little
    all_goals
      go_enter Try.func22, Try.ntmps22
      go_wp2_with fail
    · go_loop [5, 6, 7] (fun n i _ => ∃ k : Nat, k ≤ l.length ∧ i = .int .i64 k ∧ n = .int .i64 (be ((ordered l false).take k) : Nat)) (fun _ i _ => l.length - (intOf i).toNat)
      case atStart => exact ⟨0, Nat.zero_le _, rfl, by simp [be]⟩
      case round =>
        obtain ⟨k, hk, rfl, rfl⟩ := hrel
        have hbd := be_bound4 (ordered l false) k (by rw [ordered_len]; exact hk) (by omega)
        by_cases hlt : k < l.length
        · obtain ⟨b, off, rfl, hc⟩ := HC.out (by rw [cB_len]; omega)
          have hck : w.cell? ⟨b, off + k, none⟩ = some (.int .u8 (l[k].toNat : Int)) := hc k _ (cB_at hlt)
          have hub : l[k].toNat < 256 := l[k].toNat_lt
          have HS := Lib.hid (be_at (fwd_at hlt))
          clear hc
          go_wp2_with fail
          go_round
          case rel => exact ⟨k + 1, by omega, by go_num, by rw [HS.out]; go_num⟩
          case measure => simp [intOf]; omega
        · obtain rfl : k = l.length := by omega
          go_wp2_with fail
          go_ret
          exact ⟨ret_int (by rw [← hfin.out, List.take_of_length_le (by rw [ordered_len]; exact Nat.le_refl _)]), rfl⟩
    · go_loop [5, 6, 7] (fun n i _ => ∃ k : Nat, k ≤ l.length ∧ i = .int .i64 k ∧ n = .int .i64 (be ((ordered l true).take k) : Nat)) (fun _ i _ => l.length - (intOf i).toNat)
      case atStart => exact ⟨0, Nat.zero_le _, rfl, by simp [be]⟩
      case round =>
        obtain ⟨k, hk, rfl, rfl⟩ := hrel
        have hbd := be_bound4 (ordered l true) k (by rw [ordered_len]; exact hk) (by omega)
        by_cases hlt : k < l.length
        · obtain ⟨b, off, rfl, hc⟩ := HC.out (by rw [cB_len]; omega)
          have hck : w.cell? ⟨b, off + (l.length - 1 - k), none⟩ = some (.int .u8 (l[l.length - 1 - k].toNat : Int)) := hc _ _ (cB_at (by omega))
          have hub : l[l.length - 1 - k].toNat < 256 := UInt8.toNat_lt _
          have HS := Lib.hid (be_at (rev_at hlt))
          clear hc
          go_wp2_with fail
          go_round
          case rel => exact ⟨k + 1, by omega, by go_num, by rw [HS.out]; go_num⟩
          case measure => simp [intOf]; omega
        · obtain rfl : k = l.length := by omega
          go_wp2_with fail
          go_ret
          exact ⟨ret_int (by rw [← hfin.out, List.take_of_length_le (by rw [ordered_len]; exact Nat.le_refl _)]), rfl⟩
  · have hfin : Hid ((0 : Int) = readInt l little) := by show _ = _; unfold readInt; rw [if_neg h4]
    have hd : decide (4 < (l.length : Int)) = true := by simp; omega
    go_enter Try.func22, Try.ntmps22
    go_wp2_with fail
    go_ret
    exact ⟨ret_int hfin.out, rfl⟩

set_option maxHeartbeats 1000000 in
theorem i_ReadInteger (v : Value) (l : List UInt8) (little : Bool) (w : World) (h : Rd w v 1 l.length (cB l)) :
    Calls Try.prog 23 #[v, .bool little] w fun e w' => e = .returned (.int .i64 (readInt l little)) ∧ w = w' := by
  obtain ⟨_, A, c, rfl, hnc, hcm, hcell⟩ := h
  unfold maxLen at hcm
  have HC := Lib.hid hcell; clear hcell
  by_cases h4 : l.length ≤ 4
  · have hd : decide (4 < (l.length : Int)) = false := by simp; omega
    have hfin : Hid (((be (ordered l little) : Nat) : Int) = readInt l little) := by show _ = _; unfold readInt; rw [if_pos h4]
    cases little
    all_goals
      go_enter Try.func23, Try.ntmps23
      go_wp2_with fail
    · go_loop [5, 12] (fun n i => ∃ k : Nat, k ≤ l.length ∧ i = .int .i64 k ∧ n = .int .i64 (be ((ordered l false).take k) : Nat)) (fun _ i => l.length - (intOf i).toNat)
      case atStart => exact ⟨0, Nat.zero_le _, rfl, by simp [be]⟩
      case round =>
        obtain ⟨k, hk, rfl, rfl⟩ := hrel
        have hbd := be_bound4 (ordered l false) k (by rw [ordered_len]; exact hk) (by omega)
        by_cases hlt : k < l.length
        · obtain ⟨b, off, rfl, hc⟩ := HC.out (by rw [cB_len]; omega)
          have hck : w.cell? ⟨b, off + k, none⟩ = some (.int .u8 (l[k].toNat : Int)) := hc _ _ (cB_at (by omega))
          have hub : l[k].toNat < 256 := UInt8.toNat_lt _
          have HS := Lib.hid (be_at (fwd_at hlt))
          have hbd3 := be_bound3 (ordered l false) k (by rw [ordered_len]; exact hk) (by omega)
          have hor := i64_or_byte _ _ hbd3 hub
          clear hc
          go_wp2_with fail
          go_round
          case rel => exact ⟨k + 1, by omega, by go_num, by rw [HS.out]; go_num⟩
          case measure => simp [intOf]; omega
        · obtain rfl : k = l.length := by omega
          go_wp2_with fail
          go_ret
          exact ⟨ret_int (by rw [← hfin.out, List.take_of_length_le (by rw [ordered_len]; exact Nat.le_refl _)]), rfl⟩
    · go_loop [5, 12] (fun n i => ∃ k : Nat, k ≤ l.length ∧ i = .int .i64 k ∧ n = .int .i64 (be ((ordered l true).take k) : Nat)) (fun _ i => l.length - (intOf i).toNat)
      case atStart => exact ⟨0, Nat.zero_le _, rfl, by simp [be]⟩
      case round =>
        obtain ⟨k, hk, rfl, rfl⟩ := hrel
        have hbd := be_bound4 (ordered l true) k (by rw [ordered_len]; exact hk) (by omega)
        by_cases hlt : k < l.length
        · obtain ⟨b, off, rfl, hc⟩ := HC.out (by rw [cB_len]; omega)
          have hck : w.cell? ⟨b, off + (l.length - 1 - k), none⟩ = some (.int .u8 (l[l.length - 1 - k].toNat : Int)) := hc _ _ (cB_at (by omega))
          have hub : l[l.length - 1 - k].toNat < 256 := UInt8.toNat_lt _
          have HS := Lib.hid (be_at (rev_at hlt))
          have hbd3 := be_bound3 (ordered l true) k (by rw [ordered_len]; exact hk) (by omega)
          have hor := i64_or_byte _ _ hbd3 hub
          clear hc
          go_wp2_with fail
          go_round
          case rel => exact ⟨k + 1, by omega, by go_num, by rw [HS.out]; go_num⟩
          case measure => simp [intOf]; omega
        · obtain rfl : k = l.length := by omega
          go_wp2_with fail
          go_ret
          exact ⟨ret_int (by rw [← hfin.out, List.take_of_length_le (by rw [ordered_len]; exact Nat.le_refl _)]), rfl⟩
  · have hfin : Hid ((0 : Int) = readInt l little) := by show _ = _; unfold readInt; rw [if_neg h4]
    have hd : decide (4 < (l.length : Int)) = true := by simp; omega
    go_enter Try.func23, Try.ntmps23
    go_wp2_with fail
    go_ret
    exact ⟨ret_int hfin.out, rfl⟩

end Go.Proofs.Ytmikekldelnbjaa
