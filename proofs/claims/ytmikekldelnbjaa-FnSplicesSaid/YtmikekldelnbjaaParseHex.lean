/-
  ParseHex, by both texts.
-/
import Derived.Test.YtmikekldelnbjaaProg
import Derived.Test.YtmikekldelnbjaaBase
import Derived.Test.YtmikekldelnbjaaText
import Derived.Test.YtmikekldelnbjaaRep
import Derived.Test.YtmikekldelnbjaaHexText
import Derived.Test.YtmikekldelnbjaaToByte
import Derived.Test.YtmikekldelnbjaaAppend
import Derived.WalkKit
import Derived.WalkSpells
import Derived.WalkLawsBesides
import Derived.Laws.BitsAllLaws
import Derived.Lib.Hide
import Derived.IntWalk
import Derived.Deep.QuietTactic
import Derived.BigQuiet
namespace Go.Proofs.Ytmikekldelnbjaa
open Go.RowKit

/-- What a call leaves that makes one slice and a truth value. -/
def MadeP (E : TypeId) (size n : Nat) (cs : List Value) (ok : Bool) (w : World) (e : Ending) (w' : World) : Prop :=
  ∃ v, e = .returned (.tuple #[v, .bool ok]) ∧ w'.ownsRow w.heap.size E size v n cs ∧ Below w.heap.size w w'
theorem ret_pair {v : Value} {a b : Bool} (h : a = b) : Ending.returned (.tuple #[v, .bool a]) = .returned (.tuple #[v, .bool b]) := by rw [h]

theorem unhexI_eq (x : UInt8) : unhexI x = if 48 ≤ x.toNat ∧ x.toNat ≤ 57 then (x.toNat : Int) - 48 else if 97 ≤ x.toNat ∧ x.toNat ≤ 102 then (x.toNat : Int) - 87 else -1 := by
  unfold unhexI unhex
  split
  · rename_i h
    split at h
    · injection h; rw [if_pos (by assumption)]; omega
    · split at h
      · injection h; rw [if_neg (by assumption), if_pos (by assumption)]; omega
      · cases h
  · rename_i h
    split at h
    · cases h
    · split at h
      · cases h
      · rw [if_neg (by assumption), if_neg (by assumption)]
theorem cB_pair (a b : Nat) (ha : a < 16) (hb : b < 16) : cB [byteOf a b] = [.int .u8 ((a : Int) * 16 + (b : Int))] := by
  simp [cB, byteOf, Nat.toUInt8, UInt8.toNat_ofNat']
  omega
theorem i64_or_nibble (a b : Nat) (ha : a < 16) (hb : b < 16) : bits .or .i64 ((a : Int) * 16) (b : Int) = (a : Int) * 16 + b := by
  have hd : ∀ a < 16, ∀ b < 16, bits .or .i64 (((a : Nat) : Int) * 16) ((b : Nat) : Int) = ((a : Nat) : Int) * 16 + ((b : Nat) : Int) := by decide +kernel
  exact hd a ha b hb

set_option maxHeartbeats 1000000 in
theorem s_l2Digit (x : UInt8) (w : World) :
    Calls Try.prog 45 #[.int .u8 (x.toNat : Int)] w fun e w' => e = .returned (.int .i64 (unhexI x)) ∧ w = w' := by
  have hu : x.toNat < 256 := x.toNat_lt
  rcases (by omega : x.toNat < 48 ∨ (48 ≤ x.toNat ∧ x.toNat ≤ 57) ∨ (57 < x.toNat ∧ x.toNat < 97) ∨ (97 ≤ x.toNat ∧ x.toNat ≤ 102) ∨ 102 < x.toNat) with h | ⟨h, h'⟩ | ⟨h, h'⟩ | ⟨h, h'⟩ | h
  all_goals
    have hfin : Hid (unhexI x = if 48 ≤ x.toNat ∧ x.toNat ≤ 57 then (x.toNat : Int) - 48 else if 97 ≤ x.toNat ∧ x.toNat ≤ 102 then (x.toNat : Int) - 87 else -1) := unhexI_eq x
  · go_enter Try.func45, Try.ntmps45
    go_wp2_with fail
    go_ret
    exact ⟨ret_int (by rw [hfin.out, if_neg (by omega), if_neg (by omega)]), rfl⟩
  · go_enter Try.func45, Try.ntmps45
    go_wp2_with fail
    go_ret
    exact ⟨ret_int (by rw [hfin.out, if_pos (by omega)]), rfl⟩
  · go_enter Try.func45, Try.ntmps45
    go_wp2_with fail
    go_ret
    exact ⟨ret_int (by rw [hfin.out, if_neg (by omega), if_neg (by omega)]), rfl⟩
  · go_enter Try.func45, Try.ntmps45
    go_wp2_with fail
    go_ret
    exact ⟨ret_int (by rw [hfin.out, if_neg (by omega), if_pos (by omega)]; omega), rfl⟩
  · go_enter Try.func45, Try.ntmps45
    go_wp2_with fail
    go_ret
    exact ⟨ret_int (by rw [hfin.out, if_neg (by omega), if_neg (by omega)]), rfl⟩

set_option maxHeartbeats 1000000 in
theorem i_hexValue (x : UInt8) (w : World) :
    Calls Try.prog 46 #[.int .u8 (x.toNat : Int)] w fun e w' => e = .returned (.int .i64 (unhexI x)) ∧ w = w' := by
  have hu : x.toNat < 256 := x.toNat_lt
  rcases (by omega : x.toNat < 48 ∨ (48 ≤ x.toNat ∧ x.toNat ≤ 57) ∨ (57 < x.toNat ∧ x.toNat < 97) ∨ (97 ≤ x.toNat ∧ x.toNat ≤ 102) ∨ 102 < x.toNat) with h | ⟨h, h'⟩ | ⟨h, h'⟩ | ⟨h, h'⟩ | h
  all_goals
    have hfin : Hid (unhexI x = if 48 ≤ x.toNat ∧ x.toNat ≤ 57 then (x.toNat : Int) - 48 else if 97 ≤ x.toNat ∧ x.toNat ≤ 102 then (x.toNat : Int) - 87 else -1) := unhexI_eq x
  · go_enter Try.func46, Try.ntmps46
    go_wp2_with fail
    go_ret
    exact ⟨ret_int (by rw [hfin.out, if_neg (by omega), if_neg (by omega)]), rfl⟩
  · go_enter Try.func46, Try.ntmps46
    go_wp2_with fail
    go_ret
    exact ⟨ret_int (by rw [hfin.out, if_pos (by omega)]), rfl⟩
  · go_enter Try.func46, Try.ntmps46
    go_wp2_with fail
    go_ret
    exact ⟨ret_int (by rw [hfin.out, if_neg (by omega), if_neg (by omega)]), rfl⟩
  · go_enter Try.func46, Try.ntmps46
    go_wp2_with fail
    go_ret
    exact ⟨ret_int (by rw [hfin.out, if_neg (by omega), if_pos (by omega)]; omega), rfl⟩
  · go_enter Try.func46, Try.ntmps46
    go_wp2_with fail
    go_ret
    exact ⟨ret_int (by rw [hfin.out, if_neg (by omega), if_neg (by omega)]), rfl⟩

theorem q_hexValue (x : UInt8) (w : World) : Calls Try.prog 46 #[.int .u8 (x.toNat : Int)] w fun e w' => e = .returned (.int .i64 (unhexI x)) ∧ w' = w :=
  (i_hexValue x w).mono fun _ _ ⟨h, h'⟩ => ⟨h, h'.symm⟩

set_option maxHeartbeats 2000000 in
theorem i_ParseHex (s : ByteArray) (hs : s.size ≤ 4194304) (w : World) :
    Calls Try.prog 33 #[.string s] w (MadeP 5 1 (parseB s.data.toList).length (cB (parseB s.data.toList)) (parseBOk s.data.toList) w) := by
  obtain ⟨i0, hi, hz0, hz1, hz2⟩ := info_parts info_Byte
  by_cases hodd : s.size % 2 = 0
  · have hm : ((s.size : Int) % 2 != 0) = false := by simp; omega
    have hm2 : ((s.size : Int) % 2 == 0) = true := by simp; omega
    go_enter Try.func33, Try.ntmps33
    go_wp2_with fail
    have hown0 := World.ownsRow_lit (base := w.heap.size) (e := 5) (size := 1) w #[] 0 (Nat.le_refl _) (Nat.zero_le _) rfl
    go_loopw [4, 5, 6, 7] (fun o i _ _ wr => ∃ (k : Nat) (t : List UInt8), k ≤ s.size ∧ k % 2 = 0 ∧ i = .int .i64 k ∧ t.length = k / 2 ∧ parseHex (s.data.toList.take k) = some t ∧ wr.ownsRow w.heap.size 5 1 o t.length (cB t) ∧ Below w.heap.size w wr)
      (fun _ i _ _ _ => s.size - (intOf i).toNat)
    case atStart => exact ⟨0, [], Nat.zero_le _, rfl, rfl, rfl, rfl, hown0, (Below.refl _ _).alloc (Nat.le_refl _) _⟩
    case round =>
      obtain ⟨k, t, hk, hk2, rfl, htl, hpt, hownr, hbr⟩ := hrel
      have HP := Lib.hid hpt
      clear hown0 hpt
      by_cases hlt : k < s.size
      · have hlt1 : k + 1 < s.size := by omega
        have HX := Lib.hid (get_list s k hlt)
        have HY := Lib.hid (get_list s (k + 1) hlt1)
        have hlti : (k : Int) < (s.size : Int) := by omega
        have hlti1 : (k : Int) + 1 < (s.size : Int) := by omega
        have HO := Lib.hid hownr
        have HB := Lib.hid hbr
        have HK := Lib.hid hk2
        have HT := Lib.hid htl
        clear hownr hbr hk2 htl
        cases hux : unhex s[k] with
        | none =>
          have hfin := Lib.hid (parse_bad (by rw [len_of]; omega) HK.out HX.out HY.out (.inl hux))
          have hi1 : unhexI s[k] = -1 := by unfold unhexI; rw [hux]
          clear hux
          go_wp2_with fail
          have hw0 : (0 : Int) ≤ (k : Int) + 1 := by omega
          have hw1 : ((k : Int) + 1).toNat = k + 1 := by omega
          have hw2 : IntKind.i64.wrap ((k : Int) + 1) = (k : Int) + 1 := IntWalk.i64_in _ (by omega)
          go_quiet ((go_at_call 46; exact Calls.quiet_of_same (q_hexValue _ _)))
          clear hw2
          go_wp2_with fail
          go_ret2
          refine ⟨_, ret_pair (by unfold parseBOk; rw [hfin.out]; rfl), ?_, (below_drewN HB.out _).alloc HB.out.size _⟩
          unfold parseB
          rw [hfin.out]
          exact World.ownsRow_lit (base := w.heap.size) (e := 5) (size := 1) _ #[] 0 (by have := HB.out.size; simpa using this) (Nat.zero_le _) rfl
        | some a =>
          have hi1 : unhexI s[k] = (a : Int) := by unfold unhexI; rw [hux]
          have ha := unhex_lt hux
          have HUX := Lib.hid hux
          clear hux
          cases huy : unhex s[k + 1] with
          | none =>
            have hfin := Lib.hid (parse_bad (by rw [len_of]; omega) HK.out HX.out HY.out (.inr huy))
            have hi2 : unhexI s[k + 1] = -1 := by unfold unhexI; rw [huy]
            clear huy
            go_wp2_with fail
            have hw0 : (0 : Int) ≤ (k : Int) + 1 := by omega
            have hw1 : ((k : Int) + 1).toNat = k + 1 := by omega
            have hw2 : IntKind.i64.wrap ((k : Int) + 1) = (k : Int) + 1 := IntWalk.i64_in _ (by omega)
            go_quiet ((go_at_call 46; exact Calls.quiet_of_same (q_hexValue _ _)))
            clear hw2
            go_wp2_with fail
            go_ret2
            refine ⟨_, ret_pair (by unfold parseBOk; rw [hfin.out]; rfl), ?_, (below_drewN HB.out _).alloc HB.out.size _⟩
            unfold parseB
            rw [hfin.out]
            exact World.ownsRow_lit (base := w.heap.size) (e := 5) (size := 1) _ #[] 0 (by have := HB.out.size; simpa using this) (Nat.zero_le _) rfl
          | some b =>
            have hi2 : unhexI s[k + 1] = (b : Int) := by unfold unhexI; rw [huy]
            have hb := unhex_lt huy
            have HN := Lib.hid (parse_good HK.out HX.out HY.out HUX.out huy HP.out)
            have hlit := Lib.hid (Rd.lit wr (cB [byteOf a b]) 5 1 rfl (by unfold maxLen; omega))
            have htk : t.length ≤ 4194304 := by have := HT.out; omega
            have hcb := Lib.hid (cB_pair a b ha hb)
            clear huy
            have hor := i64_or_nibble a b ha hb
            go_wp2_with fail
            have hw0 : (0 : Int) ≤ (k : Int) + 1 := by omega
            have hw1 : ((k : Int) + 1).toNat = k + 1 := by omega
            have hw2 : IntKind.i64.wrap ((k : Int) + 1) = (k : Int) + 1 := IntWalk.i64_in _ (by omega)
            go_quiet ((go_at_call 46; exact Calls.quiet_of_same (q_hexValue _ _)))
            clear hw2
            go_wp2_with (at_builtin; refine wpList_append_rd _ rfl (.tmp 36) (.tmp 42) 22 rfl w.heap.size 5 i0 (.int .u8 0) 1 1 Try.underlying22 hi hz0 hz1 hz2 rfl (by decide) _ t.length (cB t) rfl (HO.out.alloc _) _ 1 (cB [byteOf a b]) rfl ?c1 (cB_one _) (by unfold maxLen; omega) (by omega) (by have := HB.out.size; simp; omega) ?_)
            case c1 => rw [← hcb.out]; exact hlit.out
            intro v' w' hown' hgrow' _
            have HB' : Hid (Below w.heap.size w w') := own_grown_below ((below_drewN HB.out _).alloc HB.out.size _) (HO.out.alloc _) hgrow' (by have := HB.out.size; simp; omega) (Nat.le_refl _)
            have HO' := Lib.hid hown'
            clear hgrow' hown'
            go_wp2_with fail
            go_roundw
            case rel => exact ⟨k + 2, _, by omega, by have := HK.out; omega, by go_num, by have := HT.out; simp; omega, HN.out, by rw [cB_append, List.length_append]; exact HO'.out, HB'.out⟩
            case measure => simp [intOf]; omega
      · obtain rfl : k = s.size := by omega
        have hpt := HP.out
        rw [List.take_of_length_le (by rw [len_of]; exact Nat.le_refl _)] at hpt
        have HPT := Lib.hid hpt
        have HO := Lib.hid hownr
        have HB := Lib.hid hbr
        clear hpt hownr hbr hk2 htl
        go_wp2_with fail
        go_ret2
        refine ⟨_, ret_pair (by unfold parseBOk; rw [HPT.out]; rfl), ?_, HB.out⟩
        unfold parseB
        rw [HPT.out]
        exact HO.out
  · have hm : ((s.size : Int) % 2 != 0) = true := by simp; omega
    have hm2 : ((s.size : Int) % 2 == 0) = false := by simp; omega
    have hfin := Lib.hid (parse_odd (s.size / 2) s.data.toList (by rw [len_of]; omega))
    clear hodd
    go_enter Try.func33, Try.ntmps33
    go_wp2_with fail
    go_ret2
    refine ⟨_, ret_pair (by unfold parseBOk; rw [hfin.out]; rfl), ?_, (Below.refl _ _).alloc (Nat.le_refl _) _⟩
    unfold parseB
    rw [hfin.out]
    exact World.ownsRow_lit (base := w.heap.size) (e := 5) (size := 1) _ #[] 0 (Nat.le_refl _) (Nat.zero_le _) rfl

set_option maxHeartbeats 2000000 in
theorem s_ParseHex (s : ByteArray) (hs : s.size ≤ 4194304) (w : World) :
    Calls Try.prog 32 #[.string s] w (MadeP 5 1 (parseB s.data.toList).length (cB (parseB s.data.toList)) (parseBOk s.data.toList) w) := by
  obtain ⟨i0, hi, hz0, hz1, hz2⟩ := info_parts info_Byte
  by_cases hodd : s.size % 2 = 0
  · have hm : ((s.size : Int) % 2 != 0) = false := by simp; omega
    have hm2 : ((s.size : Int) % 2 == 0) = true := by simp; omega
    go_enter Try.func32, Try.ntmps32
    go_wp2_with fail
    have hown0 := World.ownsRow_lit (base := w.heap.size) (e := 5) (size := 1) w #[] 0 (Nat.le_refl _) (Nat.zero_le _) rfl
    go_loopw [4, 5, 6, 7] (fun o i _ _ wr => ∃ (k : Nat) (t : List UInt8), k ≤ s.size ∧ k % 2 = 0 ∧ i = .int .i64 k ∧ t.length = k / 2 ∧ parseHex (s.data.toList.take k) = some t ∧ wr.ownsRow w.heap.size 5 1 o t.length (cB t) ∧ Below w.heap.size w wr)
      (fun _ i _ _ _ => s.size - (intOf i).toNat)
    case atStart => exact ⟨0, [], Nat.zero_le _, rfl, rfl, rfl, rfl, hown0, (Below.refl _ _).alloc (Nat.le_refl _) _⟩
    case round =>
      obtain ⟨k, t, hk, hk2, rfl, htl, hpt, hownr, hbr⟩ := hrel
      have HP := Lib.hid hpt
      clear hown0 hpt
      by_cases hlt : k < s.size
      · have hlt1 : k + 1 < s.size := by omega
        have HX := Lib.hid (get_list s k hlt)
        have HY := Lib.hid (get_list s (k + 1) hlt1)
        have hlti : (k : Int) < (s.size : Int) := by omega
        have hlti1 : (k : Int) + 1 < (s.size : Int) := by omega
        have HO := Lib.hid hownr
        have HB := Lib.hid hbr
        have HK := Lib.hid hk2
        have HT := Lib.hid htl
        clear hownr hbr hk2 htl
        cases hux : unhex s[k] with
        | none =>
          have hfin := Lib.hid (parse_bad (by rw [len_of]; omega) HK.out HX.out HY.out (.inl hux))
          have hi1 : unhexI s[k] = -1 := by unfold unhexI; rw [hux]
          clear hux
          go_wp2_with (go_at_call 45; refine (s_l2Digit _ _).mono ?_; rintro e w' ⟨rfl, rfl⟩)
          go_ret2
          refine ⟨_, ret_pair (by unfold parseBOk; rw [hfin.out]; rfl), ?_, HB.out.alloc HB.out.size _⟩
          unfold parseB
          rw [hfin.out]
          exact World.ownsRow_lit (base := w.heap.size) (e := 5) (size := 1) _ #[] 0 (by have := HB.out.size; simpa using this) (Nat.zero_le _) rfl
        | some a =>
          have hi1 : unhexI s[k] = (a : Int) := by unfold unhexI; rw [hux]
          have ha := unhex_lt hux
          have HUX := Lib.hid hux
          clear hux
          cases huy : unhex s[k + 1] with
          | none =>
            have hfin := Lib.hid (parse_bad (by rw [len_of]; omega) HK.out HX.out HY.out (.inr huy))
            have hi2 : unhexI s[k + 1] = -1 := by unfold unhexI; rw [huy]
            clear huy
            go_wp2_with (go_at_call 45; refine (s_l2Digit _ _).mono ?_; rintro e w' ⟨rfl, rfl⟩)
            go_ret2
            refine ⟨_, ret_pair (by unfold parseBOk; rw [hfin.out]; rfl), ?_, HB.out.alloc HB.out.size _⟩
            unfold parseB
            rw [hfin.out]
            exact World.ownsRow_lit (base := w.heap.size) (e := 5) (size := 1) _ #[] 0 (by have := HB.out.size; simpa using this) (Nat.zero_le _) rfl
          | some b =>
            have hi2 : unhexI s[k + 1] = (b : Int) := by unfold unhexI; rw [huy]
            have hb := unhex_lt huy
            have HN := Lib.hid (parse_good HK.out HX.out HY.out HUX.out huy HP.out)
            have hlit := Lib.hid (Rd.lit wr (cB [byteOf a b]) 5 1 rfl (by unfold maxLen; omega))
            have htk : t.length ≤ 4194304 := by have := HT.out; omega
            have hcb := Lib.hid (cB_pair a b ha hb)
            clear huy
            go_wp2_with (first | (go_at_call 45; refine (s_l2Digit _ _).mono ?_; rintro e w' ⟨rfl, rfl⟩) | (at_builtin; refine wpList_append_rd _ rfl (.tmp 36) (.tmp 42) 22 rfl w.heap.size 5 i0 (.int .u8 0) 1 1 Try.underlying22 hi hz0 hz1 hz2 rfl (by decide) _ t.length (cB t) rfl (HO.out.alloc _) _ 1 (cB [byteOf a b]) rfl ?c1 (cB_one _) (by unfold maxLen; omega) (by omega) (by have := HB.out.size; simp; omega) ?_))
            case c1 => rw [← hcb.out]; exact hlit.out
            intro v' w' hown' hgrow' _
            have HB' : Hid (Below w.heap.size w w') := own_grown_below (HB.out.alloc HB.out.size _) (HO.out.alloc _) hgrow' (by have := HB.out.size; simp; omega) (Nat.le_refl _)
            have HO' := Lib.hid hown'
            clear hgrow' hown'
            go_wp2_with fail
            go_roundw
            case rel => exact ⟨k + 2, _, by omega, by have := HK.out; omega, by go_num, by have := HT.out; simp; omega, HN.out, by rw [cB_append, List.length_append]; exact HO'.out, HB'.out⟩
            case measure => simp [intOf]; omega
      · obtain rfl : k = s.size := by omega
        have hpt := HP.out
        rw [List.take_of_length_le (by rw [len_of]; exact Nat.le_refl _)] at hpt
        have HPT := Lib.hid hpt
        have HO := Lib.hid hownr
        have HB := Lib.hid hbr
        clear hpt hownr hbr hk2 htl
        go_wp2_with fail
        go_ret2
        refine ⟨_, ret_pair (by unfold parseBOk; rw [HPT.out]; rfl), ?_, HB.out⟩
        unfold parseB
        rw [HPT.out]
        exact HO.out
  · have hm : ((s.size : Int) % 2 != 0) = true := by simp; omega
    have hm2 : ((s.size : Int) % 2 == 0) = false := by simp; omega
    have hfin := Lib.hid (parse_odd (s.size / 2) s.data.toList (by rw [len_of]; omega))
    clear hodd
    go_enter Try.func32, Try.ntmps32
    go_wp2_with fail
    go_ret2
    refine ⟨_, ret_pair (by unfold parseBOk; rw [hfin.out]; rfl), ?_, (Below.refl _ _).alloc (Nat.le_refl _) _⟩
    unfold parseB
    rw [hfin.out]
    exact World.ownsRow_lit (base := w.heap.size) (e := 5) (size := 1) _ #[] 0 (Nat.le_refl _) (Nat.zero_le _) rfl

end Go.Proofs.Ytmikekldelnbjaa
