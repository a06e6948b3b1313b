/-
  Several texts in one: Split, Words, TextPlain, MadeD, MadeL.
-/
import Derived.Test.YtkjjgpkegihmhaaGreatDoorProg
import Derived.Test.YtkjjgpkegihmhaaGreatDoorGA
import Derived.WalkKit
import Derived.WalkSpells
import Derived.WalkLawsBesides
import Derived.Lib.Hide
import Derived.Deep.QuietTactic
import Derived.BigQuiet
import Derived.Laws.OwnMore
import Derived.Test.YtkjjgpkegihmhaaGreatDoorGF
import Derived.Test.YtkjjgpkegihmhaaGreatDoorGE
namespace Go.Proofs.YtkjjgpkegihmhaaGreatDoor
open Go.RowKit

set_option maxHeartbeats 1000000 in
theorem i_SplitText (s : ByteArray) (c : Int) (hc : 0 ≤ c ∧ c ≤ 255) (hs : s.size ≤ 4194304) (w : World) :
    Calls Tryz.prog 80 #[.string s, .int .u8 c] w (Made 9 1 (tS (splitL s.data.toList c.toNat.toUInt8)).length (cS (tS (splitL s.data.toList c.toNat.toUInt8))) w) := by
  obtain ⟨i0, hi, hz0, hz1, hz2⟩ := info_parts info_String
  have hpl := splitL_len s.data.toList c.toNat.toUInt8
  rw [len_of] at hpl
  go_enter Tryz.func80, Tryz.ntmps80
  go_wp2_with fail
  have hown0 := World.ownsRow_lit (base := w.heap.size) (e := 9) (size := 1) w #[] 0 (Nat.le_refl _) (Nat.zero_le _) rfl
  go_loopw [5, 6, 7] (fun o f i wr => ∃ (k a : Nat) (p : List (List UInt8)), k ≤ s.size ∧ f = .int .i64 a ∧ i = .int .i64 k ∧ SplitInv s.data.toList c.toNat.toUInt8 k p a ∧ wr.ownsRow w.heap.size 9 1 o (tS p).length (cS (tS p)) ∧ Below w.heap.size w wr)
    (fun _ _ i _ => s.size - (intOf i).toNat)
  case atStart => exact ⟨0, 0, [], Nat.zero_le _, rfl, rfl, SplitInv.zero _ _, by simpa [tS, cS] using hown0, (Below.refl _ _).alloc (Nat.le_refl _) _⟩
  case round =>
    obtain ⟨k, a, p, hk, rfl, rfl, hinv, hownr, hbr⟩ := hrel
    have hak := hinv.1
    have hpa := hinv.2.1
    have hpl' : (tS p).length = p.length := tS_len p
    have HPL := Lib.hid hpl'
    obtain ⟨m, hm⟩ : ∃ m, m = (tS p).length := ⟨_, rfl⟩
    have hmk : m ≤ 4194304 := by omega
    rw [← hm] at hownr
    have HM := Lib.hid hm
    have HI := Lib.hid hinv
    have HO := Lib.hid hownr
    have HB := Lib.hid hbr
    clear hown0 hownr hbr hinv hpl' hm
    by_cases hlt : k < s.size
    · have hg := get_list s k hlt
      have he := u8_eq_iff s[k] c hc
      have Hg := Lib.hid hg; clear hg
      by_cases hx : s[k] = c.toNat.toUInt8
      · have ht : (((s[k].toNat : Nat) : Int) == c) = true := by rw [he]; simpa using hx
        have HI' : Hid (SplitInv s.data.toList c.toNat.toUInt8 (k + 1) (p ++ [(s.data.toList.drop a).take (k - a)]) (k + 1)) := HI.out.hit (by rw [Hg.out, hx])
        have hlit := Lib.hid (Rd.lit wr (cS [s.extract a k]) 9 1 rfl (by unfold maxLen; omega))
        have hex := Lib.hid (extract_mk s a k)
        clear he hx
        go_wp2_with (at_builtin; refine wpList_append_rd _ rfl (.tmp 20) (.tmp 25) 27 rfl w.heap.size 9 i0 (.string ⟨#[]⟩) 1 16 Tryz.underlying27 hi hz0 hz1 hz2 rfl (by decide) _ m (cS (tS p)) rfl (HO.out.alloc _) _ 1 (cS [s.extract a k]) rfl ?c1 (cS_one _) (by unfold maxLen; omega) (by omega) (by have := HB.out.size; simp; omega) ?_)
        case c1 => exact hlit.out
        intro v' w' hown' hgrow' _
        have HB' : Hid (Below w.heap.size w w') := own_grown_below (HB.out.alloc HB.out.size _) (HO.out.alloc _) hgrow' (by have := HB.out.size; simp; omega) (Nat.le_refl _)
        have HO' := Lib.hid hown'
        clear hgrow' hown'
        go_wp2_with fail
        go_roundw
        case rel =>
          refine ⟨k + 1, k + 1, p ++ [(s.data.toList.drop a).take (k - a)], by omega, by go_num, by go_num, HI'.out, ?_, HB'.out⟩
          have h := HO'.out
          rw [hex.out, HM.out] at h
          rw [tS_append, List.length_append, cS_append]
          exact h
        case measure => simp [intOf]; omega
      · have ht : (((s[k].toNat : Nat) : Int) == c) = false := by rw [he]; simpa using hx
        have HI' : Hid (SplitInv s.data.toList c.toNat.toUInt8 (k + 1) p a) := HI.out.miss Hg.out hx
        clear he hx
        go_wp2_with fail
        go_roundw
        case rel => exact ⟨k + 1, a, p, by omega, rfl, by go_num, HI'.out, by rw [← HM.out]; exact HO.out, HB.out⟩
        case measure => simp [intOf]; omega
    · obtain rfl : k = s.size := by omega
      have hfin := Lib.hid (HI.out.done (len_of s).symm)
      have hlit := Lib.hid (Rd.lit wr (cS [s.extract a s.size]) 9 1 rfl (by unfold maxLen; omega))
      have hex := Lib.hid (extract_end s a)
      go_wp2_with (at_builtin; refine wpList_append_rd _ rfl (.tmp 29) (.tmp 33) 27 rfl w.heap.size 9 i0 (.string ⟨#[]⟩) 1 16 Tryz.underlying27 hi hz0 hz1 hz2 rfl (by decide) _ m (cS (tS p)) rfl (HO.out.alloc _) _ 1 (cS [s.extract a s.size]) rfl ?c2 (cS_one _) (by unfold maxLen; omega) (by omega) (by have := HB.out.size; simp; omega) ?_)
      case c2 => exact hlit.out
      intro v' w' hown' hgrow' _
      have HB' : Hid (Below w.heap.size w w') := own_grown_below (HB.out.alloc HB.out.size _) (HO.out.alloc _) hgrow' (by have := HB.out.size; simp; omega) (Nat.le_refl _)
      have HO' := Lib.hid hown'
      clear hgrow' hown'
      go_wp2_with fail
      go_ret
      refine ⟨_, rfl, ?_, HB'.out⟩
      have h := HO'.out
      rw [hex.out, HM.out] at h
      rw [← hfin.out, tS_append, List.length_append, cS_append]
      exact h

set_option maxHeartbeats 1000000 in
theorem s_SplitText (s : ByteArray) (c : Int) (hc : 0 ≤ c ∧ c ≤ 255) (hs : s.size ≤ 4194304) (w : World) :
    Calls Tryz.prog 67 #[.string s, .int .u8 c] w (Made 9 1 (tS (splitL s.data.toList c.toNat.toUInt8)).length (cS (tS (splitL s.data.toList c.toNat.toUInt8))) w) := by
  obtain ⟨i0, hi, hz0, hz1, hz2⟩ := info_parts info_String
  go_enter Tryz.func67, Tryz.ntmps67
  go_wp2_with fail
  have hown0 := World.ownsRow_lit (base := w.heap.size) (e := 9) (size := 1) w #[] 0 (Nat.le_refl _) (Nat.zero_le _) rfl
  go_loopw [5, 6, 7] (fun o f i wr => ∃ (k : Nat) (p : List (List UInt8)), k ≤ s.size + 1 ∧ i = .int .i64 k ∧ wr.ownsRow w.heap.size 9 1 o (tS p).length (cS (tS p)) ∧ Below w.heap.size w wr ∧ ((k ≤ s.size ∧ ∃ a : Nat, f = .int .i64 a ∧ SplitInv s.data.toList c.toNat.toUInt8 k p a) ∨ (k = s.size + 1 ∧ p = splitL s.data.toList c.toNat.toUInt8)))
    (fun _ _ i _ => s.size + 1 - (intOf i).toNat)
  case atStart => exact ⟨0, [], Nat.zero_le _, rfl, by simpa [tS, cS] using hown0, (Below.refl _ _).alloc (Nat.le_refl _) _, .inl ⟨Nat.zero_le _, 0, rfl, SplitInv.zero _ _⟩⟩
  case round =>
    obtain ⟨k, p, hk1, rfl, hownr, hbr, hcase⟩ := hrel
    rcases hcase with ⟨hk, a, rfl, hinv⟩ | ⟨rfl, rfl⟩
    · have hak := hinv.1
      have hpa := hinv.2.1
      have hpl' : (tS p).length = p.length := tS_len p
      obtain ⟨m, hm⟩ : ∃ m, m = (tS p).length := ⟨_, rfl⟩
      have hmk : m ≤ 4194304 := by omega
      rw [← hm] at hownr
      have HM := Lib.hid hm
      have HI := Lib.hid hinv
      have HO := Lib.hid hownr
      have HB := Lib.hid hbr
      clear hown0 hownr hbr hinv hpl' hm
      by_cases hlt : k < s.size
      · have hg := get_list s k hlt
        have he := u8_eq_iff s[k] c hc
        have Hg := Lib.hid hg; clear hg
        have hne : ((k : Int) == (s.size : Int)) = false := by simp; omega
        by_cases hx : s[k] = c.toNat.toUInt8
        · have ht : (((s[k].toNat : Nat) : Int) == c) = true := by rw [he]; simpa using hx
          have HI' : Hid (SplitInv s.data.toList c.toNat.toUInt8 (k + 1) (p ++ [(s.data.toList.drop a).take (k - a)]) (k + 1)) := HI.out.hit (by rw [Hg.out, hx])
          have hlit := Lib.hid (Rd.lit wr (cS [s.extract a k]) 9 1 rfl (by unfold maxLen; omega))
          have hex := Lib.hid (extract_mk s a k)
          clear he hx
          go_wp2_with (at_builtin; refine wpList_append_rd _ rfl (.tmp 26) (.tmp 31) 27 rfl w.heap.size 9 i0 (.string ⟨#[]⟩) 1 16 Tryz.underlying27 hi hz0 hz1 hz2 rfl (by decide) _ m (cS (tS p)) rfl (HO.out.alloc _) _ 1 (cS [s.extract a k]) rfl ?c1 (cS_one _) (by unfold maxLen; omega) (by omega) (by have := HB.out.size; simp; omega) ?_)
          case c1 => exact hlit.out
          intro v' w' hown' hgrow' _
          have HB' : Hid (Below w.heap.size w w') := own_grown_below (HB.out.alloc HB.out.size _) (HO.out.alloc _) hgrow' (by have := HB.out.size; simp; omega) (Nat.le_refl _)
          have HO' := Lib.hid hown'
          clear hgrow' hown'
          go_wp2_with fail
          go_roundw
          case rel =>
            refine ⟨k + 1, p ++ [(s.data.toList.drop a).take (k - a)], by omega, by go_num, ?_, HB'.out, .inl ⟨by omega, k + 1, by go_num, HI'.out⟩⟩
            have h := HO'.out
            rw [hex.out, HM.out] at h
            rw [tS_append, List.length_append, cS_append]
            exact h
          case measure => simp [intOf]; omega
        · have ht : (((s[k].toNat : Nat) : Int) == c) = false := by rw [he]; simpa using hx
          have HI' : Hid (SplitInv s.data.toList c.toNat.toUInt8 (k + 1) p a) := HI.out.miss Hg.out hx
          clear he hx
          go_wp2_with fail
          go_roundw
          case rel => exact ⟨k + 1, p, by omega, by go_num, by rw [← HM.out]; exact HO.out, HB.out, .inl ⟨by omega, a, rfl, HI'.out⟩⟩
          case measure => simp [intOf]; omega
      · obtain rfl : k = s.size := by omega
        have hfin := Lib.hid (HI.out.done (len_of s).symm)
        have hne : ((s.size : Int) == (s.size : Int)) = true := by simp
        have hlit := Lib.hid (Rd.lit wr (cS [s.extract a s.size]) 9 1 rfl (by unfold maxLen; omega))
        have hex := Lib.hid (extract_end s a)
        go_wp2_with (at_builtin; refine wpList_append_rd _ rfl (.tmp 26) (.tmp 31) 27 rfl w.heap.size 9 i0 (.string ⟨#[]⟩) 1 16 Tryz.underlying27 hi hz0 hz1 hz2 rfl (by decide) _ m (cS (tS p)) rfl (HO.out.alloc _) _ 1 (cS [s.extract a s.size]) rfl ?c2 (cS_one _) (by unfold maxLen; omega) (by omega) (by have := HB.out.size; simp; omega) ?_)
        case c2 => exact hlit.out
        intro v' w' hown' hgrow' _
        have HB' : Hid (Below w.heap.size w w') := own_grown_below (HB.out.alloc HB.out.size _) (HO.out.alloc _) hgrow' (by have := HB.out.size; simp; omega) (Nat.le_refl _)
        have HO' := Lib.hid hown'
        clear hgrow' hown'
        go_wp2_with fail
        go_roundw
        case rel =>
          refine ⟨s.size + 1, splitL s.data.toList c.toNat.toUInt8, by omega, by go_num, ?_, HB'.out, .inr ⟨rfl, rfl⟩⟩
          have h := HO'.out
          rw [hex.out, HM.out] at h
          rw [← hfin.out, tS_append, List.length_append, cS_append]
          exact h
        case measure => simp [intOf]
    · have HO := Lib.hid hownr
      have HB := Lib.hid hbr
      clear hown0 hownr hbr
      have hd : decide ((s.size : Int) + 1 ≤ (s.size : Int)) = false := by simp; omega
      go_wp2_with fail
      go_ret
      exact ⟨_, rfl, HO.out, HB.out⟩

end Go.Proofs.YtkjjgpkegihmhaaGreatDoor

namespace Go.Proofs.YtkjjgpkegihmhaaGreatDoor
open Go.RowKit

theorem own_front {w : World} {base : Nat} {e : TypeId} {size n g cap : Nat} {xs : List Value} (h : w.ownsRow base e size (.slice (some ⟨g, 0, none⟩) n cap) n xs) {a : Nat} (ha : a ≤ n) :
    w.ownsRow base e size (.slice (some ⟨g, 0, none⟩) a cap) a (xs.take (a * size)) := by
  rcases h.2 with ⟨h1, _⟩ | ⟨g', cap', cur, hv, hb, hg, hnc, hcm, hcs, ht⟩
  · cases h1
  · injection hv with h1 _ h2
    injection h1 with h1
    injection h1 with h1
    subst h1; subst h2
    have hle : a * size ≤ n * size := Nat.mul_le_mul_right _ ha
    refine ⟨by rw [List.length_take, h.1]; omega, .inr ⟨g, cap, cur, rfl, hb, hg, by omega, hcm, hcs, ?_⟩⟩
    rw [← ht, List.take_take, Nat.min_eq_left hle]
theorem mkS_empty {p : List UInt8} : (mkS p).toList.isEmpty = p.isEmpty := by rw [Lib.toList_data, mkS_list]

def fullL (ps : List (List UInt8)) : List (List UInt8) := ps.filter fun p => !p.isEmpty
theorem fullL_len (ps : List (List UInt8)) : (fullL ps).length ≤ ps.length := List.length_filter_le _ _
theorem fullL_yes {ps : List (List UInt8)} {k : Nat} (h : k < ps.length) (he : ps[k].isEmpty = false) : fullL (ps.take (k + 1)) = fullL (ps.take k) ++ [ps[k]] := by
  unfold fullL; rw [List.take_succ_eq_append_getElem h, List.filter_append]; simp [he]
theorem fullL_no {ps : List (List UInt8)} {k : Nat} (h : k < ps.length) (he : ps[k].isEmpty = true) : fullL (ps.take (k + 1)) = fullL (ps.take k) := by
  unfold fullL; rw [List.take_succ_eq_append_getElem h, List.filter_append]; simpa using he

def noneL (ps : List (List UInt8)) : Nat := (ps.filter fun p => !isCommentL p).length
theorem noneL_yes {ps : List (List UInt8)} {k : Nat} (h : k < ps.length) (he : isCommentL ps[k] = true) : noneL (ps.take (k + 1)) = noneL (ps.take k) := by
  unfold noneL; rw [List.take_succ_eq_append_getElem h, List.filter_append]; simp [he]
theorem noneL_no {ps : List (List UInt8)} {k : Nat} (h : k < ps.length) (he : isCommentL ps[k] = false) : noneL (ps.take (k + 1)) = noneL (ps.take k) + 1 := by
  unfold noneL; rw [List.take_succ_eq_append_getElem h, List.filter_append]; simp [he]
theorem noneL_le (ps : List (List UInt8)) : noneL ps ≤ ps.length := List.length_filter_le _ _

theorem isComment_cons {l p : List UInt8} {r : List (List UInt8)} (h : wordsL l = p :: r) : isCommentL l = decide (p[0]? = some 35) := by unfold isCommentL; rw [h]
theorem isComment_nil {l : List UInt8} (h : wordsL l = []) : isCommentL l = true := by unfold isCommentL; rw [h]

set_option maxHeartbeats 1000000 in
theorem i_SplitLines (s : ByteArray) (hs : s.size ≤ 4194304) (w : World) :
    Calls Tryz.prog 58 #[.string s] w (Made 9 1 (tS (linesL s.data.toList)).length (cS (tS (linesL s.data.toList))) w) := by
  have hS := i_SplitText s 10 (by omega) hs
  rw [show (10 : Int).toNat.toUInt8 = (10 : UInt8) from rfl] at hS
  have hpos := splitL_pos s.data.toList 10
  have hlen := splitL_len s.data.toList 10
  rw [len_of] at hlen
  have hL : linesL s.data.toList = if (splitL s.data.toList 10).getLast? = some [] then (splitL s.data.toList 10).dropLast else splitL s.data.toList 10 := rfl
  generalize splitL s.data.toList 10 = ps at *
  generalize linesL s.data.toList = ls at *
  have HL := Lib.hid hL
  have HS := Lib.hid hS
  clear hL hS
  go_enter Tryz.func58, Tryz.ntmps58
  go_wp2_with fail
  refine (HS.out _).mono ?_
  rintro e w1 ⟨v, rfl, hv, hb1⟩
  rw [tS_len] at hv
  obtain ⟨n, hn⟩ : ∃ n, n = ps.length := ⟨_, rfl⟩
  rw [← hn] at hv hpos hlen
  obtain ⟨g, cap, rfl, hg1, hg2⟩ := hv.form hpos
  have hcm : n ≤ cap ∧ cap ≤ maxLen := by
    obtain ⟨_, A, c, h, h1, h2, _⟩ := Rd.of_own hv
    injection h with _ _ h
    subst h; exact ⟨h1, h2⟩
  obtain ⟨hnc, hcm⟩ := hcm
  unfold maxLen at hcm
  have hlt : n - 1 < ps.length := by omega
  have hcl : w1.cell? ⟨g, n - 1, none⟩ = some (.string (mkS ps[n - 1])) := by rw [hv.cellAt (n - 1) (by omega)]; exact tS_at hlt
  have hlast : ps.getLast? = some ps[n - 1] := by rw [List.getLast?_eq_getElem?, ← hn, List.getElem?_eq_getElem hlt]
  have HV := Lib.hid hv
  have HN := Lib.hid hn
  have HB := Lib.hid hb1
  have HLL := Lib.hid hlast
  clear hv hn hb1 hlast
  by_cases he : ps[n - 1] = []
  · have hq : (mkS ps[n - 1]).toList.isEmpty = true := by rw [mkS_empty, he]; rfl
    have hfin := Lib.hid (show ps.take (n - 1) = ls by rw [HL.out, HLL.out, he, if_pos rfl, List.dropLast_eq_take, ← HN.out])
    clear he
    go_wp2_with fail
    go_ret
    refine ⟨_, rfl, ?_, HB.out⟩
    have h := own_front HV.out (a := n - 1) (by omega)
    rw [Nat.mul_one, ← cS_take] at h
    have e : (tS ps).take (n - 1) = tS ls := by rw [← hfin.out]; simp [tS, List.map_take]
    rw [e] at h
    have e2 : (tS ls).length = n - 1 := by rw [tS_len, ← hfin.out, List.length_take]; omega
    rw [e2]
    exact h
  · have hq : (mkS ps[n - 1]).toList.isEmpty = false := by rw [mkS_empty]; simpa using he
    have hfin := Lib.hid (show ps = ls by rw [HL.out, HLL.out, if_neg (fun e => he (Option.some.inj e))])
    clear he
    go_wp2_with fail
    go_ret
    refine ⟨_, rfl, ?_, HB.out⟩
    have h := HV.out
    rw [hfin.out] at h
    have e2 : (tS ls).length = n := by rw [tS_len, ← hfin.out, ← HN.out]
    rw [e2]
    exact h

set_option maxHeartbeats 1000000 in
theorem i_Words (s : ByteArray) (hs : s.size ≤ 4194304) (w : World) :
    Calls Tryz.prog 38 #[.string s] w (Made 9 1 (tS (wordsL s.data.toList)).length (cS (tS (wordsL s.data.toList))) w) := by
  obtain ⟨i0, hi, hz0, hz1, hz2⟩ := info_parts info_String
  have hS := i_SplitText s 32 (by omega) hs
  rw [show (32 : Int).toNat.toUInt8 = (32 : UInt8) from rfl] at hS
  have hpos := splitL_pos s.data.toList 32
  have hlen := splitL_len s.data.toList 32
  rw [len_of] at hlen
  have hL : wordsL s.data.toList = fullL (splitL s.data.toList 32) := rfl
  generalize splitL s.data.toList 32 = ps at *
  generalize wordsL s.data.toList = ls at *
  subst hL
  have HS := Lib.hid hS
  clear hS
  go_enter Tryz.func38, Tryz.ntmps38
  go_wp2_with fail
  refine (HS.out _).mono ?_
  rintro e w1 ⟨v, rfl, hv, hb1⟩
  rw [tS_len] at hv
  obtain ⟨n, hn⟩ : ∃ n, n = ps.length := ⟨_, rfl⟩
  rw [← hn] at hv hpos hlen
  obtain ⟨g, cap, rfl, hg1, hg2⟩ := hv.form hpos
  have hcm : n ≤ cap ∧ cap ≤ maxLen := by
    obtain ⟨_, A, c, h, h1, h2, _⟩ := Rd.of_own hv
    injection h with _ _ h
    subst h; exact ⟨h1, h2⟩
  obtain ⟨hnc, hcm⟩ := hcm
  unfold maxLen at hcm
  have hg3 : w.heap.size + 1 ≤ g := by simpa using hg1
  have HN := Lib.hid hn
  have hcells : ∀ j (hj : j < ps.length), w1.cell? ⟨g, j, none⟩ = some (.string (mkS ps[j])) := fun j hj => by rw [hv.cellAt j (by rw [← hn] at hj; omega)]; exact tS_at hj
  have HC := Lib.hid hcells
  have hown0 := own_below (World.ownsRow_lit (base := w.heap.size) (e := 9) (size := 1) w #[] 0 (Nat.le_refl _) (Nat.zero_le _) rfl) hb1
  have hb0 : Below w.heap.size w w1 := ((Below.refl _ _).alloc (Nat.le_refl _) _).trans (hb1.mono (by simp))
  have hg2' := hg2
  clear hn hv hcells hb1
  go_wp2_with fail
  go_loopw [3, 10] (fun o i wr => ∃ k : Nat, k ≤ n ∧ i = .int .i64 k ∧ wr.ownsRow w.heap.size 9 1 o (tS (fullL (ps.take k))).length (cS (tS (fullL (ps.take k)))) ∧ Below w.heap.size w wr ∧ o.ownBlock ≠ some g ∧ g < wr.heap.size ∧ (∀ j (hj : j < ps.length), wr.cell? ⟨g, j, none⟩ = some (.string (mkS ps[j]))))
    (fun _ i _ => n - (intOf i).toNat)
  case atStart => exact ⟨0, Nat.zero_le _, rfl, by simpa [fullL, tS, cS] using hown0, hb0, by simp [Value.ownBlock]; omega, hg2, HC.out⟩
  case round =>
    obtain ⟨k, hk, rfl, hownr, hbr, hog, hgw, hcr⟩ := hrel
    obtain ⟨m, hm⟩ : ∃ m, m = (tS (fullL (ps.take k))).length := ⟨_, rfl⟩
    have hmk : m ≤ 4194305 := by
      rw [hm, tS_len]
      have := fullL_len (ps.take k)
      rw [List.length_take] at this
      omega
    rw [← hm] at hownr
    have HM := Lib.hid hm
    have HO := Lib.hid hownr
    have HB := Lib.hid hbr
    have HOG := Lib.hid hog
    have HCR := Lib.hid hcr
    clear hm hownr hbr hog hcr hown0 hb0
    by_cases hlt : k < n
    · have hkp : k < ps.length := by rw [← HN.out]; exact hlt
      have hcl := HCR.out k hkp
      obtain ⟨t, ht⟩ : ∃ t, t = ps[k] := ⟨_, rfl⟩
      rw [← ht] at hcl
      by_cases he : t.isEmpty = true
      · have hq : (mkS t).toList.isEmpty = true := by rw [mkS_empty, he]
        have HF := Lib.hid (fullL_no hkp (by rw [← ht]; exact he))
        clear he ht
        go_wp2_with fail
        go_roundw
        case rel => exact ⟨k + 1, by omega, by go_num, by rw [HF.out, ← HM.out]; exact HO.out, HB.out, HOG.out, hgw, HCR.out⟩
        case measure => simp [intOf]; omega
      · have hq : (mkS t).toList.isEmpty = false := by rw [mkS_empty]; simpa using he
        have HF := Lib.hid (fullL_yes hkp (by rw [← ht]; simpa using he))
        rw [← ht] at HF
        have hlit := Lib.hid (Rd.lit wr (cS [mkS t]) 9 1 rfl (by unfold maxLen; omega))
        clear he ht
        go_wp2_with (at_builtin; refine wpList_append_rd _ rfl (.tmp 16) (.tmp 18) 27 rfl w.heap.size 9 i0 (.string ⟨#[]⟩) 1 16 Tryz.underlying27 hi hz0 hz1 hz2 rfl (by decide) _ m (cS (tS (fullL (ps.take k)))) rfl (HO.out.alloc _) _ 1 (cS [mkS t]) rfl ?c1 (cS_one _) (by unfold maxLen; omega) (by omega) (by have := HB.out.size; simp; omega) ?_)
        case c1 => exact hlit.out
        intro v' w' hown' hgrow' hat'
        have HB' : Hid (Below w.heap.size w w') := own_grown_below (HB.out.alloc HB.out.size _) (HO.out.alloc _) hgrow' (by have := HB.out.size; simp; omega) (Nat.le_refl _)
        have HO' := Lib.hid hown'
        have hgw' : g < w'.heap.size := by have := hgrow'.size; simp at this; omega
        have HOG' : Hid (v'.ownBlock ≠ some g) := by
          rcases hat' with h | h
          · rw [h]; exact HOG.out
          · rw [h]; intro e; simp at e; omega
        have HC' : Hid (∀ j (hj : j < ps.length), w'.cell? ⟨g, j, none⟩ = some (.string (mkS ps[j]))) := fun j hj => by
          rw [← HCR.out j hj, ← World.cell?_alloc_lt wr (.cells (cS [mkS t]).toArray 9) ⟨g, j, none⟩ hgw]
          exact World.cell?_of_block (hgrow'.block g (by simp; omega) (fun e => HOG.out e.symm))
        clear hgrow' hown' hat'
        go_wp2_with fail
        go_roundw
        case rel =>
          refine ⟨k + 1, by omega, by go_num, ?_, HB'.out, HOG'.out, hgw', HC'.out⟩
          have h := HO'.out
          rw [HM.out] at h
          rw [HF.out, tS_append, List.length_append, cS_append]
          exact h
        case measure => simp [intOf]; omega
    · obtain rfl : k = n := by omega
      have HF := Lib.hid (show ps.take k = ps from List.take_of_length_le (by rw [← HN.out]; exact Nat.le_refl _))
      go_wp2_with fail
      go_ret
      refine ⟨_, rfl, ?_, HB.out⟩
      have h := HO.out
      rw [HM.out, HF.out] at h
      exact h

set_option maxHeartbeats 1000000 in
theorem i_IsComment (s : ByteArray) (hs : s.size ≤ 4194304) (w : World) :
    Calls Tryz.prog 59 #[.string s] w fun e w' => e = .returned (.bool (isCommentL s.data.toList)) ∧ Below w.heap.size w w' := by
  have hW := i_Words s hs
  have hmem := fun p (h : p ∈ wordsL s.data.toList) => (wordsL_mem h).2.2
  cases hws : wordsL s.data.toList with
  | nil =>
    have hfin := Lib.hid (isComment_nil hws)
    rw [hws] at hW
    have HW := Lib.hid hW
    clear hW hws hmem
    go_enter Tryz.func59, Tryz.ntmps59
    go_wp2_with fail
    refine (HW.out _).mono ?_
    rintro e w1 ⟨v, rfl, hv, hb1⟩
    obtain ⟨A, c, rfl⟩ : ∃ A c, v = .slice A 0 c := by
      obtain ⟨_, A, c, h, _⟩ := Rd.of_own hv
      exact ⟨A, c, h⟩
    clear hv
    go_wp2_with fail
    go_ret
    exact ⟨ret_bool hfin.out.symm, hb1⟩
  | cons p r =>
    have hfin := Lib.hid (isComment_cons hws)
    have hne := hmem p (by rw [hws]; simp)
    rw [hws] at hW
    have HW := Lib.hid hW
    clear hW hws hmem
    obtain ⟨t, ht⟩ : ∃ t, t = mkS p := ⟨_, rfl⟩
    have htp : t.data.toList = p := by rw [ht]; rfl
    have h0 : 0 < t.size := by rw [← len_of, htp]; exact List.length_pos_iff.2 hne
    have hg := get_list t 0 h0
    rw [htp] at hg
    have hb35 := u8_eq_iff t[0] 35 (by omega)
    rw [show (35 : Int).toNat.toUInt8 = (35 : UInt8) from rfl] at hb35
    have HG := Lib.hid hg
    have H35 := Lib.hid hb35
    have HT := Lib.hid ht
    clear hg hb35 ht htp hne
    go_enter Tryz.func59, Tryz.ntmps59
    go_wp2_with fail
    refine (HW.out _).mono ?_
    rintro e w1 ⟨v, rfl, hv, hb1⟩
    rw [tS_len] at hv
    obtain ⟨n, hn⟩ : ∃ n, n = (p :: r).length := ⟨_, rfl⟩
    have hpos : 0 < n := by rw [hn]; simp
    rw [← hn] at hv
    obtain ⟨g, cap, rfl, hg1, hg2⟩ := hv.form hpos
    have hcl : w1.cell? ⟨g, 0, none⟩ = some (.string t) := by rw [hv.cellAt 0 (by omega), HT.out]; rfl
    have hn0 : ((n : Int) == 0) = false := by simp; omega
    clear hv hn
    cases hx : ((t[0].toNat : Int) == 35) with
    | true =>
      have hf : Hid (isCommentL s.data.toList = true) := by
        show _ = _
        rw [H35.out] at hx
        rw [hfin.out, HG.out]; simpa using hx
      go_wp2_with fail
      go_ret
      exact ⟨ret_bool hf.out.symm, hb1⟩
    | false =>
      have hf : Hid (isCommentL s.data.toList = false) := by
        show _ = _
        rw [H35.out] at hx
        rw [hfin.out, HG.out]; simpa using hx
      go_wp2_with fail
      go_ret
      exact ⟨ret_bool hf.out.symm, hb1⟩

set_option maxHeartbeats 1000000 in
theorem i_CountRuleLines (s : ByteArray) (hs : s.size ≤ 4194304) (w : World) :
    Calls Tryz.prog 29 #[.string s] w fun e w' => e = .returned (.int .i64 (countLn s.data.toList : Nat)) ∧ Below w.heap.size w w' := by
  have hS := i_SplitLines s hs
  have hlen := linesL_len s.data.toList
  have hmem := fun p (h : p ∈ linesL s.data.toList) => (linesL_mem h).1
  rw [len_of] at hlen hmem
  have hL : countLn s.data.toList = noneL (linesL s.data.toList) := rfl
  rw [hL]
  generalize linesL s.data.toList = ps at *
  have HS := Lib.hid hS
  have HM := Lib.hid hmem
  clear hS hmem hL
  go_enter Tryz.func29, Tryz.ntmps29
  go_wp2_with fail
  refine (HS.out _).mono ?_
  rintro e w1 ⟨v, rfl, hv, hb1⟩
  rw [tS_len] at hv
  have hrd := Rd.of_own hv
  obtain ⟨n, hn⟩ : ∃ n, n = ps.length := ⟨_, rfl⟩
  rw [← hn] at hrd hlen
  have HN := Lib.hid hn
  have HB := Lib.hid hb1
  clear hv hn hb1
  obtain ⟨_, A, c, rfl, hnc, hcm, hcell⟩ := hrd
  unfold maxLen at hcm
  have HC := Lib.hid hcell
  clear hcell
  go_wp2_with fail
  go_loopw [3, 9] (fun o i wr => ∃ k : Nat, k ≤ n ∧ i = .int .i64 k ∧ o = .int .i64 (noneL (ps.take k) : Nat) ∧ Below w1.heap.size w1 wr) (fun _ i _ => n - (intOf i).toNat)
  case atStart => exact ⟨0, Nat.zero_le _, rfl, by simp [noneL], Below.refl _ _⟩
  case round =>
    obtain ⟨k, hk, rfl, rfl, hbr⟩ := hrel
    have hle := noneL_le (ps.take k)
    rw [List.length_take] at hle
    by_cases hlt : k < n
    · have hkp : k < ps.length := by rw [← HN.out]; exact hlt
      obtain ⟨b, off, rfl, hc⟩ := HC.out (by rw [cS_len, tS_len, ← HN.out]; omega)
      have hcl0 := hc k _ (tS_at hkp)
      have hcl := (hbr.cell (World.block_lt_of_cell? w1 _ hcl0)).trans hcl0
      have hsz := HM.out ps[k] (List.getElem_mem hkp)
      obtain ⟨t, ht⟩ : ∃ t, t = ps[k] := ⟨_, rfl⟩
      have HY := Lib.hid (fun h => noneL_yes hkp h)
      have HZ := Lib.hid (fun h => noneL_no hkp h)
      rw [← ht] at hcl hsz HY HZ
      have HBR := Lib.hid hbr
      clear hc hcl0 hbr ht
      go_wp2_with fail
      refine (i_IsComment (mkS t) (by rw [mkS_size]; omega) _).mono ?_
      rw [mkS_list]
      rintro e w2 ⟨rfl, hb2⟩
      have HB2 := Lib.hid (Below.then_ HBR.out hb2 (Nat.le_refl _))
      clear hb2
      cases hcm : isCommentL t with
      | true =>
        go_wp2_with fail
        go_roundw
        case rel => exact ⟨k + 1, by omega, by go_num, by rw [HY.out hcm], HB2.out⟩
        case measure => simp [intOf]; omega
      | false =>
        go_wp2_with fail
        go_roundw
        case rel => exact ⟨k + 1, by omega, by go_num, by rw [HZ.out hcm]; go_num, HB2.out⟩
        case measure => simp [intOf]; omega
    · obtain rfl : k = n := by omega
      have HF := Lib.hid (show ps.take k = ps from List.take_of_length_le (by rw [← HN.out]; exact Nat.le_refl _))
      have HBR := Lib.hid hbr
      clear hbr
      go_wp2_with fail
      go_ret
      exact ⟨ret_int (by rw [HF.out]), Below.then_ HB.out HBR.out (Nat.le_refl _)⟩

set_option maxHeartbeats 1000000 in
theorem s_SplitLines (s : ByteArray) (hs : s.size ≤ 4194304) (w : World) :
    Calls Tryz.prog 56 #[.string s] w (Made 9 1 (tS (linesL s.data.toList)).length (cS (tS (linesL s.data.toList))) w) := by
  have hS := s_SplitText s 10 (by omega) hs
  rw [show (10 : Int).toNat.toUInt8 = (10 : UInt8) from rfl] at hS
  have hpos := splitL_pos s.data.toList 10
  have hlen := splitL_len s.data.toList 10
  rw [len_of] at hlen
  have hL : linesL s.data.toList = if (splitL s.data.toList 10).getLast? = some [] then (splitL s.data.toList 10).dropLast else splitL s.data.toList 10 := rfl
  generalize splitL s.data.toList 10 = ps at *
  generalize linesL s.data.toList = ls at *
  have HL := Lib.hid hL
  have HS := Lib.hid hS
  clear hL hS
  go_enter Tryz.func56, Tryz.ntmps56
  go_wp2_with fail
  refine (HS.out _).mono ?_
  rintro e w1 ⟨v, rfl, hv, hb1⟩
  rw [tS_len] at hv
  obtain ⟨n, hn⟩ : ∃ n, n = ps.length := ⟨_, rfl⟩
  rw [← hn] at hv hpos hlen
  obtain ⟨g, cap, rfl, hg1, hg2⟩ := hv.form hpos
  have hcm : n ≤ cap ∧ cap ≤ maxLen := by
    obtain ⟨_, A, c, h, h1, h2, _⟩ := Rd.of_own hv
    injection h with _ _ h
    subst h; exact ⟨h1, h2⟩
  obtain ⟨hnc, hcm⟩ := hcm
  unfold maxLen at hcm
  have hlt : n - 1 < ps.length := by omega
  have hcl : w1.cell? ⟨g, n - 1, none⟩ = some (.string (mkS ps[n - 1])) := by rw [hv.cellAt (n - 1) (by omega)]; exact tS_at hlt
  have hlast : ps.getLast? = some ps[n - 1] := by rw [List.getLast?_eq_getElem?, ← hn, List.getElem?_eq_getElem hlt]
  have HV := Lib.hid hv
  have HN := Lib.hid hn
  have HB := Lib.hid hb1
  have HLL := Lib.hid hlast
  clear hv hn hb1 hlast
  by_cases he : ps[n - 1] = []
  · have hq : (mkS ps[n - 1]).toList.isEmpty = true := by rw [mkS_empty, he]; rfl
    have hfin := Lib.hid (show ps.take (n - 1) = ls by rw [HL.out, HLL.out, he, if_pos rfl, List.dropLast_eq_take, ← HN.out])
    clear he
    go_wp2_with fail
    go_ret
    refine ⟨_, rfl, ?_, HB.out⟩
    have h := own_front HV.out (a := n - 1) (by omega)
    rw [Nat.mul_one, ← cS_take] at h
    have e : (tS ps).take (n - 1) = tS ls := by rw [← hfin.out]; simp [tS, List.map_take]
    rw [e] at h
    have e2 : (tS ls).length = n - 1 := by rw [tS_len, ← hfin.out, List.length_take]; omega
    rw [e2]
    exact h
  · have hq : (mkS ps[n - 1]).toList.isEmpty = false := by rw [mkS_empty]; simpa using he
    have hfin := Lib.hid (show ps = ls by rw [HL.out, HLL.out, if_neg (fun e => he (Option.some.inj e))])
    clear he
    go_wp2_with fail
    go_ret
    refine ⟨_, rfl, ?_, HB.out⟩
    have h := HV.out
    rw [hfin.out] at h
    have e2 : (tS ls).length = n := by rw [tS_len, ← hfin.out, ← HN.out]
    rw [e2]
    exact h

set_option maxHeartbeats 1000000 in
theorem s_Words (s : ByteArray) (hs : s.size ≤ 4194304) (w : World) :
    Calls Tryz.prog 31 #[.string s] w (Made 9 1 (tS (wordsL s.data.toList)).length (cS (tS (wordsL s.data.toList))) w) := by
  obtain ⟨i0, hi, hz0, hz1, hz2⟩ := info_parts info_String
  have hS := s_SplitText s 32 (by omega) hs
  rw [show (32 : Int).toNat.toUInt8 = (32 : UInt8) from rfl] at hS
  have hpos := splitL_pos s.data.toList 32
  have hlen := splitL_len s.data.toList 32
  rw [len_of] at hlen
  have hL : wordsL s.data.toList = fullL (splitL s.data.toList 32) := rfl
  generalize splitL s.data.toList 32 = ps at *
  generalize wordsL s.data.toList = ls at *
  subst hL
  have HS := Lib.hid hS
  clear hS
  go_enter Tryz.func31, Tryz.ntmps31
  go_wp2_with fail
  refine (HS.out _).mono ?_
  rintro e w1 ⟨v, rfl, hv, hb1⟩
  rw [tS_len] at hv
  obtain ⟨n, hn⟩ : ∃ n, n = ps.length := ⟨_, rfl⟩
  rw [← hn] at hv hpos hlen
  obtain ⟨g, cap, rfl, hg1, hg2⟩ := hv.form hpos
  have hcm : n ≤ cap ∧ cap ≤ maxLen := by
    obtain ⟨_, A, c, h, h1, h2, _⟩ := Rd.of_own hv
    injection h with _ _ h
    subst h; exact ⟨h1, h2⟩
  obtain ⟨hnc, hcm⟩ := hcm
  unfold maxLen at hcm
  have hg3 : w.heap.size + 1 ≤ g := by simpa using hg1
  have HN := Lib.hid hn
  have hcells : ∀ j (hj : j < ps.length), w1.cell? ⟨g, j, none⟩ = some (.string (mkS ps[j])) := fun j hj => by rw [hv.cellAt j (by rw [← hn] at hj; omega)]; exact tS_at hj
  have HC := Lib.hid hcells
  have hown0 := own_below (World.ownsRow_lit (base := w.heap.size) (e := 9) (size := 1) w #[] 0 (Nat.le_refl _) (Nat.zero_le _) rfl) hb1
  have hb0 : Below w.heap.size w w1 := ((Below.refl _ _).alloc (Nat.le_refl _) _).trans (hb1.mono (by simp))
  have hg2' := hg2
  clear hn hv hcells hb1
  go_wp2_with fail
  go_loopw [3, 5] (fun o i wr => ∃ k : Nat, k ≤ n ∧ i = .int .i64 k ∧ wr.ownsRow w.heap.size 9 1 o (tS (fullL (ps.take k))).length (cS (tS (fullL (ps.take k)))) ∧ Below w.heap.size w wr ∧ o.ownBlock ≠ some g ∧ g < wr.heap.size ∧ (∀ j (hj : j < ps.length), wr.cell? ⟨g, j, none⟩ = some (.string (mkS ps[j]))))
    (fun _ i _ => n - (intOf i).toNat)
  case atStart => exact ⟨0, Nat.zero_le _, rfl, by simpa [fullL, tS, cS] using hown0, hb0, by simp [Value.ownBlock]; omega, hg2, HC.out⟩
  case round =>
    obtain ⟨k, hk, rfl, hownr, hbr, hog, hgw, hcr⟩ := hrel
    obtain ⟨m, hm⟩ : ∃ m, m = (tS (fullL (ps.take k))).length := ⟨_, rfl⟩
    have hmk : m ≤ 4194305 := by
      rw [hm, tS_len]
      have := fullL_len (ps.take k)
      rw [List.length_take] at this
      omega
    rw [← hm] at hownr
    have HM := Lib.hid hm
    have HO := Lib.hid hownr
    have HB := Lib.hid hbr
    have HOG := Lib.hid hog
    have HCR := Lib.hid hcr
    clear hm hownr hbr hog hcr hown0 hb0
    by_cases hlt : k < n
    · have hkp : k < ps.length := by rw [← HN.out]; exact hlt
      have hcl := HCR.out k hkp
      obtain ⟨t, ht⟩ : ∃ t, t = ps[k] := ⟨_, rfl⟩
      rw [← ht] at hcl
      by_cases he : t.isEmpty = true
      · have hq : (mkS t).toList.isEmpty = true := by rw [mkS_empty, he]
        have HF := Lib.hid (fullL_no hkp (by rw [← ht]; exact he))
        clear he ht
        go_wp2_with fail
        go_roundw
        case rel => exact ⟨k + 1, by omega, by go_num, by rw [HF.out, ← HM.out]; exact HO.out, HB.out, HOG.out, hgw, HCR.out⟩
        case measure => simp [intOf]; omega
      · have hq : (mkS t).toList.isEmpty = false := by rw [mkS_empty]; simpa using he
        have HF := Lib.hid (fullL_yes hkp (by rw [← ht]; simpa using he))
        rw [← ht] at HF
        have hlit := Lib.hid (Rd.lit wr (cS [mkS t]) 9 1 rfl (by unfold maxLen; omega))
        clear he ht
        go_wp2_with (at_builtin; refine wpList_append_rd _ rfl (.tmp 20) (.tmp 25) 27 rfl w.heap.size 9 i0 (.string ⟨#[]⟩) 1 16 Tryz.underlying27 hi hz0 hz1 hz2 rfl (by decide) _ m (cS (tS (fullL (ps.take k)))) rfl (HO.out.alloc _) _ 1 (cS [mkS t]) rfl ?c1 (cS_one _) (by unfold maxLen; omega) (by omega) (by have := HB.out.size; simp; omega) ?_)
        case c1 => exact hlit.out
        intro v' w' hown' hgrow' hat'
        have HB' : Hid (Below w.heap.size w w') := own_grown_below (HB.out.alloc HB.out.size _) (HO.out.alloc _) hgrow' (by have := HB.out.size; simp; omega) (Nat.le_refl _)
        have HO' := Lib.hid hown'
        have hgw' : g < w'.heap.size := by have := hgrow'.size; simp at this; omega
        have HOG' : Hid (v'.ownBlock ≠ some g) := by
          rcases hat' with h | h
          · rw [h]; exact HOG.out
          · rw [h]; intro e; simp at e; omega
        have HC' : Hid (∀ j (hj : j < ps.length), w'.cell? ⟨g, j, none⟩ = some (.string (mkS ps[j]))) := fun j hj => by
          rw [← HCR.out j hj, ← World.cell?_alloc_lt wr (.cells (cS [mkS t]).toArray 9) ⟨g, j, none⟩ hgw]
          exact World.cell?_of_block (hgrow'.block g (by simp; omega) (fun e => HOG.out e.symm))
        clear hgrow' hown' hat'
        go_wp2_with fail
        go_roundw
        case rel =>
          refine ⟨k + 1, by omega, by go_num, ?_, HB'.out, HOG'.out, hgw', HC'.out⟩
          have h := HO'.out
          rw [HM.out] at h
          rw [HF.out, tS_append, List.length_append, cS_append]
          exact h
        case measure => simp [intOf]; omega
    · obtain rfl : k = n := by omega
      have HF := Lib.hid (show ps.take k = ps from List.take_of_length_le (by rw [← HN.out]; exact Nat.le_refl _))
      go_wp2_with fail
      go_ret
      refine ⟨_, rfl, ?_, HB.out⟩
      have h := HO.out
      rw [HM.out, HF.out] at h
      exact h

set_option maxHeartbeats 1000000 in
theorem s_IsComment (s : ByteArray) (hs : s.size ≤ 4194304) (w : World) :
    Calls Tryz.prog 57 #[.string s] w fun e w' => e = .returned (.bool (isCommentL s.data.toList)) ∧ Below w.heap.size w w' := by
  have hW := s_Words s hs
  have hmem := fun p (h : p ∈ wordsL s.data.toList) => (wordsL_mem h).2.2
  cases hws : wordsL s.data.toList with
  | nil =>
    have hfin := Lib.hid (isComment_nil hws)
    rw [hws] at hW
    have HW := Lib.hid hW
    clear hW hws hmem
    go_enter Tryz.func57, Tryz.ntmps57
    go_wp2_with fail
    refine (HW.out _).mono ?_
    rintro e w1 ⟨v, rfl, hv, hb1⟩
    obtain ⟨A, c, rfl⟩ : ∃ A c, v = .slice A 0 c := by
      obtain ⟨_, A, c, h, _⟩ := Rd.of_own hv
      exact ⟨A, c, h⟩
    clear hv
    go_wp2_with fail
    go_ret
    exact ⟨ret_bool hfin.out.symm, hb1⟩
  | cons p r =>
    have hfin := Lib.hid (isComment_cons hws)
    have hne := hmem p (by rw [hws]; simp)
    rw [hws] at hW
    have HW := Lib.hid hW
    clear hW hws hmem
    obtain ⟨t, ht⟩ : ∃ t, t = mkS p := ⟨_, rfl⟩
    have htp : t.data.toList = p := by rw [ht]; rfl
    have h0 : 0 < t.size := by rw [← len_of, htp]; exact List.length_pos_iff.2 hne
    have hg := get_list t 0 h0
    rw [htp] at hg
    have hb35 := u8_eq_iff t[0] 35 (by omega)
    rw [show (35 : Int).toNat.toUInt8 = (35 : UInt8) from rfl] at hb35
    have HG := Lib.hid hg
    have H35 := Lib.hid hb35
    have HT := Lib.hid ht
    clear hg hb35 ht htp hne
    go_enter Tryz.func57, Tryz.ntmps57
    go_wp2_with fail
    refine (HW.out _).mono ?_
    rintro e w1 ⟨v, rfl, hv, hb1⟩
    rw [tS_len] at hv
    obtain ⟨n, hn⟩ : ∃ n, n = (p :: r).length := ⟨_, rfl⟩
    have hpos : 0 < n := by rw [hn]; simp
    rw [← hn] at hv
    obtain ⟨g, cap, rfl, hg1, hg2⟩ := hv.form hpos
    have hcl : w1.cell? ⟨g, 0, none⟩ = some (.string t) := by rw [hv.cellAt 0 (by omega), HT.out]; rfl
    have hn0 : ((n : Int) == 0) = false := by simp; omega
    clear hv hn
    cases hx : ((t[0].toNat : Int) == 35) with
    | true =>
      have hf : Hid (isCommentL s.data.toList = true) := by
        show _ = _
        rw [H35.out] at hx
        rw [hfin.out, HG.out]; simpa using hx
      go_wp2_with fail
      go_ret
      exact ⟨ret_bool hf.out.symm, hb1⟩
    | false =>
      have hf : Hid (isCommentL s.data.toList = false) := by
        show _ = _
        rw [H35.out] at hx
        rw [hfin.out, HG.out]; simpa using hx
      go_wp2_with fail
      go_ret
      exact ⟨ret_bool hf.out.symm, hb1⟩

end Go.Proofs.YtkjjgpkegihmhaaGreatDoor

namespace Go.Proofs.YtkjjgpkegihmhaaGreatDoor
open Go.RowKit
set_option linter.unusedVariables false

def addL (l : List RuleD) (s : List UInt8) : Option (List RuleD) := (parseI l s).bind fun r => if l.length < 24 then some (l ++ [r]) else none
def descGo : List RuleD → Nat → List (List UInt8) → List RuleD × Nat
  | l, i, [] => if l = [] then ([], i + 1) else (l, 0)
  | l, i, s :: ss => if isCommentL s = true then descGo l (i + 1) ss else match addL l s with | some l' => descGo l' (i + 1) ss | none => ([], i + 1)
def descP (t : List UInt8) : List RuleD × Nat := descGo [] 0 (linesL t)
def normT (t : List UInt8) : List UInt8 := if (descP t).2 = 0 then descT (descP t).1 else []

theorem partP_name {l : List RuleD} {r r' : RuleD} {s : ByteArray} (h : partP l r s = some r') : r'.name = r.name := by
  unfold partP at h
  split at h
  · split at h
    · injection h with h; subst h; rfl
    · split at h
      · injection h with h; subst h; rfl
      · cases h
  · cases h
theorem partsP_name {l : List RuleD} {ws : List ByteArray} : ∀ {r r' : RuleD}, partsP l r ws = some r' → r'.name = r.name := by
  induction ws with
  | nil => intro r r' h; injection h with h; subst h; rfl
  | cons s ws ih =>
    intro r r' h
    simp only [partsP] at h
    obtain ⟨x, hx, h⟩ := Option.bind_eq_some_iff.1 h
    rw [ih h, partP_name hx]
theorem kidsP_name {l : List RuleD} {ws : List ByteArray} {r r' : RuleD} (h : kidsP l r ws = some r') : r'.name = r.name := by
  unfold kidsP at h
  obtain ⟨x, hx, rfl⟩ := Option.map_eq_some_iff.1 h
  rfl
theorem fieldsP_name {l : List RuleD} {ws : List ByteArray} {r r' : RuleD} (h : fieldsP l r ws = some r') : r'.name = r.name := by
  unfold fieldsP at h
  split at h
  · cases ws with
    | nil => cases h
    | cons x t =>
      simp only [numP] at h
      split at h
      · injection h with h; subst h; rfl
      · cases h
  · split at h
    · cases ws with
      | nil => cases h
      | cons x t =>
        simp only [hexP] at h
        split at h
        · injection h with h; subst h; rfl
        · cases h
    · split at h
      · exact kidsP_name h
      · split at h
        · exact partsP_name h
        · split at h
          · unfold choiceP at h
            split at h
            · cases h
            · obtain ⟨x, hx, h⟩ := Option.bind_eq_some_iff.1 h
              rw [partsP_name h, kidsP_name hx]
          · cases h
theorem parse_sound {l : List RuleD} {s : List UInt8} {r : RuleD} (h : parseI l s = some r) : validR (l ++ [r]) (l.length : Int) = true ∧ r.name = mkS ((wordsL s).getD 0 []) := by
  unfold parseI at h
  split at h
  · cases h
  · rename_i h2
    obtain ⟨q, hq, hl⟩ := Option.bind_eq_some_iff.1 h
    unfold lineOk at hl
    split at hl
    · rename_i hl'
      injection hl with hl
      subst hl
      have hne : wordsL s ≠ [] := by intro e; rw [e] at h2; simp at h2
      refine ⟨(line_of hne (fun p hp => (wordsL_mem hp).2.2) hl').1, ?_⟩
      rw [fieldsP_name hq]; rfl
    · cases hl
theorem addL_some {l l' : List RuleD} {s : List UInt8} (h : addL l s = some l') : ∃ r, parseI l s = some r ∧ l.length < 24 ∧ l' = l ++ [r] := by
  unfold addL at h
  obtain ⟨r, hr, h⟩ := Option.bind_eq_some_iff.1 h
  split at h
  · rename_i hlt
    injection h with h
    exact ⟨r, hr, hlt, h.symm⟩
  · cases h
theorem addL_good {l l' : List RuleD} {s : List UInt8} (hg : rulesGood l = true) (h : addL l s = some l') : rulesGood l' = true ∧ l'.length ≤ 24 := by
  obtain ⟨r, hr, hlt, rfl⟩ := addL_some h
  exact ⟨rulesGood_push hg (parse_sound hr).1, by simp; omega⟩
theorem descGo_good : ∀ (ss : List (List UInt8)) (l : List RuleD) (i : Nat), rulesGood l = true → l.length ≤ 24 → (descGo l i ss).2 = 0 → rulesGood (descGo l i ss).1 = true ∧ 1 ≤ (descGo l i ss).1.length ∧ (descGo l i ss).1.length ≤ 24 := by
  intro ss
  induction ss with
  | nil =>
    intro l i hg hl h0
    unfold descGo at h0 ⊢
    by_cases hn : l = []
    · rw [if_pos hn] at h0; exact absurd h0 (by simp)
    · rw [if_neg hn]
      exact ⟨hg, by have := List.length_pos_iff.2 hn; show 1 ≤ l.length; omega, hl⟩
  | cons s ss ih =>
    intro l i hg hl h0
    unfold descGo at h0 ⊢
    by_cases hc : isCommentL s = true
    · rw [if_pos hc] at h0 ⊢
      exact ih l (i + 1) hg hl h0
    · rw [if_neg hc] at h0 ⊢
      cases ha : addL l s with
      | none => rw [ha] at h0; exact absurd h0 (by simp)
      | some l' =>
        rw [ha] at h0
        obtain ⟨h1, h2⟩ := addL_good hg ha
        exact ih l' (i + 1) h1 h2 h0
theorem rulesGood_nil : rulesGood [] = true := rulesGood_all fun j h => absurd h (by simp)
theorem validD_of {l : List RuleD} (h : rulesGood l = true) (h1 : 1 ≤ l.length) (h2 : l.length ≤ 24) : validD l = true := by
  unfold validD
  rw [h, Bool.and_true]
  exact inR_iff.2 ⟨by omega, by omega⟩
theorem validD_good {l : List RuleD} (h : validD l = true) : rulesGood l = true ∧ 1 ≤ l.length ∧ l.length ≤ 24 := by
  unfold validD at h
  rw [Bool.and_eq_true, inR_iff] at h
  exact ⟨h.2, by omega, by omega⟩
theorem descP_valid {t : List UInt8} (h : (descP t).2 = 0) : validD (descP t).1 = true := by
  obtain ⟨h1, h2, h3⟩ := descGo_good (linesL t) [] 0 rulesGood_nil (by simp) h
  exact validD_of h1 h2 h3

/-! The lines of the text. -/
theorem splitL_text {c : UInt8} : ∀ (ls : List (List UInt8)), (∀ p ∈ ls, c ∉ p) → splitL (ls.flatMap fun p => p ++ [c]) c = ls ++ [[]] := by
  intro ls
  induction ls with
  | nil => intro _; rfl
  | cons x t ih =>
    intro h
    rw [List.flatMap_cons, List.append_assoc]
    show splitL (x ++ (c :: t.flatMap fun p => p ++ [c])) c = _
    unfold splitL
    rw [splitA_app c _ x [] (h x (by simp))]
    have := ih fun p hp => h p (by simp [hp])
    unfold splitL at this
    rw [this]; rfl
theorem linesL_text {ls : List (List UInt8)} (h : ∀ p ∈ ls, (10 : UInt8) ∉ p) : linesL (ls.flatMap fun p => p ++ [10]) = ls := by
  unfold linesL
  rw [splitL_text ls h]
  simp
def allLines (l : List RuleD) : List (List UInt8) := (List.range l.length).map fun j : Nat => lineL l (j : Int)
theorem linesT_all (l : List RuleD) : linesT l l.length = (allLines l).flatMap fun p => p ++ [10] := by
  unfold linesT allLines
  rw [List.flatMap_map]
theorem join_mem {ws : List (List UInt8)} {c : UInt8} : ∀ x ∈ Lib.join ws [c], x = c ∨ ∃ p ∈ ws, x ∈ p := by
  induction ws with
  | nil => intro x hx; simp [Lib.join_nil] at hx
  | cons a t ih =>
    intro x hx
    cases t with
    | nil => rw [Lib.join_one] at hx; exact .inr ⟨a, by simp, hx⟩
    | cons b t =>
      rw [join_cons2, List.mem_append, List.mem_append] at hx
      rcases hx with (hx | hx) | hx
      · exact .inr ⟨a, by simp, hx⟩
      · exact .inl (by simpa using hx)
      · rcases ih x hx with e | ⟨p, hp, hxp⟩
        · exact .inl e
        · exact .inr ⟨p, by simp at hp ⊢; exact .inr hp, hxp⟩
theorem line_10 {l : List RuleD} (h : rulesGood l = true) {i : Nat} (hi : i < l.length) : (10 : UInt8) ∉ lineL l (i : Int) := by
  rw [lineL_good h hi]
  intro hm
  rcases join_mem _ hm with e | ⟨p, hp, hx⟩
  · exact absurd e (by decide)
  · exact (wordsR_plain h hi p hp).not10 hx
theorem line_comment {l : List RuleD} (h : rulesGood l = true) {i : Nat} (hi : i < l.length) {s : List UInt8} (hs : wordsL s = wordsL (lineL l (i : Int))) : isCommentL s = false := by
  rw [line_words h hi] at hs
  unfold wordsR at hs
  rw [isComment_cons hs]
  simp only [decide_eq_false_iff_not]
  intro e
  exact (name_mem (rule_name h hi) _ (List.mem_of_getElem? e)).2.2.1 rfl
theorem allLines_10 {l : List RuleD} (h : rulesGood l = true) : ∀ p ∈ allLines l, (10 : UInt8) ∉ p := by
  intro p hp
  obtain ⟨j, hj, rfl⟩ := List.mem_map.1 hp
  exact line_10 h (List.mem_range.1 hj)
theorem descT_lines {l : List RuleD} (h : validD l = true) : linesL (descT l) = allLines l := by
  unfold descT
  rw [if_pos h, linesT_all]
  exact linesL_text (allLines_10 (validD_good h).1)
theorem allLines_len (l : List RuleD) : (allLines l).length = l.length := by simp [allLines]
theorem allLines_drop {l : List RuleD} {i : Nat} (hi : i < l.length) : (allLines l).drop i = lineL l (i : Int) :: (allLines l).drop (i + 1) := by
  rw [List.drop_eq_getElem_cons (by rw [allLines_len]; exact hi)]
  congr 1
  simp [allLines]
theorem add_line {l : List RuleD} (h : rulesGood l = true) {i : Nat} (hi : i < l.length) (h24 : l.length ≤ 24) {s : List UInt8} (hs : wordsL s = wordsL (lineL l (i : Int))) : addL (l.take i) s = some (l.take (i + 1)) := by
  unfold addL
  rw [parse_line h hi hs, Option.bind_some, if_pos (by rw [List.length_take]; omega), ruleAt_eq hi, List.take_succ_eq_append_getElem hi]
theorem desc_go_back {l : List RuleD} (h : validD l = true) : ∀ (n i j : Nat), i + n = l.length → descGo (l.take i) j ((allLines l).drop i) = (l, 0) := by
  obtain ⟨hg, h1, h24⟩ := validD_good h
  intro n
  induction n with
  | zero =>
    intro i j hi
    rw [List.drop_of_length_le (by rw [allLines_len]; omega), List.take_of_length_le (by omega)]
    unfold descGo
    rw [if_neg (by rintro rfl; simp at h1)]
  | succ n ih =>
    intro i j hi
    rw [allLines_drop (by omega)]
    unfold descGo
    rw [line_comment hg (by omega) rfl, if_neg (by simp), add_line hg (by omega) h24 rfl]
    exact ih (i + 1) (j + 1) (by omega)
theorem desc_back {l : List RuleD} (h : validD l = true) : descP (descT l) = (l, 0) := by
  unfold descP
  rw [descT_lines h]
  have := desc_go_back h l.length 0 0 (by omega)
  simpa using this
theorem norm_back {l : List RuleD} (h : validD l = true) : normT (descT l) = descT l := by
  unfold normT
  rw [desc_back h, if_pos rfl]
theorem norm_none : normT [] = [] := by
  unfold normT
  rw [if_neg]
  intro h
  have := descP_valid h
  have e : descP [] = ([], 1) := by
    unfold descP linesL
    rw [splitL_nil]
    rfl
  rw [e] at h
  cases h
theorem norm_norm (t : List UInt8) : normT (normT t) = normT t := by
  by_cases h : (descP t).2 = 0
  · have e : normT t = descT (descP t).1 := by unfold normT; rw [if_pos h]
    rw [e]
    exact norm_back (descP_valid h)
  · have e : normT t = [] := by unfold normT; rw [if_neg h]
    rw [e]
    exact norm_none
theorem descT_ne {l : List RuleD} (h : validD l = true) : descT l ≠ [] := by
  intro e
  have h1 := descT_lines h
  rw [e] at h1
  have h2 := congrArg List.length h1
  rw [allLines_len] at h2
  have := (validD_good h).2.1
  have h3 : (linesL []).length = 0 := by rfl
  omega
theorem norm_ne (t : List UInt8) : (descP t).2 = 0 ↔ normT t ≠ [] := by
  constructor
  · intro h
    unfold normT
    rw [if_pos h]
    exact descT_ne (descP_valid h)
  · intro h
    by_cases h0 : (descP t).2 = 0
    · exact h0
    · exact absurd (by unfold normT; rw [if_neg h0]) h
theorem count_back {l : List RuleD} (h : validD l = true) : countLn (descT l) = l.length := by
  unfold countLn
  rw [descT_lines h, List.filter_eq_self.2, allLines_len]
  intro p hp
  obtain ⟨j, hj, rfl⟩ := List.mem_map.1 hp
  rw [line_comment (validD_good h).1 (List.mem_range.1 hj) rfl]
  rfl

end Go.Proofs.YtkjjgpkegihmhaaGreatDoor

namespace Go.Proofs.YtkjjgpkegihmhaaGreatDoor
open Go.RowKit
set_option linter.unusedVariables false

def MadeD (o : Option (List RuleD)) (l : List RuleD) (w : World) (e : Ending) (w' : World) : Prop :=
  ∃ v, e = .returned (.tuple #[.agg #[v], .bool o.isSome]) ∧ OwnRules w' w.heap.size v (o.getD l) ∧ Below w.heap.size w w'
theorem MadeD.no {o : Option (List RuleD)} {l : List RuleD} {w w' : World} {v : Value} (ho : o = none) (h : OwnRules w' w.heap.size v l) (hb : Below w.heap.size w w') : MadeD o l w (.returned (.tuple #[.agg #[v], .bool false])) w' := by
  subst ho; exact ⟨v, rfl, h, hb⟩
theorem MadeD.yes {o : Option (List RuleD)} {l l' : List RuleD} {w w' : World} {v : Value} (ho : o = some l') (h : OwnRules w' w.heap.size v l') (hb : Below w.heap.size w w') : MadeD o l w (.returned (.tuple #[.agg #[v], .bool true])) w' := by
  subst ho; exact ⟨v, rfl, h, hb⟩
theorem OwnRules.slice {w : World} {lo : Nat} {v : Value} {l : List RuleD} (h : OwnRules w lo v l) : ∃ A c, v = .slice A l.length c := by
  obtain ⟨css, _, hown, _, _⟩ := h
  obtain ⟨_, A, c, e, _⟩ := Rd.of_own hown
  exact ⟨A, c, e⟩
theorem Rows4.slices {w : World} {lo : Nat} {r : RuleD} {vb vn vt vk : Value} (h : Rows4 w lo r vb vn vt vk) :
    ∃ Ab cb An cn At ct Ak ck, vb = .slice Ab r.bytes.length cb ∧ vn = .slice An r.names.length cn ∧ vt = .slice At r.tags.length ct ∧ vk = .slice Ak r.kids.length ck := by
  obtain ⟨_, Ab, cb, e1, _, _, _⟩ := Rd.of_own h.b
  obtain ⟨_, An, cn, e2, _, _, _⟩ := Rd.of_own h.n
  obtain ⟨_, At, ct, e3, _, _, _⟩ := Rd.of_own h.t
  obtain ⟨_, Ak, ck, e4, _, _, _⟩ := Rd.of_own h.k
  exact ⟨Ab, cb, An, cn, At, ct, Ak, ck, e1, e2, e3, e4⟩

end Go.Proofs.YtkjjgpkegihmhaaGreatDoor

namespace Go.Proofs.YtkjjgpkegihmhaaGreatDoor
open Go.RowKit
set_option linter.unusedVariables false

def MadeL (F : List RuleD × Nat) (w : World) (e : Ending) (w' : World) : Prop :=
  ∃ v, e = .returned (.tuple #[.agg #[v], .int .i64 (F.2 : Int)]) ∧ OwnRules w' w.heap.size v F.1 ∧ Below w.heap.size w w'
theorem MadeL.mk_ {F : List RuleD × Nat} {l : List RuleD} {k : Nat} {i : Int} {w w' : World} {v : Value} (hF : F = (l, k)) (hi : i = (k : Int)) (h : OwnRules w' w.heap.size v l) (hb : Below w.heap.size w w') : MadeL F w (.returned (.tuple #[.agg #[v], .int .i64 i])) w' := by
  subst hF; subst hi; exact ⟨v, rfl, h, hb⟩
structure DSt (w2 : World) (lo G : Nat) (F : List RuleD × Nat) (ps : List (List UInt8)) (q : Nat) (cur : List RuleD) (wr : World) : Prop where
  eq : F = descGo cur q (ps.drop q)
  good : rulesGood cur = true
  le : cur.length ≤ 24
  st : ∃ A c, Box wr G 35 #[.slice A cur.length c] ∧ OwnRules wr lo (.slice A cur.length c) cur
  gb : w2.grownBy wr (some G)
section
variable {w2 w w' wr : World} {lo G q : Nat} {F : List RuleD × Nat} {ps : List (List UInt8)} {cur : List RuleD} {s : List UInt8}
theorem grown_below {w0 : World} {row : Option Nat} (h : w0.grownBy w row) (hb : Below w.heap.size w w') : w0.grownBy w' row :=
  ⟨hb.os.trans h.os, hb.tape.trans h.tape, hb.output.trans h.output, Nat.le_trans h.size hb.size, fun i hi hne => (hb.block i (Nat.lt_of_lt_of_le hi h.size)).trans (h.block i hi hne)⟩
theorem grown_set1 {w0 : World} {k : Nat} (h : w0.grownBy w (some G)) (u : Value) : w0.grownBy (w.setCell ⟨G, k, none⟩ u) (some G) :=
  ⟨h.os, h.tape, h.output, by simpa [World.setCell] using h.size, fun i hi hne => (heap_setCell_other w ⟨G, k, none⟩ i u (fun e => hne (by rw [e]))).trans (h.block i hi hne)⟩
theorem DSt.skip (h : DSt w2 lo G F (ps) q cur wr) (hd : ps.drop q = s :: ps.drop (q + 1)) (hc : isCommentL s = true) (hb : Below wr.heap.size wr w') : DSt w2 lo G F ps (q + 1) cur w' := by
  obtain ⟨A, c, hx, ho⟩ := h.st
  refine ⟨?_, h.good, h.le, ⟨A, c, hx.below hb, ho.below hb⟩, grown_below h.gb hb⟩
  rw [h.eq, hd, descGo, if_pos hc]
theorem DSt.bad (h : DSt w2 lo G F ps q cur wr) (hd : ps.drop q = s :: ps.drop (q + 1)) (hc : isCommentL s = false) (ha : addL cur s = none) : F = ([], q + 1) := by
  rw [h.eq, hd, descGo, if_neg (by rw [hc]; simp), ha]
theorem DSt.more (h : DSt w2 lo G F ps q cur wr) (hd : ps.drop q = s :: ps.drop (q + 1)) (hc : isCommentL s = false) {l' : List RuleD} (ha : addL cur s = some l') : F = descGo l' (q + 1) (ps.drop (q + 1)) ∧ rulesGood l' = true ∧ l'.length ≤ 24 := by
  refine ⟨?_, addL_good h.good ha⟩
  rw [h.eq, hd, descGo, if_neg (by rw [hc]; simp), ha]
theorem DSt.last (h : DSt w2 lo G F ps q cur wr) (hq : q = ps.length) : F = if cur = [] then ([], q + 1) else (cur, 0) := by
  rw [h.eq, hq, List.drop_length, descGo]
end

end Go.Proofs.YtkjjgpkegihmhaaGreatDoor
