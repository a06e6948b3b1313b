/-
  SplitLines, Words, IsComment, CountRuleLines, by both texts.
-/
import Derived.Test.YtfdjamobfhoeiaaSplit
import Derived.Laws.OwnMore
namespace Go.Proofs.Ytfdjamobfhoeiaa
open Go.RowKit

theorem own_front {w : World} {base : Nat} {e : TypeId} {size n g cap : Nat} {xs : List Value} (h : w.ownsRow base e size (.slice (some ⟨g, 0, none⟩) n cap) n xs) {a : Nat} (ha : a ≤ n) :
    w.ownsRow base e size (.slice (some ⟨g, 0, none⟩) a cap) a (xs.take (a * size)) := by
  rcases h.2 with ⟨h1, _⟩ | ⟨g', cap', cur, hv, hb, hg, hnc, hcm, hcs, ht⟩
  · cases h1
  · injection hv with h1 _ h2
    injection h1 with h1
    injection h1 with h1
    subst h1; subst h2
    have hle : a * size ≤ n * size := Nat.mul_le_mul_right _ ha
    refine ⟨by rw [List.length_take, h.1]; omega, .inr ⟨g, cap, cur, rfl, hb, hg, by omega, hcm, hcs, ?_⟩⟩
    rw [← ht, List.take_take, Nat.min_eq_left hle]
theorem Made.lists {E : TypeId} {a b : List (List UInt8)} {w : World} (h : a = b) {e : Ending} {w' : World} (hm : Made E 1 (tS a).length (cS (tS a)) w e w') : Made E 1 (tS b).length (cS (tS b)) w e w' := by
  subst h; exact hm

theorem mkS_empty {p : List UInt8} : (mkS p).toList.isEmpty = p.isEmpty := by rw [Lib.toList_data, mkS_list]

/-- The words among the first parts. -/
def fullL (ps : List (List UInt8)) : List (List UInt8) := ps.filter fun p => !p.isEmpty
theorem fullL_len (ps : List (List UInt8)) : (fullL ps).length ≤ ps.length := List.length_filter_le _ _
theorem fullL_yes {ps : List (List UInt8)} {k : Nat} (h : k < ps.length) (he : ps[k].isEmpty = false) : fullL (ps.take (k + 1)) = fullL (ps.take k) ++ [ps[k]] := by
  unfold fullL; rw [List.take_succ_eq_append_getElem h, List.filter_append]; simp [he]
theorem fullL_no {ps : List (List UInt8)} {k : Nat} (h : k < ps.length) (he : ps[k].isEmpty = true) : fullL (ps.take (k + 1)) = fullL (ps.take k) := by
  unfold fullL; rw [List.take_succ_eq_append_getElem h, List.filter_append]; simpa using he

/-- The lines among the first that are no comments. -/
def noneL (ps : List (List UInt8)) : Nat := (ps.filter fun p => !isCommentL p).length
theorem noneL_yes {ps : List (List UInt8)} {k : Nat} (h : k < ps.length) (he : isCommentL ps[k] = true) : noneL (ps.take (k + 1)) = noneL (ps.take k) := by
  unfold noneL; rw [List.take_succ_eq_append_getElem h, List.filter_append]; simp [he]
theorem noneL_no {ps : List (List UInt8)} {k : Nat} (h : k < ps.length) (he : isCommentL ps[k] = false) : noneL (ps.take (k + 1)) = noneL (ps.take k) + 1 := by
  unfold noneL; rw [List.take_succ_eq_append_getElem h, List.filter_append]; simp [he]
theorem noneL_le (ps : List (List UInt8)) : noneL ps ≤ ps.length := List.length_filter_le _ _

theorem isComment_cons {l p : List UInt8} {r : List (List UInt8)} (h : wordsL l = p :: r) : isCommentL l = decide (p[0]? = some 35) := by unfold isCommentL; rw [h]
theorem isComment_nil {l : List UInt8} (h : wordsL l = []) : isCommentL l = true := by unfold isCommentL; rw [h]

set_option maxHeartbeats 1000000 in
theorem i_SplitLines (s : ByteArray) (hs : s.size ≤ 4194304) (w : World) :
    Calls Try.prog 18 #[.string s] w (Made 9 1 (tS (linesL s.data.toList)).length (cS (tS (linesL s.data.toList))) w) := by
  have hS := i_SplitText s 10 (by omega) hs
  rw [show (10 : Int).toNat.toUInt8 = (10 : UInt8) from rfl] at hS
  have hpos := splitL_pos s.data.toList 10
  have hlen := splitL_len s.data.toList 10
  rw [len_of] at hlen
  have hL : linesL s.data.toList = if (splitL s.data.toList 10).getLast? = some [] then (splitL s.data.toList 10).dropLast else splitL s.data.toList 10 := rfl
  generalize splitL s.data.toList 10 = ps at *
  generalize linesL s.data.toList = ls at *
  have HL := Lib.hid hL
  have HS := Lib.hid hS
  clear hL hS
  go_enter Try.func18, Try.ntmps18
  go_wp2_with fail
  refine (HS.out _).mono ?_
  rintro e w1 ⟨v, rfl, hv, hb1⟩
  rw [tS_len] at hv
  obtain ⟨n, hn⟩ : ∃ n, n = ps.length := ⟨_, rfl⟩
  rw [← hn] at hv hpos hlen
  obtain ⟨g, cap, rfl, hg1, hg2⟩ := hv.form hpos
  have hcm : n ≤ cap ∧ cap ≤ maxLen := by
    obtain ⟨_, A, c, h, h1, h2, _⟩ := Rd.of_own hv
    injection h with _ _ h
    subst h; exact ⟨h1, h2⟩
  obtain ⟨hnc, hcm⟩ := hcm
  unfold maxLen at hcm
  have hlt : n - 1 < ps.length := by omega
  have hcl : w1.cell? ⟨g, n - 1, none⟩ = some (.string (mkS ps[n - 1])) := by rw [hv.cellAt (n - 1) (by omega)]; exact tS_at hlt
  have hlast : ps.getLast? = some ps[n - 1] := by rw [List.getLast?_eq_getElem?, ← hn, List.getElem?_eq_getElem hlt]
  have HV := Lib.hid hv
  have HN := Lib.hid hn
  have HB := Lib.hid hb1
  have HLL := Lib.hid hlast
  clear hv hn hb1 hlast
  by_cases he : ps[n - 1] = []
  · have hq : (mkS ps[n - 1]).toList.isEmpty = true := by rw [mkS_empty, he]; rfl
    have hfin := Lib.hid (show ps.take (n - 1) = ls by rw [HL.out, HLL.out, he, if_pos rfl, List.dropLast_eq_take, ← HN.out])
    clear he
    go_wp2_with fail
    go_ret
    refine ⟨_, rfl, ?_, HB.out⟩
    have h := own_front HV.out (a := n - 1) (by omega)
    rw [Nat.mul_one, ← cS_take] at h
    have e : (tS ps).take (n - 1) = tS ls := by rw [← hfin.out]; simp [tS, List.map_take]
    rw [e] at h
    have e2 : (tS ls).length = n - 1 := by rw [tS_len, ← hfin.out, List.length_take]; omega
    rw [e2]
    exact h
  · have hq : (mkS ps[n - 1]).toList.isEmpty = false := by rw [mkS_empty]; simpa using he
    have hfin := Lib.hid (show ps = ls by rw [HL.out, HLL.out, if_neg (fun e => he (Option.some.inj e))])
    clear he
    go_wp2_with fail
    go_ret
    refine ⟨_, rfl, ?_, HB.out⟩
    have h := HV.out
    rw [hfin.out] at h
    have e2 : (tS ls).length = n := by rw [tS_len, ← hfin.out, ← HN.out]
    rw [e2]
    exact h

set_option maxHeartbeats 1000000 in
theorem i_Words (s : ByteArray) (hs : s.size ≤ 4194304) (w : World) :
    Calls Try.prog 20 #[.string s] w (Made 9 1 (tS (wordsL s.data.toList)).length (cS (tS (wordsL s.data.toList))) w) := by
  obtain ⟨i0, hi, hz0, hz1, hz2⟩ := info_parts info_String
  have hS := i_SplitText s 32 (by omega) hs
  rw [show (32 : Int).toNat.toUInt8 = (32 : UInt8) from rfl] at hS
  have hpos := splitL_pos s.data.toList 32
  have hlen := splitL_len s.data.toList 32
  rw [len_of] at hlen
  have hL : wordsL s.data.toList = fullL (splitL s.data.toList 32) := rfl
  generalize splitL s.data.toList 32 = ps at *
  generalize wordsL s.data.toList = ls at *
  subst hL
  have HS := Lib.hid hS
  clear hS
  go_enter Try.func20, Try.ntmps20
  go_wp2_with fail
  refine (HS.out _).mono ?_
  rintro e w1 ⟨v, rfl, hv, hb1⟩
  rw [tS_len] at hv
  obtain ⟨n, hn⟩ : ∃ n, n = ps.length := ⟨_, rfl⟩
  rw [← hn] at hv hpos hlen
  obtain ⟨g, cap, rfl, hg1, hg2⟩ := hv.form hpos
  have hcm : n ≤ cap ∧ cap ≤ maxLen := by
    obtain ⟨_, A, c, h, h1, h2, _⟩ := Rd.of_own hv
    injection h with _ _ h
    subst h; exact ⟨h1, h2⟩
  obtain ⟨hnc, hcm⟩ := hcm
  unfold maxLen at hcm
  have hg3 : w.heap.size + 1 ≤ g := by simpa using hg1
  have HN := Lib.hid hn
  have hcells : ∀ j (hj : j < ps.length), w1.cell? ⟨g, j, none⟩ = some (.string (mkS ps[j])) := fun j hj => by rw [hv.cellAt j (by rw [← hn] at hj; omega)]; exact tS_at hj
  have HC := Lib.hid hcells
  have hown0 := own_below (World.ownsRow_lit (base := w.heap.size) (e := 9) (size := 1) w #[] 0 (Nat.le_refl _) (Nat.zero_le _) rfl) hb1
  have hb0 : Below w.heap.size w w1 := ((Below.refl _ _).alloc (Nat.le_refl _) _).trans (hb1.mono (by simp))
  have hg2' := hg2
  clear hn hv hcells hb1
  go_wp2_with fail
  go_loopw [3, 10] (fun o i wr => ∃ k : Nat, k ≤ n ∧ i = .int .i64 k ∧ wr.ownsRow w.heap.size 9 1 o (tS (fullL (ps.take k))).length (cS (tS (fullL (ps.take k)))) ∧ Below w.heap.size w wr ∧ o.ownBlock ≠ some g ∧ g < wr.heap.size ∧ (∀ j (hj : j < ps.length), wr.cell? ⟨g, j, none⟩ = some (.string (mkS ps[j]))))
    (fun _ i _ => n - (intOf i).toNat)
  case atStart => exact ⟨0, Nat.zero_le _, rfl, by simpa [fullL, tS, cS] using hown0, hb0, by simp [Value.ownBlock]; omega, hg2, HC.out⟩
  case round =>
    obtain ⟨k, hk, rfl, hownr, hbr, hog, hgw, hcr⟩ := hrel
    obtain ⟨m, hm⟩ : ∃ m, m = (tS (fullL (ps.take k))).length := ⟨_, rfl⟩
    have hmk : m ≤ 4194305 := by
      rw [hm, tS_len]
      have := fullL_len (ps.take k)
      rw [List.length_take] at this
      omega
    rw [← hm] at hownr
    have HM := Lib.hid hm
    have HO := Lib.hid hownr
    have HB := Lib.hid hbr
    have HOG := Lib.hid hog
    have HCR := Lib.hid hcr
    clear hm hownr hbr hog hcr hown0 hb0
    by_cases hlt : k < n
    · have hkp : k < ps.length := by rw [← HN.out]; exact hlt
      have hcl := HCR.out k hkp
      obtain ⟨t, ht⟩ : ∃ t, t = ps[k] := ⟨_, rfl⟩
      rw [← ht] at hcl
      by_cases he : t.isEmpty = true
      · have hq : (mkS t).toList.isEmpty = true := by rw [mkS_empty, he]
        have HF := Lib.hid (fullL_no hkp (by rw [← ht]; exact he))
        clear he ht
        go_wp2_with fail
        go_roundw
        case rel => exact ⟨k + 1, by omega, by go_num, by rw [HF.out, ← HM.out]; exact HO.out, HB.out, HOG.out, hgw, HCR.out⟩
        case measure => simp [intOf]; omega
      · have hq : (mkS t).toList.isEmpty = false := by rw [mkS_empty]; simpa using he
        have HF := Lib.hid (fullL_yes hkp (by rw [← ht]; simpa using he))
        rw [← ht] at HF
        have hlit := Lib.hid (Rd.lit wr (cS [mkS t]) 9 1 rfl (by unfold maxLen; omega))
        clear he ht
        go_wp2_with (at_builtin; refine wpList_append_rd _ rfl (.tmp 16) (.tmp 18) 23 rfl w.heap.size 9 i0 (.string ⟨#[]⟩) 1 16 Try.underlying23 hi hz0 hz1 hz2 rfl (by decide) _ m (cS (tS (fullL (ps.take k)))) rfl (HO.out.alloc _) _ 1 (cS [mkS t]) rfl ?c1 (cS_one _) (by unfold maxLen; omega) (by omega) (by have := HB.out.size; simp; omega) ?_)
        case c1 => exact hlit.out
        intro v' w' hown' hgrow' hat'
        have HB' : Hid (Below w.heap.size w w') := own_grown_below (HB.out.alloc HB.out.size _) (HO.out.alloc _) hgrow' (by have := HB.out.size; simp; omega) (Nat.le_refl _)
        have HO' := Lib.hid hown'
        have hgw' : g < w'.heap.size := by have := hgrow'.size; simp at this; omega
        have HOG' : Hid (v'.ownBlock ≠ some g) := by
          rcases hat' with h | h
          · rw [h]; exact HOG.out
          · rw [h]; intro e; simp at e; omega
        have HC' : Hid (∀ j (hj : j < ps.length), w'.cell? ⟨g, j, none⟩ = some (.string (mkS ps[j]))) := fun j hj => by
          rw [← HCR.out j hj, ← World.cell?_alloc_lt wr (.cells (cS [mkS t]).toArray 9) ⟨g, j, none⟩ hgw]
          exact World.cell?_of_block (hgrow'.block g (by simp; omega) (fun e => HOG.out e.symm))
        clear hgrow' hown' hat'
        go_wp2_with fail
        go_roundw
        case rel =>
          refine ⟨k + 1, by omega, by go_num, ?_, HB'.out, HOG'.out, hgw', HC'.out⟩
          have h := HO'.out
          rw [HM.out] at h
          rw [HF.out, tS_append, List.length_append, cS_append]
          exact h
        case measure => simp [intOf]; omega
    · obtain rfl : k = n := by omega
      have HF := Lib.hid (show ps.take k = ps from List.take_of_length_le (by rw [← HN.out]; exact Nat.le_refl _))
      go_wp2_with fail
      go_ret
      refine ⟨_, rfl, ?_, HB.out⟩
      have h := HO.out
      rw [HM.out, HF.out] at h
      exact h

set_option maxHeartbeats 1000000 in
theorem i_IsComment (s : ByteArray) (hs : s.size ≤ 4194304) (w : World) :
    Calls Try.prog 11 #[.string s] w fun e w' => e = .returned (.bool (isCommentL s.data.toList)) ∧ Below w.heap.size w w' := by
  have hW := i_Words s hs
  have hmem := fun p (h : p ∈ wordsL s.data.toList) => (wordsL_mem h).2.2
  cases hws : wordsL s.data.toList with
  | nil =>
    have hfin := Lib.hid (isComment_nil hws)
    rw [hws] at hW
    have HW := Lib.hid hW
    clear hW hws hmem
    go_enter Try.func11, Try.ntmps11
    go_wp2_with fail
    refine (HW.out _).mono ?_
    rintro e w1 ⟨v, rfl, hv, hb1⟩
    obtain ⟨A, c, rfl⟩ : ∃ A c, v = .slice A 0 c := by
      obtain ⟨_, A, c, h, _⟩ := Rd.of_own hv
      exact ⟨A, c, h⟩
    clear hv
    go_wp2_with fail
    go_ret
    exact ⟨ret_bool hfin.out.symm, hb1⟩
  | cons p r =>
    have hfin := Lib.hid (isComment_cons hws)
    have hne := hmem p (by rw [hws]; simp)
    rw [hws] at hW
    have HW := Lib.hid hW
    clear hW hws hmem
    obtain ⟨t, ht⟩ : ∃ t, t = mkS p := ⟨_, rfl⟩
    have htp : t.data.toList = p := by rw [ht]; rfl
    have h0 : 0 < t.size := by rw [← len_of, htp]; exact List.length_pos_iff.2 hne
    have hg := get_list t 0 h0
    rw [htp] at hg
    have hb35 := u8_eq_iff t[0] 35 (by omega)
    rw [show (35 : Int).toNat.toUInt8 = (35 : UInt8) from rfl] at hb35
    have HG := Lib.hid hg
    have H35 := Lib.hid hb35
    have HT := Lib.hid ht
    clear hg hb35 ht htp hne
    go_enter Try.func11, Try.ntmps11
    go_wp2_with fail
    refine (HW.out _).mono ?_
    rintro e w1 ⟨v, rfl, hv, hb1⟩
    rw [tS_len] at hv
    obtain ⟨n, hn⟩ : ∃ n, n = (p :: r).length := ⟨_, rfl⟩
    have hpos : 0 < n := by rw [hn]; simp
    rw [← hn] at hv
    obtain ⟨g, cap, rfl, hg1, hg2⟩ := hv.form hpos
    have hcl : w1.cell? ⟨g, 0, none⟩ = some (.string t) := by rw [hv.cellAt 0 (by omega), HT.out]; rfl
    have hn0 : ((n : Int) == 0) = false := by simp; omega
    clear hv hn
    cases hx : ((t[0].toNat : Int) == 35) with
    | true =>
      have hf : Hid (isCommentL s.data.toList = true) := by
        show _ = _
        rw [H35.out] at hx
        rw [hfin.out, HG.out]; simpa using hx
      go_wp2_with fail
      go_ret
      exact ⟨ret_bool hf.out.symm, hb1⟩
    | false =>
      have hf : Hid (isCommentL s.data.toList = false) := by
        show _ = _
        rw [H35.out] at hx
        rw [hfin.out, HG.out]; simpa using hx
      go_wp2_with fail
      go_ret
      exact ⟨ret_bool hf.out.symm, hb1⟩

set_option maxHeartbeats 1000000 in
theorem i_CountRuleLines (s : ByteArray) (hs : s.size ≤ 4194304) (w : World) :
    Calls Try.prog 22 #[.string s] w fun e w' => e = .returned (.int .i64 (countLn s.data.toList : Nat)) ∧ Below w.heap.size w w' := by
  have hS := i_SplitLines s hs
  have hlen := linesL_len s.data.toList
  have hmem := fun p (h : p ∈ linesL s.data.toList) => (linesL_mem h).1
  rw [len_of] at hlen hmem
  have hL : countLn s.data.toList = noneL (linesL s.data.toList) := rfl
  rw [hL]
  generalize linesL s.data.toList = ps at *
  have HS := Lib.hid hS
  have HM := Lib.hid hmem
  clear hS hmem hL
  go_enter Try.func22, Try.ntmps22
  go_wp2_with fail
  refine (HS.out _).mono ?_
  rintro e w1 ⟨v, rfl, hv, hb1⟩
  rw [tS_len] at hv
  have hrd := Rd.of_own hv
  obtain ⟨n, hn⟩ : ∃ n, n = ps.length := ⟨_, rfl⟩
  rw [← hn] at hrd hlen
  have HN := Lib.hid hn
  have HB := Lib.hid hb1
  clear hv hn hb1
  obtain ⟨_, A, c, rfl, hnc, hcm, hcell⟩ := hrd
  unfold maxLen at hcm
  have HC := Lib.hid hcell
  clear hcell
  go_wp2_with fail
  go_loopw [3, 9] (fun o i wr => ∃ k : Nat, k ≤ n ∧ i = .int .i64 k ∧ o = .int .i64 (noneL (ps.take k) : Nat) ∧ Below w1.heap.size w1 wr) (fun _ i _ => n - (intOf i).toNat)
  case atStart => exact ⟨0, Nat.zero_le _, rfl, by simp [noneL], Below.refl _ _⟩
  case round =>
    obtain ⟨k, hk, rfl, rfl, hbr⟩ := hrel
    have hle := noneL_le (ps.take k)
    rw [List.length_take] at hle
    by_cases hlt : k < n
    · have hkp : k < ps.length := by rw [← HN.out]; exact hlt
      obtain ⟨b, off, rfl, hc⟩ := HC.out (by rw [cS_len, tS_len, ← HN.out]; omega)
      have hcl0 := hc k _ (tS_at hkp)
      have hcl := (hbr.cell (World.block_lt_of_cell? w1 _ hcl0)).trans hcl0
      have hsz := HM.out ps[k] (List.getElem_mem hkp)
      obtain ⟨t, ht⟩ : ∃ t, t = ps[k] := ⟨_, rfl⟩
      have HY := Lib.hid (fun h => noneL_yes hkp h)
      have HZ := Lib.hid (fun h => noneL_no hkp h)
      rw [← ht] at hcl hsz HY HZ
      have HBR := Lib.hid hbr
      clear hc hcl0 hbr ht
      go_wp2_with fail
      refine (i_IsComment (mkS t) (by rw [mkS_size]; omega) _).mono ?_
      rw [mkS_list]
      rintro e w2 ⟨rfl, hb2⟩
      have HB2 := Lib.hid (Below.then_ HBR.out hb2 (Nat.le_refl _))
      clear hb2
      cases hcm : isCommentL t with
      | true =>
        go_wp2_with fail
        go_roundw
        case rel => exact ⟨k + 1, by omega, by go_num, by rw [HY.out hcm], HB2.out⟩
        case measure => simp [intOf]; omega
      | false =>
        go_wp2_with fail
        go_roundw
        case rel => exact ⟨k + 1, by omega, by go_num, by rw [HZ.out hcm]; go_num, HB2.out⟩
        case measure => simp [intOf]; omega
    · obtain rfl : k = n := by omega
      have HF := Lib.hid (show ps.take k = ps from List.take_of_length_le (by rw [← HN.out]; exact Nat.le_refl _))
      have HBR := Lib.hid hbr
      clear hbr
      go_wp2_with fail
      go_ret
      exact ⟨ret_int (by rw [HF.out]), Below.then_ HB.out HBR.out (Nat.le_refl _)⟩

set_option maxHeartbeats 1000000 in
theorem s_SplitLines (s : ByteArray) (hs : s.size ≤ 4194304) (w : World) :
    Calls Try.prog 17 #[.string s] w (Made 9 1 (tS (linesL s.data.toList)).length (cS (tS (linesL s.data.toList))) w) := by
  have hS := s_SplitText s 10 (by omega) hs
  rw [show (10 : Int).toNat.toUInt8 = (10 : UInt8) from rfl] at hS
  have hpos := splitL_pos s.data.toList 10
  have hlen := splitL_len s.data.toList 10
  rw [len_of] at hlen
  have hL : linesL s.data.toList = if (splitL s.data.toList 10).getLast? = some [] then (splitL s.data.toList 10).dropLast else splitL s.data.toList 10 := rfl
  generalize splitL s.data.toList 10 = ps at *
  generalize linesL s.data.toList = ls at *
  have HL := Lib.hid hL
  have HS := Lib.hid hS
  clear hL hS
  go_enter Try.func17, Try.ntmps17
  go_wp2_with fail
  refine (HS.out _).mono ?_
  rintro e w1 ⟨v, rfl, hv, hb1⟩
  rw [tS_len] at hv
  obtain ⟨n, hn⟩ : ∃ n, n = ps.length := ⟨_, rfl⟩
  rw [← hn] at hv hpos hlen
  obtain ⟨g, cap, rfl, hg1, hg2⟩ := hv.form hpos
  have hcm : n ≤ cap ∧ cap ≤ maxLen := by
    obtain ⟨_, A, c, h, h1, h2, _⟩ := Rd.of_own hv
    injection h with _ _ h
    subst h; exact ⟨h1, h2⟩
  obtain ⟨hnc, hcm⟩ := hcm
  unfold maxLen at hcm
  have hlt : n - 1 < ps.length := by omega
  have hcl : w1.cell? ⟨g, n - 1, none⟩ = some (.string (mkS ps[n - 1])) := by rw [hv.cellAt (n - 1) (by omega)]; exact tS_at hlt
  have hlast : ps.getLast? = some ps[n - 1] := by rw [List.getLast?_eq_getElem?, ← hn, List.getElem?_eq_getElem hlt]
  have HV := Lib.hid hv
  have HN := Lib.hid hn
  have HB := Lib.hid hb1
  have HLL := Lib.hid hlast
  clear hv hn hb1 hlast
  by_cases he : ps[n - 1] = []
  · have hq : (mkS ps[n - 1]).toList.isEmpty = true := by rw [mkS_empty, he]; rfl
    have hfin := Lib.hid (show ps.take (n - 1) = ls by rw [HL.out, HLL.out, he, if_pos rfl, List.dropLast_eq_take, ← HN.out])
    clear he
    go_wp2_with fail
    go_ret
    refine ⟨_, rfl, ?_, HB.out⟩
    have h := own_front HV.out (a := n - 1) (by omega)
    rw [Nat.mul_one, ← cS_take] at h
    have e : (tS ps).take (n - 1) = tS ls := by rw [← hfin.out]; simp [tS, List.map_take]
    rw [e] at h
    have e2 : (tS ls).length = n - 1 := by rw [tS_len, ← hfin.out, List.length_take]; omega
    rw [e2]
    exact h
  · have hq : (mkS ps[n - 1]).toList.isEmpty = false := by rw [mkS_empty]; simpa using he
    have hfin := Lib.hid (show ps = ls by rw [HL.out, HLL.out, if_neg (fun e => he (Option.some.inj e))])
    clear he
    go_wp2_with fail
    go_ret
    refine ⟨_, rfl, ?_, HB.out⟩
    have h := HV.out
    rw [hfin.out] at h
    have e2 : (tS ls).length = n := by rw [tS_len, ← hfin.out, ← HN.out]
    rw [e2]
    exact h

set_option maxHeartbeats 1000000 in
theorem s_Words (s : ByteArray) (hs : s.size ≤ 4194304) (w : World) :
    Calls Try.prog 19 #[.string s] w (Made 9 1 (tS (wordsL s.data.toList)).length (cS (tS (wordsL s.data.toList))) w) := by
  obtain ⟨i0, hi, hz0, hz1, hz2⟩ := info_parts info_String
  have hS := s_SplitText s 32 (by omega) hs
  rw [show (32 : Int).toNat.toUInt8 = (32 : UInt8) from rfl] at hS
  have hpos := splitL_pos s.data.toList 32
  have hlen := splitL_len s.data.toList 32
  rw [len_of] at hlen
  have hL : wordsL s.data.toList = fullL (splitL s.data.toList 32) := rfl
  generalize splitL s.data.toList 32 = ps at *
  generalize wordsL s.data.toList = ls at *
  subst hL
  have HS := Lib.hid hS
  clear hS
  go_enter Try.func19, Try.ntmps19
  go_wp2_with fail
  refine (HS.out _).mono ?_
  rintro e w1 ⟨v, rfl, hv, hb1⟩
  rw [tS_len] at hv
  obtain ⟨n, hn⟩ : ∃ n, n = ps.length := ⟨_, rfl⟩
  rw [← hn] at hv hpos hlen
  obtain ⟨g, cap, rfl, hg1, hg2⟩ := hv.form hpos
  have hcm : n ≤ cap ∧ cap ≤ maxLen := by
    obtain ⟨_, A, c, h, h1, h2, _⟩ := Rd.of_own hv
    injection h with _ _ h
    subst h; exact ⟨h1, h2⟩
  obtain ⟨hnc, hcm⟩ := hcm
  unfold maxLen at hcm
  have hg3 : w.heap.size + 1 ≤ g := by simpa using hg1
  have HN := Lib.hid hn
  have hcells : ∀ j (hj : j < ps.length), w1.cell? ⟨g, j, none⟩ = some (.string (mkS ps[j])) := fun j hj => by rw [hv.cellAt j (by rw [← hn] at hj; omega)]; exact tS_at hj
  have HC := Lib.hid hcells
  have hown0 := own_below (World.ownsRow_lit (base := w.heap.size) (e := 9) (size := 1) w #[] 0 (Nat.le_refl _) (Nat.zero_le _) rfl) hb1
  have hb0 : Below w.heap.size w w1 := ((Below.refl _ _).alloc (Nat.le_refl _) _).trans (hb1.mono (by simp))
  have hg2' := hg2
  clear hn hv hcells hb1
  go_wp2_with fail
  go_loopw [3, 5] (fun o i wr => ∃ k : Nat, k ≤ n ∧ i = .int .i64 k ∧ wr.ownsRow w.heap.size 9 1 o (tS (fullL (ps.take k))).length (cS (tS (fullL (ps.take k)))) ∧ Below w.heap.size w wr ∧ o.ownBlock ≠ some g ∧ g < wr.heap.size ∧ (∀ j (hj : j < ps.length), wr.cell? ⟨g, j, none⟩ = some (.string (mkS ps[j]))))
    (fun _ i _ => n - (intOf i).toNat)
  case atStart => exact ⟨0, Nat.zero_le _, rfl, by simpa [fullL, tS, cS] using hown0, hb0, by simp [Value.ownBlock]; omega, hg2, HC.out⟩
  case round =>
    obtain ⟨k, hk, rfl, hownr, hbr, hog, hgw, hcr⟩ := hrel
    obtain ⟨m, hm⟩ : ∃ m, m = (tS (fullL (ps.take k))).length := ⟨_, rfl⟩
    have hmk : m ≤ 4194305 := by
      rw [hm, tS_len]
      have := fullL_len (ps.take k)
      rw [List.length_take] at this
      omega
    rw [← hm] at hownr
    have HM := Lib.hid hm
    have HO := Lib.hid hownr
    have HB := Lib.hid hbr
    have HOG := Lib.hid hog
    have HCR := Lib.hid hcr
    clear hm hownr hbr hog hcr hown0 hb0
    by_cases hlt : k < n
    · have hkp : k < ps.length := by rw [← HN.out]; exact hlt
      have hcl := HCR.out k hkp
      obtain ⟨t, ht⟩ : ∃ t, t = ps[k] := ⟨_, rfl⟩
      rw [← ht] at hcl
      by_cases he : t.isEmpty = true
      · have hq : (mkS t).toList.isEmpty = true := by rw [mkS_empty, he]
        have HF := Lib.hid (fullL_no hkp (by rw [← ht]; exact he))
        clear he ht
        go_wp2_with fail
        go_roundw
        case rel => exact ⟨k + 1, by omega, by go_num, by rw [HF.out, ← HM.out]; exact HO.out, HB.out, HOG.out, hgw, HCR.out⟩
        case measure => simp [intOf]; omega
      · have hq : (mkS t).toList.isEmpty = false := by rw [mkS_empty]; simpa using he
        have HF := Lib.hid (fullL_yes hkp (by rw [← ht]; simpa using he))
        rw [← ht] at HF
        have hlit := Lib.hid (Rd.lit wr (cS [mkS t]) 9 1 rfl (by unfold maxLen; omega))
        clear he ht
        go_wp2_with (at_builtin; refine wpList_append_rd _ rfl (.tmp 20) (.tmp 25) 23 rfl w.heap.size 9 i0 (.string ⟨#[]⟩) 1 16 Try.underlying23 hi hz0 hz1 hz2 rfl (by decide) _ m (cS (tS (fullL (ps.take k)))) rfl (HO.out.alloc _) _ 1 (cS [mkS t]) rfl ?c1 (cS_one _) (by unfold maxLen; omega) (by omega) (by have := HB.out.size; simp; omega) ?_)
        case c1 => exact hlit.out
        intro v' w' hown' hgrow' hat'
        have HB' : Hid (Below w.heap.size w w') := own_grown_below (HB.out.alloc HB.out.size _) (HO.out.alloc _) hgrow' (by have := HB.out.size; simp; omega) (Nat.le_refl _)
        have HO' := Lib.hid hown'
        have hgw' : g < w'.heap.size := by have := hgrow'.size; simp at this; omega
        have HOG' : Hid (v'.ownBlock ≠ some g) := by
          rcases hat' with h | h
          · rw [h]; exact HOG.out
          · rw [h]; intro e; simp at e; omega
        have HC' : Hid (∀ j (hj : j < ps.length), w'.cell? ⟨g, j, none⟩ = some (.string (mkS ps[j]))) := fun j hj => by
          rw [← HCR.out j hj, ← World.cell?_alloc_lt wr (.cells (cS [mkS t]).toArray 9) ⟨g, j, none⟩ hgw]
          exact World.cell?_of_block (hgrow'.block g (by simp; omega) (fun e => HOG.out e.symm))
        clear hgrow' hown' hat'
        go_wp2_with fail
        go_roundw
        case rel =>
          refine ⟨k + 1, by omega, by go_num, ?_, HB'.out, HOG'.out, hgw', HC'.out⟩
          have h := HO'.out
          rw [HM.out] at h
          rw [HF.out, tS_append, List.length_append, cS_append]
          exact h
        case measure => simp [intOf]; omega
    · obtain rfl : k = n := by omega
      have HF := Lib.hid (show ps.take k = ps from List.take_of_length_le (by rw [← HN.out]; exact Nat.le_refl _))
      go_wp2_with fail
      go_ret
      refine ⟨_, rfl, ?_, HB.out⟩
      have h := HO.out
      rw [HM.out, HF.out] at h
      exact h

set_option maxHeartbeats 1000000 in
theorem s_IsComment (s : ByteArray) (hs : s.size ≤ 4194304) (w : World) :
    Calls Try.prog 10 #[.string s] w fun e w' => e = .returned (.bool (isCommentL s.data.toList)) ∧ Below w.heap.size w w' := by
  have hW := s_Words s hs
  have hmem := fun p (h : p ∈ wordsL s.data.toList) => (wordsL_mem h).2.2
  cases hws : wordsL s.data.toList with
  | nil =>
    have hfin := Lib.hid (isComment_nil hws)
    rw [hws] at hW
    have HW := Lib.hid hW
    clear hW hws hmem
    go_enter Try.func10, Try.ntmps10
    go_wp2_with fail
    refine (HW.out _).mono ?_
    rintro e w1 ⟨v, rfl, hv, hb1⟩
    obtain ⟨A, c, rfl⟩ : ∃ A c, v = .slice A 0 c := by
      obtain ⟨_, A, c, h, _⟩ := Rd.of_own hv
      exact ⟨A, c, h⟩
    clear hv
    go_wp2_with fail
    go_ret
    exact ⟨ret_bool hfin.out.symm, hb1⟩
  | cons p r =>
    have hfin := Lib.hid (isComment_cons hws)
    have hne := hmem p (by rw [hws]; simp)
    rw [hws] at hW
    have HW := Lib.hid hW
    clear hW hws hmem
    obtain ⟨t, ht⟩ : ∃ t, t = mkS p := ⟨_, rfl⟩
    have htp : t.data.toList = p := by rw [ht]; rfl
    have h0 : 0 < t.size := by rw [← len_of, htp]; exact List.length_pos_iff.2 hne
    have hg := get_list t 0 h0
    rw [htp] at hg
    have hb35 := u8_eq_iff t[0] 35 (by omega)
    rw [show (35 : Int).toNat.toUInt8 = (35 : UInt8) from rfl] at hb35
    have HG := Lib.hid hg
    have H35 := Lib.hid hb35
    have HT := Lib.hid ht
    clear hg hb35 ht htp hne
    go_enter Try.func10, Try.ntmps10
    go_wp2_with fail
    refine (HW.out _).mono ?_
    rintro e w1 ⟨v, rfl, hv, hb1⟩
    rw [tS_len] at hv
    obtain ⟨n, hn⟩ : ∃ n, n = (p :: r).length := ⟨_, rfl⟩
    have hpos : 0 < n := by rw [hn]; simp
    rw [← hn] at hv
    obtain ⟨g, cap, rfl, hg1, hg2⟩ := hv.form hpos
    have hcl : w1.cell? ⟨g, 0, none⟩ = some (.string t) := by rw [hv.cellAt 0 (by omega), HT.out]; rfl
    have hn0 : ((n : Int) == 0) = false := by simp; omega
    clear hv hn
    cases hx : ((t[0].toNat : Int) == 35) with
    | true =>
      have hf : Hid (isCommentL s.data.toList = true) := by
        show _ = _
        rw [H35.out] at hx
        rw [hfin.out, HG.out]; simpa using hx
      go_wp2_with fail
      go_ret
      exact ⟨ret_bool hf.out.symm, hb1⟩
    | false =>
      have hf : Hid (isCommentL s.data.toList = false) := by
        show _ = _
        rw [H35.out] at hx
        rw [hfin.out, HG.out]; simpa using hx
      go_wp2_with fail
      go_ret
      exact ⟨ret_bool hf.out.symm, hb1⟩

set_option maxHeartbeats 1000000 in
theorem s_CountRuleLines (s : ByteArray) (hs : s.size ≤ 4194304) (w : World) :
    Calls Try.prog 21 #[.string s] w fun e w' => e = .returned (.int .i64 (countLn s.data.toList : Nat)) ∧ Below w.heap.size w w' := by
  have hS := s_SplitLines s hs
  have hlen := linesL_len s.data.toList
  have hmem := fun p (h : p ∈ linesL s.data.toList) => (linesL_mem h).1
  rw [len_of] at hlen hmem
  have hL : countLn s.data.toList = noneL (linesL s.data.toList) := rfl
  rw [hL]
  generalize linesL s.data.toList = ps at *
  have HS := Lib.hid hS
  have HM := Lib.hid hmem
  clear hS hmem hL
  go_enter Try.func21, Try.ntmps21
  go_wp2_with fail
  refine (HS.out _).mono ?_
  rintro e w1 ⟨v, rfl, hv, hb1⟩
  rw [tS_len] at hv
  have hrd := Rd.of_own hv
  obtain ⟨n, hn⟩ : ∃ n, n = ps.length := ⟨_, rfl⟩
  rw [← hn] at hrd hlen
  have HN := Lib.hid hn
  have HB := Lib.hid hb1
  clear hv hn hb1
  obtain ⟨_, A, c, rfl, hnc, hcm, hcell⟩ := hrd
  unfold maxLen at hcm
  have HC := Lib.hid hcell
  clear hcell
  go_wp2_with fail
  go_loopw [3, 5] (fun o i wr => ∃ k : Nat, k ≤ n ∧ i = .int .i64 k ∧ o = .int .i64 (noneL (ps.take k) : Nat) ∧ Below w1.heap.size w1 wr) (fun _ i _ => n - (intOf i).toNat)
  case atStart => exact ⟨0, Nat.zero_le _, rfl, by simp [noneL], Below.refl _ _⟩
  case round =>
    obtain ⟨k, hk, rfl, rfl, hbr⟩ := hrel
    have hle := noneL_le (ps.take k)
    rw [List.length_take] at hle
    by_cases hlt : k < n
    · have hkp : k < ps.length := by rw [← HN.out]; exact hlt
      obtain ⟨b, off, rfl, hc⟩ := HC.out (by rw [cS_len, tS_len, ← HN.out]; omega)
      have hcl0 := hc k _ (tS_at hkp)
      have hcl := (hbr.cell (World.block_lt_of_cell? w1 _ hcl0)).trans hcl0
      have hsz := HM.out ps[k] (List.getElem_mem hkp)
      obtain ⟨t, ht⟩ : ∃ t, t = ps[k] := ⟨_, rfl⟩
      have HY := Lib.hid (fun h => noneL_yes hkp h)
      have HZ := Lib.hid (fun h => noneL_no hkp h)
      rw [← ht] at hcl hsz HY HZ
      have HBR := Lib.hid hbr
      clear hc hcl0 hbr ht
      go_wp2_with fail
      refine (s_IsComment (mkS t) (by rw [mkS_size]; omega) _).mono ?_
      rw [mkS_list]
      rintro e w2 ⟨rfl, hb2⟩
      have HB2 := Lib.hid (Below.then_ HBR.out hb2 (Nat.le_refl _))
      clear hb2
      cases hcm : isCommentL t with
      | true =>
        go_wp2_with fail
        go_roundw
        case rel => exact ⟨k + 1, by omega, by go_num, by rw [HY.out hcm], HB2.out⟩
        case measure => simp [intOf]; omega
      | false =>
        go_wp2_with fail
        go_roundw
        case rel => exact ⟨k + 1, by omega, by go_num, by rw [HZ.out hcm]; go_num, HB2.out⟩
        case measure => simp [intOf]; omega
    · obtain rfl : k = n := by omega
      have HF := Lib.hid (show ps.take k = ps from List.take_of_length_le (by rw [← HN.out]; exact Nat.le_refl _))
      have HBR := Lib.hid hbr
      clear hbr
      go_wp2_with fail
      go_ret
      exact ⟨ret_int (by rw [HF.out]), Below.then_ HB.out HBR.out (Nat.le_refl _)⟩

end Go.Proofs.Ytfdjamobfhoeiaa
