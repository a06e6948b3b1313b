/-
  AddRule of the reference.
-/
import Derived.Test.YtkjjgpkegihmhaaGreatDoorGH
import Derived.Test.YtkjjgpkegihmhaaGreatDoorParseS
import Derived.Deep.DeepCutAuto
namespace Go.Proofs.YtkjjgpkegihmhaaGreatDoor
open Go.RowKit
set_option linter.unusedVariables false

set_option maxRecDepth 100000 in
set_option maxHeartbeats 8000000 in
theorem s_AddRule (d : Value) (l : List RuleD) (s : ByteArray) (hs : s.size ≤ 1048576) (hln : l.length ≤ 1048576) (hfit : ∀ r ∈ l, RuleFits r) (hsm : ∀ r ∈ l, RuleSmall r) (hnf : NamesFit l) (w : World) (ht : Tab w) (hd : RdDesc w d l) :
    Calls Tryz.prog 17 #[d, .string s] w (MadeD (addL l s.data.toList) l w) := by
  obtain ⟨v, rfl, hdv⟩ := hd
  obtain ⟨A, c, rfl, hnc, hcm, hcell⟩ := hdv.all
  unfold maxLen at hcm
  have HV := Lib.hid hdv
  have HT := Lib.hid ht
  have cd := fun w hd => s_CopyDescription (.agg #[.slice A l.length c]) l (by omega) hsm w hd
  have pr := fun w ht hd => s_ParseRule (.agg #[.slice A l.length c]) l s hs (by omega) hfit hsm hnf w ht hd
  obtain ⟨R, hR⟩ : ∃ R, R = addL l s.data.toList := ⟨_, rfl⟩
  rw [← hR]
  obtain ⟨O, hO⟩ : ∃ O, O = parseI l s.data.toList := ⟨_, rfl⟩
  have HR : Hid (R = O.bind fun r => if l.length < 24 then some (l ++ [r]) else none) := by show _ = _; rw [hR, hO]; rfl
  rw [← hO] at pr
  have CD := Lib.hid cd
  have PR := Lib.hid pr
  obtain ⟨w1, hw1⟩ : ∃ w1, w1 = (w.alloc (.cells #[.slice A l.length c] 35)).alloc (.cells #[.slice none 0 0] 35) := ⟨_, rfl⟩
  have X1 := Lib.hid (show Box w1 w.heap.size 35 #[.slice A l.length c] by rw [hw1]; exact (Box.new w _ _).alloc _)
  have R1 := Lib.hid (show Box w1 (w.heap.size + 1) 35 #[.slice none 0 0] by rw [hw1]; exact box_new1 w _ _ _)
  have B1 := Lib.hid (show Below w.heap.size w w1 by rw [hw1]; exact ((Below.refl _ _).alloc (Nat.le_refl _) _).alloc (by simp) _)
  have W1 := Lib.hid hw1
  obtain ⟨i0, hif, hz0, hz1, hz2⟩ := info_parts info_Rule
  clear hcell hdv hR hO hw1 cd pr hfit hsm hnf hs ht
  go_enter Tryz.func17, Tryz.ntmps17
  go_wp2_with fail
  rw [← W1.out]
  refine (CD.out _ ⟨_, rfl, HV.out.below B1.out⟩).mono ?_
  rintro e w2 ⟨vo, rfl, hor, hb2⟩
  obtain ⟨Ao, co, rfl⟩ := hor.slice
  have O2 := Lib.hid hor
  have B2 := Lib.hid (Below.then_ B1.out hb2 (Nat.le_refl _))
  have X2 := Lib.hid (X1.out.below hb2)
  have R2 := Lib.hid (R1.out.below hb2)
  have Z2 := Lib.hid hb2.size
  obtain ⟨w3, hw3⟩ : ∃ w3, w3 = w2.alloc (.cells #[.slice Ao l.length co] 35) := ⟨_, rfl⟩
  have B23 : Below w2.heap.size w2 w3 := by rw [hw3]; exact (Below.refl _ _).alloc (Nat.le_refl _) _
  have X3 := Lib.hid (X2.out.below B23)
  have R3 := Lib.hid (R2.out.below B23)
  have O3 := Lib.hid (O2.out.below B23)
  have B3 := Lib.hid (Below.then_ B2.out B23 (Nat.le_refl _))
  have G3 := Lib.hid (show Box w3 w2.heap.size 35 #[.slice Ao l.length co] by rw [hw3]; exact Box.new _ _ _)
  have W3 := Lib.hid hw3
  have Z3 := Lib.hid (show w2.heap.size ≤ w3.heap.size by rw [hw3]; simp)
  have x3 : (w2.alloc (.cells #[.slice Ao l.length co] 35)).cell? ⟨w.heap.size, 0, none⟩ = some (.slice A l.length c) := (X2.out.alloc _).cell 0
  clear hor hb2 hw3 B23
  go_wp2_with fail
  rw [← W3.out]
  refine (PR.out _ (HT.out.below B3.out) ⟨_, rfl, HV.out.below B3.out⟩).mono ?_
  rintro e w4 ⟨vb, vn, vt, vk, rfl, h4, hb4⟩
  have B4 := Lib.hid (Below.then_ B3.out hb4 (Nat.le_refl _))
  have X4 := Lib.hid (X3.out.below hb4)
  have R4 := Lib.hid (R3.out.below hb4)
  have G4 := Lib.hid (G3.out.below hb4)
  have O4 := Lib.hid (O3.out.below hb4)
  have Z4 := Lib.hid hb4.size
  have B34 := Lib.hid hb4
  clear hb4 x3
  cases O with
  | none =>
    have hfin : Hid (R = none) := by show _ = _; rw [HR.out]; rfl
    rw [Option.getD_none] at h4 ⊢
    rw [show (none : Option RuleD).isSome = false from rfl]
    unfold rCells
    obtain ⟨Ab, cb, An, cn, At, ct, Ak, ck, rfl, rfl, rfl, rfl⟩ := h4.slices
    have H4 := Lib.hid h4
    obtain ⟨w5, hw5⟩ : ∃ w5, w5 = w4.alloc (.cells #[.string rZ.name, .int .i64 rZ.kind, .int .i64 rZ.size, .bool rZ.little, .slice Ab rZ.bytes.length cb, .slice An rZ.names.length cn, .slice At rZ.tags.length ct, .slice Ak rZ.kids.length ck] 30) := ⟨_, rfl⟩
    have B45 : Below w4.heap.size w4 w5 := by rw [hw5]; exact (Below.refl _ _).alloc (Nat.le_refl _) _
    have X5 := Lib.hid ((X4.out.below B45))
    have R5 := Lib.hid ((R4.out.below B45))
    have G5 := Lib.hid ((G4.out.below B45))
    have O5 := Lib.hid ((O4.out.below B45))
    have H5 := Lib.hid (h4.below B45)
    have K5 := Lib.hid (show Box w5 w4.heap.size 30 #[.string rZ.name, .int .i64 rZ.kind, .int .i64 rZ.size, .bool rZ.little, .slice Ab rZ.bytes.length cb, .slice An rZ.names.length cn, .slice At rZ.tags.length ct, .slice Ak rZ.kids.length ck] by rw [hw5]; exact Box.new _ _ _)
    have B5 := Lib.hid (Below.then_ B4.out B45 (Nat.le_refl _))
    have B35 := Lib.hid (Below.then_ B34.out B45 (Nat.le_refl _))
    have W5 := Lib.hid hw5
    have xa : (w4.alloc (.cells #[.string rZ.name, .int .i64 rZ.kind, .int .i64 rZ.size, .bool rZ.little, .slice Ab rZ.bytes.length cb, .slice An rZ.names.length cn, .slice At rZ.tags.length ct, .slice Ak rZ.kids.length ck] 30)).cell? ⟨w.heap.size, 0, none⟩ = some (.slice A l.length c) := (X4.out.alloc _).cell 0
    have xb : (w4.alloc (.cells #[.string rZ.name, .int .i64 rZ.kind, .int .i64 rZ.size, .bool rZ.little, .slice Ab rZ.bytes.length cb, .slice An rZ.names.length cn, .slice At rZ.tags.length ct, .slice Ak rZ.kids.length ck] 30)).cell? ⟨w.heap.size + 1, 0, none⟩ = some (.slice none 0 0) := (R4.out.alloc _).cell 0
    have xc : (w4.alloc (.cells #[.string rZ.name, .int .i64 rZ.kind, .int .i64 rZ.size, .bool rZ.little, .slice Ab rZ.bytes.length cb, .slice An rZ.names.length cn, .slice At rZ.tags.length ct, .slice Ak rZ.kids.length ck] 30)).frozen? ⟨w.heap.size + 1, 0, none⟩ = false := (R4.out.alloc _).frozen 0
    have xd : (w4.alloc (.cells #[.string rZ.name, .int .i64 rZ.kind, .int .i64 rZ.size, .bool rZ.little, .slice Ab rZ.bytes.length cb, .slice An rZ.names.length cn, .slice At rZ.tags.length ct, .slice Ak rZ.kids.length ck] 30)).cell? ⟨w2.heap.size, 0, none⟩ = some (.slice Ao l.length co) := (G4.out.alloc _).cell 0
    have xe : (w4.alloc (.cells #[.string rZ.name, .int .i64 rZ.kind, .int .i64 rZ.size, .bool rZ.little, .slice Ab rZ.bytes.length cb, .slice An rZ.names.length cn, .slice At rZ.tags.length ct, .slice Ak rZ.kids.length ck] 30)).frozen? ⟨w2.heap.size, 0, none⟩ = false := (G4.out.alloc _).frozen 0
    clear hw5 B45 h4
    go_wp2_with fail
    rw [← W5.out]
    have xx := R5.out.cell 0
    refine bodyPost_ret (v := .tuple #[.agg #[.slice Ao l.length co], .bool false]) (by simp [results, Tryz.results17, go_sem, xx]) rfl ?_
    exact MadeD.no hfin.out ((O5.out.setBox R5.out).mono B1.out.size) (below_set B5.out (by omega) _)
  | some r =>
    rw [Option.getD_some] at h4 ⊢
    rw [show (some r).isSome = true from rfl]
    unfold rCells
    obtain ⟨Ab, cb, An, cn, At, ct, Ak, ck, rfl, rfl, rfl, rfl⟩ := h4.slices
    have H4 := Lib.hid h4
    obtain ⟨w5, hw5⟩ : ∃ w5, w5 = w4.alloc (.cells #[.string r.name, .int .i64 r.kind, .int .i64 r.size, .bool r.little, .slice Ab r.bytes.length cb, .slice An r.names.length cn, .slice At r.tags.length ct, .slice Ak r.kids.length ck] 30) := ⟨_, rfl⟩
    have B45 : Below w4.heap.size w4 w5 := by rw [hw5]; exact (Below.refl _ _).alloc (Nat.le_refl _) _
    have X5 := Lib.hid ((X4.out.below B45))
    have R5 := Lib.hid ((R4.out.below B45))
    have G5 := Lib.hid ((G4.out.below B45))
    have O5 := Lib.hid ((O4.out.below B45))
    have H5 := Lib.hid (h4.below B45)
    have K5 := Lib.hid (show Box w5 w4.heap.size 30 #[.string r.name, .int .i64 r.kind, .int .i64 r.size, .bool r.little, .slice Ab r.bytes.length cb, .slice An r.names.length cn, .slice At r.tags.length ct, .slice Ak r.kids.length ck] by rw [hw5]; exact Box.new _ _ _)
    have B5 := Lib.hid (Below.then_ B4.out B45 (Nat.le_refl _))
    have B35 := Lib.hid (Below.then_ B34.out B45 (Nat.le_refl _))
    have W5 := Lib.hid hw5
    have xa : (w4.alloc (.cells #[.string r.name, .int .i64 r.kind, .int .i64 r.size, .bool r.little, .slice Ab r.bytes.length cb, .slice An r.names.length cn, .slice At r.tags.length ct, .slice Ak r.kids.length ck] 30)).cell? ⟨w.heap.size, 0, none⟩ = some (.slice A l.length c) := (X4.out.alloc _).cell 0
    have xb : (w4.alloc (.cells #[.string r.name, .int .i64 r.kind, .int .i64 r.size, .bool r.little, .slice Ab r.bytes.length cb, .slice An r.names.length cn, .slice At r.tags.length ct, .slice Ak r.kids.length ck] 30)).cell? ⟨w.heap.size + 1, 0, none⟩ = some (.slice none 0 0) := (R4.out.alloc _).cell 0
    have xc : (w4.alloc (.cells #[.string r.name, .int .i64 r.kind, .int .i64 r.size, .bool r.little, .slice Ab r.bytes.length cb, .slice An r.names.length cn, .slice At r.tags.length ct, .slice Ak r.kids.length ck] 30)).frozen? ⟨w.heap.size + 1, 0, none⟩ = false := (R4.out.alloc _).frozen 0
    have xd : (w4.alloc (.cells #[.string r.name, .int .i64 r.kind, .int .i64 r.size, .bool r.little, .slice Ab r.bytes.length cb, .slice An r.names.length cn, .slice At r.tags.length ct, .slice Ak r.kids.length ck] 30)).cell? ⟨w2.heap.size, 0, none⟩ = some (.slice Ao l.length co) := (G4.out.alloc _).cell 0
    have xe : (w4.alloc (.cells #[.string r.name, .int .i64 r.kind, .int .i64 r.size, .bool r.little, .slice Ab r.bytes.length cb, .slice An r.names.length cn, .slice At r.tags.length ct, .slice Ak r.kids.length ck] 30)).frozen? ⟨w2.heap.size, 0, none⟩ = false := (G4.out.alloc _).frozen 0
    clear hw5 B45 h4
    by_cases h24 : l.length < 24
    · have hfin : Hid (R = some (l ++ [r])) := by show _ = _; rw [HR.out]; show (if _ then _ else _) = _; rw [if_pos h24]
      have d1 : decide ((24 : Int) ≤ (l.length : Int)) = false := by simp; omega
      have d2 : decide ((l.length : Int) ≥ 24) = false := by simp; omega
      obtain ⟨css, hcl, hown, hreach, hnod, hblt⟩ := O3.out.parts
      obtain ⟨fs, hfs⟩ : ∃ fs, fs = css.flatten := ⟨_, rfl⟩
      rw [← hfs] at hown
      have HFS := Lib.hid hfs
      have HOWN := Lib.hid hown
      have HOWN5 := Lib.hid (own_below hown B35.out)
      have hraw := HOWN5.out
      rw [W5.out] at hraw
      have HRAW := Lib.hid hraw
      have HEA := Lib.hid (show ∀ (i : Nat) (cs : List Value) (q : RuleD), css[i]? = some cs → l[i]? = some q → OwnRule w5 w1.heap.size cs q from fun i cs q h1 h2 => (hreach i cs q h1 h2).below B35.out)
      have HND := Lib.hid hnod
      have HBL := Lib.hid hblt
      have HCL := Lib.hid hcl
      have ONE := Lib.hid (rule_oneCell H5.out.own)
      have SZ5 := Lib.hid (show w1.heap.size ≤ w5.heap.size from by have h1 := Z2.out; have h3 := B35.out.size; have h2 := Z3.out; omega)
      clear hcl hown hreach hnod hblt hfs hraw
      go_wp2_with (at_builtin; refine wpList_append_rd _ rfl (.tmp 27) (.tmp 29) 33 rfl w1.heap.size 30 i0 (.agg #[.string ⟨#[]⟩, .int .i64 0, .int .i64 0, .bool false, .slice none 0 0, .slice none 0 0, .slice none 0 0, .slice none 0 0]) 8 136 Tryz.underlying33 hif hz0 hz1 hz2 rfl (by decide) _ l.length fs rfl (HRAW.out.alloc _) _ 1 [.string r.name, .int .i64 r.kind, .int .i64 r.size, .bool r.little, .slice Ab r.bytes.length cb, .slice An r.names.length cn, .slice At r.tags.length ct, .slice Ak r.kids.length ck] rfl (by first | exact rd_box8 (T := 30) (box_new1 _ _ _ _) | exact rd_box8 (T := 30) (box_new0 _ _ _)) ONE.out (by unfold maxLen; omega) (by omega) (by have h := SZ5.out; rw [W5.out] at h; simp at h ⊢; omega) ?_)
      intro v6 w6 hown6 hg6 hpos
      rw [← W5.out] at hg6
      obtain ⟨A6, c6, rfl⟩ : ∃ A c, v6 = .slice A (l.length + 1) c := by obtain ⟨_, A, c, h, _⟩ := Rd.of_own hown6; exact ⟨A, c, h⟩
      have push := Lib.hid (OwnRules.push (b0 := w3.heap.size) (w1 := w5) (css := css) (cs := ruleCells r (.slice Ab r.bytes.length cb) (.slice An r.names.length cn) (.slice At r.tags.length ct) (.slice Ak r.kids.length ck)) (vo := .slice Ao l.length co) HCL.out (by rw [← HFS.out]; exact HOWN5.out) HEA.out HND.out HBL.out H5.out.own H5.out.nodup (by have h1 := Z2.out; have h2 := Z3.out; omega) (by rw [← HFS.out]; exact hown6) hg6)
      have G6 := Lib.hid (Box.grown_own (G5.out.alloc _) (HOWN5.out.alloc _) (by decide) hg6)
      have R6 := Lib.hid (Box.grown_own (R5.out.alloc _) (HOWN5.out.alloc _) (by decide) hg6)
      have B6 := Lib.hid (own_grown_below (B5.out.alloc B5.out.size _) (HOWN5.out.alloc _) hg6 (by have := B5.out.size; simp; omega) B1.out.size)
      have xf : w6.cell? ⟨w2.heap.size, 0, none⟩ = some (.slice Ao l.length co) := G6.out.cell 0
      have xg : w6.frozen? ⟨w2.heap.size, 0, none⟩ = false := G6.out.frozen 0
      have xh : w6.cell? ⟨w.heap.size + 1, 0, none⟩ = some (.slice none 0 0) := R6.out.cell 0
      have xi : w6.frozen? ⟨w.heap.size + 1, 0, none⟩ = false := R6.out.frozen 0
      have hne : w2.heap.size ≠ w.heap.size + 1 := by have := R2.out.lt; omega
      have hne' : w.heap.size + 1 ≠ w2.heap.size := Ne.symm hne
      clear hown6 hg6 hpos xa xb xc xd xe
      go_wp2_with fail
      have R7 := Lib.hid (R6.out.setOther ⟨w2.heap.size, 0, none⟩ hne' (.slice A6 (l.length + 1) c6))
      have xx := R7.out.cell 0
      refine bodyPost_ret (v := .tuple #[.agg #[.slice A6 (l.length + 1) c6], .bool true]) (by simp [results, Tryz.results17, go_sem, xx]) rfl ?_
      exact MadeD.yes hfin.out (((push.out.setBox G6.out).setBox R7.out).mono B1.out.size) (below_set (below_set B6.out (by have := R2.out.lt; omega) _) (by omega) _)
    · have hfin : Hid (R = none) := by show _ = _; rw [HR.out]; show (if _ then _ else _) = _; rw [if_neg h24]
      have d1 : decide ((24 : Int) ≤ (l.length : Int)) = true := by simp; omega
      have d2 : decide ((l.length : Int) ≥ 24) = true := by simp; omega
      go_wp2_with fail
      rw [← W5.out]
      have xx := R5.out.cell 0
      refine bodyPost_ret (v := .tuple #[.agg #[.slice Ao l.length co], .bool false]) (by simp [results, Tryz.results17, go_sem, xx]) rfl ?_
      exact MadeD.no hfin.out ((O5.out.setBox R5.out).mono B1.out.size) (below_set B5.out (by omega) _)

end Go.Proofs.YtkjjgpkegihmhaaGreatDoor
