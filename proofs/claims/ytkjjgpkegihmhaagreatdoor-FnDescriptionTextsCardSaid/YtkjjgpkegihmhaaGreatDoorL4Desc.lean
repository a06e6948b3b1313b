/-
  l4Description and DrawDescription: what is drawn is a drawn description.
-/
import Derived.Test.YtkjjgpkegihmhaaGreatDoorL4Est
import Derived.Deep.RegionLaw
import Derived.Deep.DeepCutAuto
namespace Go.Proofs.YtkjjgpkegihmhaaGreatDoor
open Go.RowKit
set_option linter.unusedVariables false

theorem rows_slices {w : World} {lo : Nat} {r : RuleD} {vb vn vt vk : Value} (h : Rows4 w lo r vb vn vt vk) :
    ∃ Ab cb An cn At ct Ak ck, vb = .slice Ab r.bytes.length cb ∧ vn = .slice An r.names.length cn ∧ vt = .slice At r.tags.length ct ∧ vk = .slice Ak r.kids.length ck := by
  obtain ⟨_, Ab, cb, e1, _, _, _⟩ := Rd.of_own h.b
  obtain ⟨_, An, cn, e2, _, _, _⟩ := Rd.of_own h.n
  obtain ⟨_, At, ct, e3, _, _, _⟩ := Rd.of_own h.t
  obtain ⟨_, Ak, ck, e4, _, _, _⟩ := Rd.of_own h.k
  exact ⟨Ab, cb, An, cn, At, ct, Ak, ck, e1, e2, e3, e4⟩

theorem DrewR.parts {k : Int} {l : List RuleD} {g : Nat} {w w' : World} {e : Ending} (h : DrewR k l g w e w') :
    ∃ (r : RuleD) (Ab : Option Addr) (cb : Nat) (An : Option Addr) (cn : Nat) (At : Option Addr) (ct : Nat) (Ak : Option Addr) (ck : Nat), e = .returned (.agg #[.string r.name, .int .i64 r.kind, .int .i64 r.size, .bool r.little, .slice Ab r.bytes.length cb, .slice An r.names.length cn, .slice At r.tags.length ct, .slice Ak r.kids.length ck]) ∧ Rows4 w' w.heap.size r (.slice Ab r.bytes.length cb) (.slice An r.names.length cn) (.slice At r.tags.length ct) (.slice Ak r.kids.length ck) ∧ DrawnR l k r ∧ Cur w' g ∧ w.grownBy w' (some g) := by
  obtain ⟨r, vb, vn, vt, vk, rfl, h4, hdr, hcM, hgM⟩ := h
  obtain ⟨Ab, cb, An, cn, At, ct, Ak, ck, rfl, rfl, rfl, rfl⟩ := rows_slices h4
  exact ⟨r, Ab, cb, An, cn, At, ct, Ak, ck, rfl, h4, hdr, hcM, hgM⟩

set_option maxRecDepth 100000 in
set_option maxHeartbeats 8000000 in
theorem s_l4Description (g : Nat) (w : World) (hc : Cur w g) :
    Calls Tryz.prog 62 #[.pointer (some ⟨g, 0, none⟩)] w (DrewL g w) := by
  have hglt := hc.lt
  obtain ⟨w1, hw1⟩ : ∃ w1, w1 = ((w.alloc (.cells #[.slice none 0 0] 35)).alloc (.cells #[.slice none 0 0] 35)) := ⟨_, rfl⟩
  have S1 := Lib.hid (show ESt w g (.slice none 0 0) [] [] w1 by
    rw [hw1]
    have hb := (Below.refl w.heap.size w).alloc (Nat.le_refl _) (.cells #[.slice none 0 0] 35)
    have hb2 := hb.alloc (by simp) (.cells #[.slice none 0 0] 35)
    have hd := box_new1 w (.cells #[.slice none 0 0] 35) 35 #[.slice none 0 0]
    have hz := (Box.new w 35 #[.slice none 0 0]).alloc (.cells #[.slice none 0 0] 35)
    refine ⟨rfl, World.ownsRow_nil _ _ _ _, by simp, by simp [blocks], hd, hz, hc.below hb2, grown_of_below hb2, hglt⟩)
  have W1 := Lib.hid hw1
  have x1 : w1.cell? ⟨w.heap.size + 1, 0, none⟩ = some (.slice none 0 0) := S1.out.d.cell 0
  have DRL : Hid (Drawn []) := Drawn.nil
  obtain ⟨i0, hif, hz0, hz1, hz2⟩ := info_parts info_Rule
  clear hc hw1
  go_enter Tryz.func62, Tryz.ntmps62
  go_wp2_with fail
  rw [← W1.out]
  go_cut [12] (fun _ wx => ∃ r A' c' css', DrawnR [] 1 r ∧ ESt w g (.slice A' (0 + 1) c') ([] ++ [r]) css' wx)
  case first =>
    go_region_law
      (first
          | (refine step_append_rd _ (by rfl) (.tmp 7) (.tmp 11) 33 (by rfl) (w.heap.size + 1 + 1) 30 i0 (.agg #[.string ⟨#[]⟩, .int .i64 0, .int .i64 0, .bool false, .slice none 0 0, .slice none 0 0, .slice none 0 0, .slice none 0 0]) 8 136 Tryz.underlying33 hif hz0 hz1 hz2 (by rfl) (by decide) (.slice none 0 0) 0 [] (by rfl) (ESt.own (show ESt w g (.slice none 0 0) [] [] _ from (by first | ((repeat (first | with_reducible exact SM.out | with_reducible exact S1.out | with_reducible refine ESt.drew ?_ | with_reducible refine ESt.alloc ?_ _)); done) | fail))) _ 1 [.string r.name, .int .i64 r.kind, .int .i64 r.size, .bool r.little, .slice Ab r.bytes.length cb, .slice An r.names.length cn, .slice At r.tags.length ct, .slice Ak r.kids.length ck] (by rfl) (rd_lit8 wM [.string r.name, .int .i64 r.kind, .int .i64 r.size, .bool r.little, .slice Ab r.bytes.length cb, .slice An r.names.length cn, .slice At r.tags.length ct, .slice Ak r.kids.length ck] 30 rfl) ONE.out (by unfold maxLen; omega) (by omega) (ESt.size (show ESt w g (.slice none 0 0) [] [] _ from (by first | ((repeat (first | with_reducible exact SM.out | with_reducible exact S1.out | with_reducible refine ESt.drew ?_ | with_reducible refine ESt.alloc ?_ _)); done) | fail))) ?_; intro v8 w8 ho8 hg8 _; obtain ⟨A8, c8, rfl⟩ : ∃ A c, v8 = .slice A (0 + 1) c := (by obtain ⟨_, A, c, h, _⟩ := Rd.of_own ho8; exact ⟨A, c, h⟩); have B8 := (ESt.row (n := 0) (xs := []) (show ESt w g (.slice none 0 0) [] [] _ from (by first | ((repeat (first | with_reducible exact SM.out | with_reducible exact S1.out | with_reducible refine ESt.drew ?_ | with_reducible refine ESt.alloc ?_ _)); done) | fail)) hg8).1; have c8' : w8.cell? ⟨w.heap.size + 1, 0, none⟩ = some (.slice none 0 0) := B8.cell 0; have f8' : w8.frozen? ⟨w.heap.size + 1, 0, none⟩ = false := B8.frozen 0; have P8 := Lib.hid (ESt.push (show ESt w g (.slice none 0 0) [] [] wM from SM.out) H4.out HLT.out SZC.out ho8 hg8); clear B8 ho8 hg8)
          | (go_simp; go_at_call 95; refine (s_l4Make g _ [] _ 1 (by decide) (fun _ => rfl) DRL.out (by decide) _ (ESt.cur (show ESt w g (.slice none 0 0) [] [] _ from (by first | ((repeat (first | with_reducible exact SM.out | with_reducible exact S1.out | with_reducible refine ESt.drew ?_ | with_reducible refine ESt.alloc ?_ _)); done) | fail))) (ESt.rules (show ESt w g (.slice none 0 0) [] [] _ from (by first | ((repeat (first | with_reducible exact SM.out | with_reducible exact S1.out | with_reducible refine ESt.drew ?_ | with_reducible refine ESt.alloc ?_ _)); done) | fail)))).mono ?_; intro e wM hDR; obtain ⟨r, Ab, cb, An, cn, At, ct, Ak, ck, rfl, h4, hdr, hcM, hgM⟩ := hDR.parts; clear hDR; have HDR := Lib.hid hdr; have HLT := Lib.hid (ESt.blt (show ESt w g (.slice none 0 0) [] [] _ from (by first | ((repeat (first | with_reducible exact SM.out | with_reducible exact S1.out | with_reducible refine ESt.drew ?_ | with_reducible refine ESt.alloc ?_ _)); done) | fail))); have SZC := Lib.hid (ESt.size (show ESt w g (.slice none 0 0) [] [] _ from (by first | ((repeat (first | with_reducible exact SM.out | with_reducible exact S1.out | with_reducible refine ESt.drew ?_ | with_reducible refine ESt.alloc ?_ _)); done) | fail))); have SM := Lib.hid (ESt.go (show ESt w g (.slice none 0 0) [] [] _ from (by first | ((repeat (first | with_reducible exact SM.out | with_reducible exact S1.out | with_reducible refine ESt.drew ?_ | with_reducible refine ESt.alloc ?_ _)); done) | fail)) hgM hcM); have H4 := Lib.hid h4; have ONE : Hid (∀ u ∈ ([.string r.name, .int .i64 r.kind, .int .i64 r.size, .bool r.little, .slice Ab r.bytes.length cb, .slice An r.names.length cn, .slice At r.tags.length ct, .slice Ak r.kids.length ck] : List Value), u.oneCell' = true) := rule_oneCell h4.own; have xM : wM.cell? ⟨w.heap.size + 1, 0, none⟩ = some (.slice none 0 0) := SM.out.d.cell 0; have xM2 : (wM.alloc (.cells #[.string r.name, .int .i64 r.kind, .int .i64 r.size, .bool r.little, .slice Ab r.bytes.length cb, .slice An r.names.length cn, .slice At r.tags.length ct, .slice Ak r.kids.length ck] 30)).cell? ⟨w.heap.size + 1, 0, none⟩ = some (.slice none 0 0) := (SM.out.d.alloc _).cell 0; clear h4 hdr hcM hgM)
          | fail)
    all_goals
      go_wp2_with fail
      go_meet
      obtain ⟨css', h⟩ := P8.out
      exact ⟨r, A8, c8, css', HDR.out, h⟩
  case rest =>
    obtain ⟨r0, A0, c0, css0, hdr0, hst0⟩ := hcut
    rename World => w2
    have S2 := Lib.hid hst0
    have DR0 := Lib.hid (Drawn.nil.push hdr0 (fun _ => rfl) (by decide))
    clear hdr0 hst0 x1
    go_wp2_with fail
    refine (s_l1Below g 6 (by omega) _ S2.out.cur).mono ?_
    rintro e w3 ⟨x0, rfl, ⟨hx1, hx2, _⟩, hc3, hg3⟩
    have hx3 := hx2 (by omega)
    have S3 := Lib.hid (S2.out.go hg3 hc3)
    obtain ⟨m, hm⟩ : ∃ m : Nat, (m : Int) = x0 := ⟨x0.toNat, by omega⟩
    have hm5 : m ≤ 5 := by omega
    subst hm
    clear hx2 hc3 hg3 hx3 hx1
    go_wp2_with fail
    go_loopw [4] (fun i wr => ∃ (q : Nat) (l : List RuleD) (css : List (List Value)) (v : Value), i = .int .i64 q ∧ q + l.length ≤ 6 ∧ 1 ≤ l.length ∧ Drawn l ∧ ESt w g v l css wr) (fun i _ => (intOf i).toNat)
    case atStart => exact ⟨m, [] ++ [r0], css0, _, rfl, by simp; omega, by simp, DR0.out, S3.out⟩
    case round =>
      obtain ⟨q, l, css, v, rfl, hql, hl1, hdr, hst⟩ := hrel
      obtain ⟨Ao, co, rfl⟩ : ∃ A c, v = .slice A l.length c := by
        obtain ⟨A, c, h, _⟩ := hst.rules.rd
        exact ⟨A, c, h⟩
      have DRL := Lib.hid hdr
      have SR := Lib.hid hst
      clear hdr hst
      by_cases hq : 0 < q
      · have hq0 : (0 : Int) < (q : Int) := by omega
        have hq64 : (q : Int) ≤ 6 := by omega
        have xr : wr.cell? ⟨w.heap.size + 1, 0, none⟩ = some (.slice Ao l.length co) := SR.out.d.cell 0
        obtain ⟨i, rfl⟩ : ∃ i, q = i + 1 := ⟨q - 1, by omega⟩
        go_wp2_with fail
        go_region_law
          (first
          | (refine step_append_rd _ (by rfl) (.tmp 21) (.tmp 28) 33 (by rfl) (w.heap.size + 1 + 1) 30 i0 (.agg #[.string ⟨#[]⟩, .int .i64 0, .int .i64 0, .bool false, .slice none 0 0, .slice none 0 0, .slice none 0 0, .slice none 0 0]) 8 136 Tryz.underlying33 hif hz0 hz1 hz2 (by rfl) (by decide) (.slice Ao l.length co) l.length css.flatten (by rfl) (ESt.own (show ESt w g (.slice Ao l.length co) l css _ from (by first | ((repeat (first | with_reducible exact SM.out | with_reducible exact SB.out | with_reducible exact SR.out | with_reducible refine ESt.drew ?_ | with_reducible refine ESt.alloc ?_ _)); done) | fail))) _ 1 [.string r.name, .int .i64 r.kind, .int .i64 r.size, .bool r.little, .slice Ab r.bytes.length cb, .slice An r.names.length cn, .slice At r.tags.length ct, .slice Ak r.kids.length ck] (by rfl) (rd_lit8 wM [.string r.name, .int .i64 r.kind, .int .i64 r.size, .bool r.little, .slice Ab r.bytes.length cb, .slice An r.names.length cn, .slice At r.tags.length ct, .slice Ak r.kids.length ck] 30 rfl) ONE.out (by unfold maxLen; omega) (by omega) (ESt.size (show ESt w g (.slice Ao l.length co) l css _ from (by first | ((repeat (first | with_reducible exact SM.out | with_reducible exact SB.out | with_reducible exact SR.out | with_reducible refine ESt.drew ?_ | with_reducible refine ESt.alloc ?_ _)); done) | fail))) ?_; intro v8 w8 ho8 hg8 _; obtain ⟨A8, c8, rfl⟩ : ∃ A c, v8 = .slice A (l.length + 1) c := (by obtain ⟨_, A, c, h, _⟩ := Rd.of_own ho8; exact ⟨A, c, h⟩); have B8 := (ESt.row (n := 0) (xs := []) (show ESt w g (.slice Ao l.length co) l css _ from (by first | ((repeat (first | with_reducible exact SM.out | with_reducible exact SB.out | with_reducible exact SR.out | with_reducible refine ESt.drew ?_ | with_reducible refine ESt.alloc ?_ _)); done) | fail)) hg8).1; have c8' : w8.cell? ⟨w.heap.size + 1, 0, none⟩ = some (.slice Ao l.length co) := B8.cell 0; have f8' : w8.frozen? ⟨w.heap.size + 1, 0, none⟩ = false := B8.frozen 0; have P8 := Lib.hid (ESt.push (show ESt w g (.slice Ao l.length co) l css wM from SM.out) H4.out HLT.out SZC.out ho8 hg8); clear B8 ho8 hg8)
          | (go_simp; go_at_call 95; refine (s_l4Make g _ l _ (1 + y) (by omega) (fun h => by omega) DRL.out (by omega) _ (ESt.cur (show ESt w g (.slice Ao l.length co) l css _ from (by first | ((repeat (first | with_reducible exact SM.out | with_reducible exact SB.out | with_reducible exact SR.out | with_reducible refine ESt.drew ?_ | with_reducible refine ESt.alloc ?_ _)); done) | fail))) (ESt.rules (show ESt w g (.slice Ao l.length co) l css _ from (by first | ((repeat (first | with_reducible exact SM.out | with_reducible exact SB.out | with_reducible exact SR.out | with_reducible refine ESt.drew ?_ | with_reducible refine ESt.alloc ?_ _)); done) | fail)))).mono ?_; intro e wM hDR; obtain ⟨r, Ab, cb, An, cn, At, ct, Ak, ck, rfl, h4, hdr, hcM, hgM⟩ := hDR.parts; clear hDR; have HDR := Lib.hid hdr; have HLT := Lib.hid (ESt.blt (show ESt w g (.slice Ao l.length co) l css _ from (by first | ((repeat (first | with_reducible exact SM.out | with_reducible exact SB.out | with_reducible exact SR.out | with_reducible refine ESt.drew ?_ | with_reducible refine ESt.alloc ?_ _)); done) | fail))); have SZC := Lib.hid (ESt.size (show ESt w g (.slice Ao l.length co) l css _ from (by first | ((repeat (first | with_reducible exact SM.out | with_reducible exact SB.out | with_reducible exact SR.out | with_reducible refine ESt.drew ?_ | with_reducible refine ESt.alloc ?_ _)); done) | fail))); have SM := Lib.hid (ESt.go (show ESt w g (.slice Ao l.length co) l css _ from (by first | ((repeat (first | with_reducible exact SM.out | with_reducible exact SB.out | with_reducible exact SR.out | with_reducible refine ESt.drew ?_ | with_reducible refine ESt.alloc ?_ _)); done) | fail)) hgM hcM); have H4 := Lib.hid h4; have ONE : Hid (∀ u ∈ ([.string r.name, .int .i64 r.kind, .int .i64 r.size, .bool r.little, .slice Ab r.bytes.length cb, .slice An r.names.length cn, .slice At r.tags.length ct, .slice Ak r.kids.length ck] : List Value), u.oneCell' = true) := rule_oneCell h4.own; have xM : wM.cell? ⟨w.heap.size + 1, 0, none⟩ = some (.slice Ao l.length co) := SM.out.d.cell 0; have xM2 : (wM.alloc (.cells #[.string r.name, .int .i64 r.kind, .int .i64 r.size, .bool r.little, .slice Ab r.bytes.length cb, .slice An r.names.length cn, .slice At r.tags.length ct, .slice Ak r.kids.length ck] 30)).cell? ⟨w.heap.size + 1, 0, none⟩ = some (.slice Ao l.length co) := (SM.out.d.alloc _).cell 0; clear h4 hdr hcM hgM)
          | (go_simp; go_at_call 96; refine (s_l1Below g 10 (by omega) _ (ESt.cur (show ESt w g (.slice Ao l.length co) l css _ from (by first | ((repeat (first | with_reducible exact SM.out | with_reducible exact SR.out | with_reducible refine ESt.drew ?_ | with_reducible refine ESt.alloc ?_ _)); done) | fail)))).mono ?_; rintro e wB ⟨y, rfl, ⟨hy1, hy2, _⟩, hcB, hgB⟩; have hy3 := hy2 (by omega); have hyw : IntKind.i64.wrap (1 + y) = 1 + y := (by rw [IntKind.wrap_i64]; (first | omega | (unfold wrap64; omega))); have SB := Lib.hid (ESt.go (show ESt w g (.slice Ao l.length co) l css _ from (by first | ((repeat (first | with_reducible exact SM.out | with_reducible exact SR.out | with_reducible refine ESt.drew ?_ | with_reducible refine ESt.alloc ?_ _)); done) | fail)) hgB hcB); have xB : wB.cell? ⟨w.heap.size + 1, 0, none⟩ = some (.slice Ao l.length co) := SB.out.d.cell 0; clear hy2 hcB hgB)
          | fail)
        all_goals
          go_wp2_with fail
          go_roundw
          case rel =>
            obtain ⟨css', h⟩ := P8.out
            exact ⟨i, l ++ [r], css', _, by go_num, by simp; omega, by simp, DRL.out.push HDR.out (fun h => by omega) (by omega), by simpa using h⟩
          case measure => simp [intOf] <;> omega
      · obtain rfl : q = 0 := by omega
        have x0 : wr.cell? ⟨w.heap.size + 1, 0, none⟩ = some (.slice Ao l.length co) := SR.out.d.cell 0
        have z0 : wr.cell? ⟨w.heap.size, 0, none⟩ = some (.slice none 0 0) := SR.out.z.cell 0
        have q0 : wr.frozen? ⟨w.heap.size, 0, none⟩ = false := SR.out.z.frozen 0
        go_wp2_with fail
        refine bodyPost_ret (v := .agg #[.slice Ao l.length co]) (by simp [results, Tryz.results62, go_sem, z0]) rfl ?_
        exact ⟨Ao, co, l, rfl, (SR.out.rules.setFar w.heap.size 0 _ (by omega)).mono (by omega), DRL.out, hl1, by omega, Cur.new SR.out.cur hglt, grown_new SR.out.gb (Nat.le_refl _)⟩

def DrewD (w : World) (e : Ending) (w' : World) : Prop := ∃ A c l, e = .returned (.agg #[.slice A (l : List RuleD).length c]) ∧ OwnRules w' w.heap.size (.slice A l.length c) l ∧ Drawn l ∧ 1 ≤ l.length ∧ l.length ≤ 6 ∧ Below w.heap.size w w'

set_option maxHeartbeats 2000000 in
theorem s_DrawDescription (v : Value) (l : List UInt8) (hn : l.length ≤ 1048576) (w : World) (hr : Rd w v 1 l.length (cB l)) :
    Calls Tryz.prog 25 #[v] w (DrewD w) := by
  obtain ⟨w0, hw0⟩ : ∃ w0, w0 = w.alloc (.cells #[.slice none 0 0] 35) := ⟨_, rfl⟩
  have z0 : Box w0 w.heap.size 35 #[.slice none 0 0] := by rw [hw0]; exact Box.new w _ _
  have b0 : Below w.heap.size w w0 := by rw [hw0]; exact below_box
  have hr0 := hr.below b0
  have W0 := Lib.hid hw0
  have hlt0 := z0.lt
  have Z0 := Lib.hid z0
  have B0 := Lib.hid b0
  clear hw0 z0 b0
  go_enter Tryz.func25, Tryz.ntmps25
  go_wp2_with fail
  rw [← W0.out]
  refine (s_l1New v l hn _ hr0).mono ?_
  rintro e w1 ⟨g, rfl, hc1, hg1, hb1⟩
  go_wp2_with fail
  refine (s_l4Description g _ hc1).mono ?_
  rintro e w2 ⟨A, c, ld, rfl, ho, hd, h1, h6, hc2, hk2⟩
  have hle := hb1.size
  have z2 : Box w2 w.heap.size 35 #[.slice none 0 0] := (Z0.out.below hb1).grown hk2 (by intro e; injection e with e; omega)
  have B2 := Lib.hid (below_grown (Below.then_ B0.out hb1 (Nat.le_refl _)) hk2 (by omega) (by omega))
  have q2 : w2.frozen? ⟨w.heap.size, 0, none⟩ = false := z2.frozen 0
  have y2 : w2.cell? ⟨w.heap.size, 0, none⟩ = some (.slice none 0 0) := z2.cell 0
  have y3 : (w2.setCell ⟨w.heap.size, 0, none⟩ (.slice A ld.length c)).cell? ⟨w.heap.size, 0, none⟩ = some (.slice A ld.length c) := by have := (z2.set 0 (.slice A ld.length c)).cell 0; simpa using this
  have HO := Lib.hid ho
  clear hc2 hk2 hb1 ho z2
  go_wp2_with fail
  refine bodyPost_ret (v := .agg #[.slice A ld.length c]) (by simp [results, Tryz.results25, go_sem, y3]) rfl ?_
  exact ⟨A, c, ld, rfl, (HO.out.setFar w.heap.size 0 _ (by omega)).mono (by omega), hd, h1, h6, below_set B2.out (Nat.le_refl _) _⟩

end Go.Proofs.YtkjjgpkegihmhaaGreatDoor
