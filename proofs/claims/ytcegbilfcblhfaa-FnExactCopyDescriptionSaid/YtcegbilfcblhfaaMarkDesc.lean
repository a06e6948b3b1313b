/-
  markRuleS, markDescription: rules of the call's own are written over by marks.
-/
import Derived.Test.YtcegbilfcblhfaaRulesAt
import Derived.Test.YtcegbilfcblhfaaEqDesc
import Derived.Test.YtcegbilfcblhfaaMarkByte
import Derived.Test.YtcegbilfcblhfaaMarkString
import Derived.Test.YtcegbilfcblhfaaMarkInt
namespace Go.Proofs.Ytcegbilfcblhfaa
open Go.RowKit
set_option linter.unusedVariables false

def byteMarks (k n : Nat) : List UInt8 := (List.range n).map fun i => UInt8.ofNat ((k + i) % 256)
def textMarks (k n : Nat) : List ByteArray := (List.range n).map fun i => mkS (markT (k + i))
def intMarks (k n : Nat) : List Int := (List.range n).map fun i : Nat => ((k : Int) + (i : Int))
theorem byteMarks_len (k n : Nat) : (byteMarks k n).length = n := by simp [byteMarks]
theorem textMarks_len (k n : Nat) : (textMarks k n).length = n := by simp [textMarks]
theorem intMarks_len (k n : Nat) : (intMarks k n).length = n := by simp [intMarks]
theorem cB_marks (k n : Nat) : mkByte k n = cB (byteMarks k n) := by
  unfold mkByte cB byteMarks
  rw [List.map_map]
  refine List.map_congr_left fun i _ => ?_
  show Value.int .u8 (((k : Int) + (i : Int)) % 256) = .int .u8 ((UInt8.ofNat ((k + i) % 256)).toNat : Int)
  rw [UInt8.toNat_ofNat', Nat.mod_mod]
  congr 1
theorem cS_marks (k n : Nat) : mkString k n = cS (textMarks k n) := by
  unfold mkString cS textMarks
  rw [List.map_map]
  rfl
theorem cI_marks (k n : Nat) : mkInt k n = cI (intMarks k n) := by
  unfold mkInt cI intMarks
  rw [List.map_map]
  rfl

/-- A rule with its marks. -/
def markRule (k : Nat) (r : RuleD) : RuleD :=
  { name := mkS (markT k), kind := (k : Int) + 1, size := (k : Int) + 1 + 1, little := ((k : Int) + 1 + 1 + 1) % 3 == 0, bytes := byteMarks (k + 4) r.bytes.length, names := textMarks (k + 4 + r.bytes.length) r.names.length,
    tags := intMarks (k + 4 + r.bytes.length + r.names.length) r.tags.length, kids := intMarks (k + 4 + r.bytes.length + r.names.length + r.tags.length) r.kids.length }
def ruleCount (r : RuleD) : Nat := 4 + r.bytes.length + r.names.length + r.tags.length + r.kids.length
def countTo (l : List RuleD) (i : Nat) : Nat := ((l.take i).map ruleCount).sum
theorem countTo_step (l : List RuleD) (i : Nat) (h : i < l.length) : countTo l (i + 1) = countTo l i + ruleCount l[i] := by
  unfold countTo
  rw [List.take_succ_eq_append_getElem h, List.map_append, List.sum_append]
  simp
/-- The rules, those below i with their marks. -/
def markedTo (l : List RuleD) (k i : Nat) : List RuleD := (List.range l.length).map fun j => if j < i then markRule (k + countTo l j) (ruleAt l j) else ruleAt l j
theorem markedTo_len (l : List RuleD) (k i : Nat) : (markedTo l k i).length = l.length := by simp [markedTo]
theorem markedTo_zero (l : List RuleD) (k : Nat) : markedTo l k 0 = l := by
  apply List.ext_getElem?
  intro j
  unfold markedTo
  by_cases hj : j < l.length
  · simp [hj, ruleAt]
  · simp [hj]
theorem markedTo_at {l : List RuleD} {k i : Nat} (h : i < l.length) : (markedTo l k i)[i]? = some l[i] := by
  unfold markedTo
  simp [h, ruleAt]
theorem markedTo_step {l : List RuleD} {k i : Nat} (h : i < l.length) : (markedTo l k i).set i (markRule (k + countTo l i) l[i]) = markedTo l k (i + 1) := by
  apply List.ext_getElem?
  intro j
  by_cases hij : i = j
  · subst hij
    rw [List.getElem?_set_self (by rw [markedTo_len]; exact h)]
    unfold markedTo
    simp [h, ruleAt]
  · rw [List.getElem?_set_ne hij]
    unfold markedTo
    by_cases hj : j < l.length
    · simp only [List.getElem?_map, List.getElem?_range hj, Option.map_some]
      congr 1
      by_cases h1 : j < i
      · rw [if_pos h1, if_pos (by omega)]
      · rw [if_neg h1, if_neg (by omega)]
    · rw [List.getElem?_eq_none (by simp; omega), List.getElem?_eq_none (by simp; omega)]

section
variable {w w' : World} {lo hi g cap n : Nat} {css : List (List Value)} {rs : List RuleD}
theorem RulesAt.parts (h : RulesAt w lo hi g cap n css rs) {i : Nat} {r : RuleD} {vb vn vt vk : Value} (hi' : css[i]? = some (ruleCells r vb vn vt vk)) (hr : rs[i]? = some r) :
    w.ownsRow lo 5 1 vb r.bytes.length (cB r.bytes) ∧ w.ownsRow lo 9 1 vn r.names.length (cS r.names) ∧ w.ownsRow lo 3 1 vt r.tags.length (cI r.tags) ∧ w.ownsRow lo 3 1 vk r.kids.length (cI r.kids) := by
  obtain ⟨vb', vn', vt', vk', e, k1, k2, k3, k4⟩ := h.each i _ r hi' hr
  unfold ruleCells at e
  injection e with _ e; injection e with _ e; injection e with _ e; injection e with _ e; injection e with e1 e; injection e with e2 e; injection e with e3 e; injection e with e4 _
  subst e1; subst e2; subst e3; subst e4
  exact ⟨k1, k2, k3, k4⟩
theorem RulesAt.own_in (h : RulesAt w lo hi g cap n css rs) {i : Nat} {r : RuleD} {vb vn vt vk : Value} (hi' : css[i]? = some (ruleCells r vb vn vt vk)) (hr : rs[i]? = some r) :
    ∀ v ∈ [vb, vn, vt, vk], ∀ b, v.ownBlock = some b → lo ≤ b ∧ b < hi := by
  intro v hv b hb
  obtain ⟨k1, k2, k3, k4⟩ := h.parts hi' hr
  have hm : b ∈ blocks (ruleCells r vb vn vt vk) := by rw [blocks_rule]; exact List.mem_filterMap.2 ⟨v, hv, hb⟩
  refine ⟨?_, h.lt b (h.mem_blocks hi' b hm)⟩
  simp only [List.mem_cons, List.not_mem_nil, or_false] at hv
  rcases hv with rfl | rfl | rfl | rfl
  · exact (k1.lt b hb).1
  · exact (k2.lt b hb).1
  · exact (k3.lt b hb).1
  · exact (k4.lt b hb).1
theorem set_at {α : Type} {l : List α} {i : Nat} {x : α} (h : i < l.length) : (l.set i x)[i]? = some x := List.getElem?_set_self h
theorem RulesAt.lt_ (h : RulesAt w lo hi g cap n css rs) {i : Nat} {cs : List Value} (hi' : css[i]? = some cs) : i < n := by
  have := h.len
  have := (List.getElem?_eq_some_iff.1 hi').1
  omega
theorem RulesAt.store2 {i j : Nat} {r r' : RuleD} {vb vn vt vk u : Value} (h : RulesAt w lo hi g cap n css (rs.set i r)) (hj : j < 8) (hi' : css[i]? = some (ruleCells r vb vn vt vk))
    (hset : (ruleCells r vb vn vt vk).set j u = ruleCells r' vb vn vt vk) (h1 : r'.bytes = r.bytes) (h2 : r'.names = r.names) (h3 : r'.tags = r.tags) (h4 : r'.kids = r.kids) :
    (∃ css2, css2[i]? = some (ruleCells r' vb vn vt vk) ∧ RulesAt (w.setCell ⟨g, i * 8 + j, none⟩ u) lo hi g cap n css2 (rs.set i r')) ∧ Within lo hi w (w.setCell ⟨g, i * 8 + j, none⟩ u) := by
  have hil := h.lt_ hi'
  have hl : i < rs.length := by have := h.rlen; simp at this; omega
  obtain ⟨a, b⟩ := h.store hj hi' (set_at hl) hset h1 h2 h3 h4
  rw [List.set_set] at a
  refine ⟨⟨_, set_at (by have := h.len; omega), a⟩, Within.of_grown b (fun k hk => ?_)⟩
  cases hk
  exact ⟨h.glo, h.ghi⟩
theorem RulesAt.bytes2 {i : Nat} {r : RuleD} {vb vn vt vk : Value} (h : RulesAt w lo hi g cap n css (rs.set i r)) (hi' : css[i]? = some (ruleCells r vb vn vt vk)) (xs : List UInt8) (hx : xs.length = r.bytes.length)
    (ho : w'.ownsRow lo 5 1 vb r.bytes.length (cB xs)) (hg : w.grownBy w' vb.ownBlock) :
    RulesAt w' lo hi g cap n css (rs.set i { r with bytes := xs }) ∧ css[i]? = some (ruleCells { r with bytes := xs } vb vn vt vk) ∧ Within lo hi w w' := by
  have hil := h.lt_ hi'
  have hl : i < rs.length := by have := h.rlen; simp at this; omega
  have a := h.bytes hi' (set_at hl) xs hx ho hg
  rw [List.set_set] at a
  exact ⟨a, hi', Within.of_grown hg (fun b hb => h.own_in hi' (set_at hl) vb (by simp) b hb)⟩
theorem RulesAt.names2 {i : Nat} {r : RuleD} {vb vn vt vk : Value} (h : RulesAt w lo hi g cap n css (rs.set i r)) (hi' : css[i]? = some (ruleCells r vb vn vt vk)) (xs : List ByteArray) (hx : xs.length = r.names.length)
    (ho : w'.ownsRow lo 9 1 vn r.names.length (cS xs)) (hg : w.grownBy w' vn.ownBlock) :
    RulesAt w' lo hi g cap n css (rs.set i { r with names := xs }) ∧ css[i]? = some (ruleCells { r with names := xs } vb vn vt vk) ∧ Within lo hi w w' := by
  have hil := h.lt_ hi'
  have hl : i < rs.length := by have := h.rlen; simp at this; omega
  have a := h.names hi' (set_at hl) xs hx ho hg
  rw [List.set_set] at a
  exact ⟨a, hi', Within.of_grown hg (fun b hb => h.own_in hi' (set_at hl) vn (by simp) b hb)⟩
theorem RulesAt.tags2 {i : Nat} {r : RuleD} {vb vn vt vk : Value} (h : RulesAt w lo hi g cap n css (rs.set i r)) (hi' : css[i]? = some (ruleCells r vb vn vt vk)) (xs : List Int) (hx : xs.length = r.tags.length)
    (ho : w'.ownsRow lo 3 1 vt r.tags.length (cI xs)) (hg : w.grownBy w' vt.ownBlock) :
    RulesAt w' lo hi g cap n css (rs.set i { r with tags := xs }) ∧ css[i]? = some (ruleCells { r with tags := xs } vb vn vt vk) ∧ Within lo hi w w' := by
  have hil := h.lt_ hi'
  have hl : i < rs.length := by have := h.rlen; simp at this; omega
  have a := h.tags hi' (set_at hl) xs hx ho hg
  rw [List.set_set] at a
  exact ⟨a, hi', Within.of_grown hg (fun b hb => h.own_in hi' (set_at hl) vt (by simp) b hb)⟩
theorem RulesAt.kids2 {i : Nat} {r : RuleD} {vb vn vt vk : Value} (h : RulesAt w lo hi g cap n css (rs.set i r)) (hi' : css[i]? = some (ruleCells r vb vn vt vk)) (xs : List Int) (hx : xs.length = r.kids.length)
    (ho : w'.ownsRow lo 3 1 vk r.kids.length (cI xs)) (hg : w.grownBy w' vk.ownBlock) :
    RulesAt w' lo hi g cap n css (rs.set i { r with kids := xs }) ∧ css[i]? = some (ruleCells { r with kids := xs } vb vn vt vk) ∧ Within lo hi w w' := by
  have hil := h.lt_ hi'
  have hl : i < rs.length := by have := h.rlen; simp at this; omega
  have a := h.kids hi' (set_at hl) xs hx ho hg
  rw [List.set_set] at a
  exact ⟨a, hi', Within.of_grown hg (fun b hb => h.own_in hi' (set_at hl) vk (by simp) b hb)⟩
end

set_option maxHeartbeats 8000000 in
theorem l_markRuleS (lo hi g cap : Nat) (css : List (List Value)) (l : List RuleD) (k : Nat) (hk : k + countTo l l.length ≤ 1099511627776) (hcap : l.length ≤ cap ∧ cap ≤ maxLen) (w : World) (h : RulesAt w lo hi g cap l.length css l) :
    Calls Try.prog 57 #[.slice (some ⟨g, 0, none⟩) l.length cap, .int .i64 (k : Int)] w
      fun e w' => e = .returned (.int .i64 ((k + countTo l l.length : Nat) : Int)) ∧ (∃ css', RulesAt w' lo hi g cap l.length css' (markedTo l k l.length)) ∧ Within lo hi w w' := by
  obtain ⟨hc1, hc2⟩ := hcap
  unfold maxLen at hc2
  have H := Lib.hid h
  clear h
  obtain ⟨n, hn⟩ : ∃ n, n = l.length := ⟨_, rfl⟩
  have HN := Lib.hid hn
  have cle : ∀ i, i ≤ n → countTo l i ≤ countTo l l.length := by
    intro i hi
    have : ∀ d i, i + d = n → countTo l i ≤ countTo l l.length := by
      intro d
      induction d with
      | zero => intro i hi; rw [← hn, ← hi]; exact Nat.le_refl _
      | succ d ih =>
        intro i hi
        have h1 := ih (i + 1) (by omega)
        rw [countTo_step l i (by omega)] at h1
        omega
    exact this (n - i) i (by omega)
  have CLE := Lib.hid cle
  have HK := Lib.hid hk
  rw [← hn] at hc1 ⊢
  clear hn cle hk
  go_enter Try.func57, Try.ntmps57
  go_wp2_with fail
  go_loopw [1, 5] (fun c i wr => ∃ j : Nat, ∃ q : Nat, j ≤ n ∧ i = .int .i64 j ∧ c = .int .i64 (q : Int) ∧ q = k + countTo l j ∧ (∃ css', RulesAt wr lo hi g cap n css' (markedTo l k j)) ∧ Within lo hi w wr) (fun _ i _ => n - (intOf i).toNat)
  case atStart => exact ⟨0, k, Nat.zero_le _, rfl, rfl, by simp [countTo], ⟨css, by rw [markedTo_zero, HN.out]; exact H.out⟩, Within.refl _ _ _⟩
  case round =>
    obtain ⟨j, q, hj, rfl, rfl, hq, ⟨css', hra⟩, hwi⟩ := hrel
    by_cases hlt : j < n
    · have hjl : j < l.length := by rw [← HN.out]; exact hlt
      have hst := countTo_step l j hjl
      have hle := CLE.out (j + 1) (by omega)
      have hbound := HK.out
      obtain ⟨r, hr0⟩ : ∃ r, r = l[j] := ⟨_, rfl⟩
      have hrj : (markedTo l k j)[j]? = some r := by rw [markedTo_at hjl, hr0]
      rw [← hr0] at hst
      unfold ruleCount at hst
      have hqb : q + 4 + r.bytes.length + r.names.length + r.tags.length + r.kids.length ≤ 1099511627776 := by omega
      obtain ⟨vb, vn, vt, vk, hcs, ob, on, ot, ok⟩ := hra.slots hrj
      have HRA := Lib.hid hra
      have HWI := Lib.hid hwi
      have HST := Lib.hid hst
      have HQ := Lib.hid hq
      have HCS := Lib.hid hcs
      have HRJ := Lib.hid hrj
      have HR0 := Lib.hid hr0
      have HLT := Lib.hid hjl
      clear hst hle hbound hq hcs ob on ot ok hra hwi hrj hr0
      go_wp2_with fail
      refine (l_markText _ (by omega) (by omega) _).mono ?_
      rw [show ((q : Nat) : Int).toNat = q from by omega]
      rintro e w1 ⟨rfl, hb1⟩
      have ra1 := HRA.out.below hb1
      have HW1 := Lib.hid (HWI.out.trans (Within.of_below hb1))
      obtain ⟨a0, f0⟩ := ra1.cell HCS.out 0 (by omega)
      obtain ⟨a1, f1⟩ := ra1.cell HCS.out 1 (by omega)
      obtain ⟨a2, f2⟩ := ra1.cell HCS.out 2 (by omega)
      obtain ⟨a3, f3⟩ := ra1.cell HCS.out 3 (by omega)
      obtain ⟨a4, f4⟩ := ra1.cell HCS.out 4 (by omega)
      have b0 : w1.cell? ⟨g, j * 8, none⟩ = some (.string r.name) := a0
      have b1 : w1.cell? ⟨g, j * 8 + 1, none⟩ = some (.int .i64 r.kind) := a1
      have b2 : w1.cell? ⟨g, j * 8 + 2, none⟩ = some (.int .i64 r.size) := a2
      have b3 : w1.cell? ⟨g, j * 8 + 3, none⟩ = some (.bool r.little) := a3
      have b4 : w1.cell? ⟨g, j * 8 + 4, none⟩ = some vb := a4
      have g0 : w1.frozen? ⟨g, j * 8, none⟩ = false := f0
      have ra0 : RulesAt w1 lo hi g cap n css' ((markedTo l k j).set j r) := by
        have e : (markedTo l k j).set j r = markedTo l k j := by
          obtain ⟨h1, h2⟩ := List.getElem?_eq_some_iff.1 HRJ.out
          rw [← h2, List.set_getElem_self]
        rw [e]; exact ra1
      obtain ⟨⟨cs0, hc0, ra0⟩, wi0⟩ := ra0.store2 (j := 0) (r' := { r with name := mkS (markT q) }) (u := .string (mkS (markT q))) (by omega) HCS.out rfl rfl rfl rfl rfl
      obtain ⟨⟨cs1, hc1', ra2⟩, wi1⟩ := ra0.store2 (j := 1) (r' := { r with name := mkS (markT q), kind := (q : Int) + 1 }) (u := .int .i64 ((q : Int) + 1)) (by omega) hc0 rfl rfl rfl rfl rfl
      obtain ⟨⟨cs2, hc2', ra3⟩, wi2⟩ := ra2.store2 (j := 2) (r' := { r with name := mkS (markT q), kind := (q : Int) + 1, size := (q : Int) + 1 + 1 }) (u := .int .i64 ((q : Int) + 1 + 1)) (by omega) hc1' rfl rfl rfl rfl rfl
      obtain ⟨⟨cs3, hc3', ra4⟩, wi3⟩ := ra3.store2 (j := 3) (r' := { r with name := mkS (markT q), kind := (q : Int) + 1, size := (q : Int) + 1 + 1, little := ((q : Int) + 1 + 1 + 1) % 3 == 0 }) (u := .bool (((q : Int) + 1 + 1 + 1) % 3 == 0)) (by omega) hc2' rfl rfl rfl rfl rfl
      obtain ⟨w2, hw2⟩ : ∃ w2, w2 = (((w1.setCell ⟨g, j * 8, none⟩ (.string (mkS (markT q)))).setCell ⟨g, j * 8 + 1, none⟩ (.int .i64 ((q : Int) + 1))).setCell ⟨g, j * 8 + 2, none⟩ (.int .i64 ((q : Int) + 1 + 1))).setCell ⟨g, j * 8 + 3, none⟩ (.bool (((q : Int) + 1 + 1 + 1) % 3 == 0)) := ⟨_, rfl⟩
      have ra5 : RulesAt w2 lo hi g cap n cs3 ((markedTo l k j).set j { r with name := mkS (markT q), kind := (q : Int) + 1, size := (q : Int) + 1 + 1, little := ((q : Int) + 1 + 1 + 1) % 3 == 0 }) := by rw [hw2]; exact ra4
      have wi5 : Within lo hi w w2 := by rw [hw2]; exact (((HW1.out.trans wi0).trans wi1).trans wi2).trans wi3
      have HW2 := Lib.hid hw2
      have RA5 := Lib.hid ra5
      have WI5 := Lib.hid wi5
      have HC3 := Lib.hid hc3'
      have hml : j < (markedTo l k j).length := by rw [markedTo_len]; exact hjl
      have HML := Lib.hid hml
      clear a0 a1 a2 a3 a4 f0 f4 hb1 ra1 ra0 ra2 ra3 ra4 ra5 wi0 wi1 wi2 wi3 wi5 hc0 hc1' hc2' hc3' hw2 hml
      go_wp2_with fail
      rw [← HW2.out]
      obtain ⟨p01, p02, p03, p04⟩ := RA5.out.parts HC3.out (set_at HML.out)
      have M0 := l_markByteS vb lo (q + 4) r.bytes.length _ (by omega) w2 p01
      obtain ⟨z0, hz0⟩ : ∃ z : Int, z = (((q + 4 : Nat) : Int) + (r.bytes.length : Int)) := ⟨_, rfl⟩
      rw [cB_marks, ← hz0, show (((q + 4 : Nat) : Int)) = ((q : Int) + 1 + 1 + 1 + 1) from by omega] at M0
      have HM0 := Lib.hid M0
      have HZ0 := Lib.hid hz0
      clear p01 p02 p03 p04 M0 hz0
      refine HM0.out.mono ?_
      rintro e w3 ⟨rfl, ho0, hg0⟩
      obtain ⟨rb0, rc0, rw0⟩ := RA5.out.bytes2 HC3.out (byteMarks (q + 4) r.bytes.length) (byteMarks_len _ _) ho0 hg0
      obtain ⟨x0, y0⟩ := rb0.cell rc0 5 (by omega)
      have e0 : w3.cell? ⟨g, j * 8 + 5, none⟩ = some vn := x0
      have RB0 := Lib.hid rb0
      have RC0 := Lib.hid rc0
      have RW0 := Lib.hid (WI5.out.trans rw0)
      clear rb0 rc0 rw0 ho0 hg0 x0 y0
      go_wp2_with fail
      obtain ⟨p11, p12, p13, p14⟩ := RB0.out.parts RC0.out (set_at HML.out)
      have M1 := l_markStringS vn lo (q + 4 + r.bytes.length) r.names.length _ (by omega) w3 p12
      obtain ⟨z1, hz1⟩ : ∃ z : Int, z = (((q + 4 + r.bytes.length : Nat) : Int) + (r.names.length : Int)) := ⟨_, rfl⟩
      rw [cS_marks, ← hz1, show (((q + 4 + r.bytes.length : Nat) : Int)) = z0 from by rw [HZ0.out]; omega] at M1
      have HM1 := Lib.hid M1
      have HZ1 := Lib.hid hz1
      clear p11 p12 p13 p14 M1 hz1
      refine HM1.out.mono ?_
      rintro e w4 ⟨rfl, ho1, hg1⟩
      obtain ⟨rb1, rc1, rw1⟩ := RB0.out.names2 RC0.out (textMarks (q + 4 + r.bytes.length) r.names.length) (textMarks_len _ _) ho1 hg1
      obtain ⟨x1, y1⟩ := rb1.cell rc1 6 (by omega)
      have e1 : w4.cell? ⟨g, j * 8 + 6, none⟩ = some vt := x1
      have RB1 := Lib.hid rb1
      have RC1 := Lib.hid rc1
      have RW1 := Lib.hid (RW0.out.trans rw1)
      clear rb1 rc1 rw1 ho1 hg1 x1 y1
      go_wp2_with fail
      obtain ⟨p21, p22, p23, p24⟩ := RB1.out.parts RC1.out (set_at HML.out)
      have M2 := l_markIntS vt lo (q + 4 + r.bytes.length + r.names.length) r.tags.length _ (by omega) w4 p23
      obtain ⟨z2, hz2⟩ : ∃ z : Int, z = (((q + 4 + r.bytes.length + r.names.length : Nat) : Int) + (r.tags.length : Int)) := ⟨_, rfl⟩
      rw [cI_marks, ← hz2, show (((q + 4 + r.bytes.length + r.names.length : Nat) : Int)) = z1 from by rw [HZ1.out]; omega] at M2
      have HM2 := Lib.hid M2
      have HZ2 := Lib.hid hz2
      clear p21 p22 p23 p24 M2 hz2
      refine HM2.out.mono ?_
      rintro e w5 ⟨rfl, ho2, hg2⟩
      obtain ⟨rb2, rc2, rw2⟩ := RB1.out.tags2 RC1.out (intMarks (q + 4 + r.bytes.length + r.names.length) r.tags.length) (intMarks_len _ _) ho2 hg2
      obtain ⟨x2, y2⟩ := rb2.cell rc2 7 (by omega)
      have e2 : w5.cell? ⟨g, j * 8 + 7, none⟩ = some vk := x2
      have RB2 := Lib.hid rb2
      have RC2 := Lib.hid rc2
      have RW2 := Lib.hid (RW1.out.trans rw2)
      clear rb2 rc2 rw2 ho2 hg2 x2 y2
      go_wp2_with fail
      obtain ⟨p31, p32, p33, p34⟩ := RB2.out.parts RC2.out (set_at HML.out)
      have M3 := l_markIntS vk lo (q + 4 + r.bytes.length + r.names.length + r.tags.length) r.kids.length _ (by omega) w5 p34
      obtain ⟨z3, hz3⟩ : ∃ z : Int, z = (((q + 4 + r.bytes.length + r.names.length + r.tags.length : Nat) : Int) + (r.kids.length : Int)) := ⟨_, rfl⟩
      rw [cI_marks, ← hz3, show (((q + 4 + r.bytes.length + r.names.length + r.tags.length : Nat) : Int)) = z2 from by rw [HZ2.out]; omega] at M3
      have HM3 := Lib.hid M3
      have HZ3 := Lib.hid hz3
      clear p31 p32 p33 p34 M3 hz3
      refine HM3.out.mono ?_
      rintro e w6 ⟨rfl, ho3, hg3⟩
      obtain ⟨rb3, rc3, rw3⟩ := RB2.out.kids2 RC2.out (intMarks (q + 4 + r.bytes.length + r.names.length + r.tags.length) r.kids.length) (intMarks_len _ _) ho3 hg3
      have RB3 := Lib.hid rb3
      have RC3 := Lib.hid rc3
      have RW3 := Lib.hid (RW2.out.trans rw3)
      clear rb3 rc3 rw3 ho3 hg3
      go_wp2_with fail
      go_roundw
      case rel =>
        refine ⟨j + 1, q + 4 + r.bytes.length + r.names.length + r.tags.length + r.kids.length, by omega, by go_num, ?_, ?_, ⟨cs3, ?_⟩, RW3.out⟩
        · rw [HZ3.out]; simp
        · have := HST.out; have := HQ.out; omega
        · have h := RB3.out
          have e : markRule (k + countTo l j) l[j] = _ := rfl
          rw [← markedTo_step HLT.out, ← HR0.out, ← HQ.out]
          exact h
      case measure => simp [intOf]; omega
    · obtain rfl : j = n := by omega
      have HRA := Lib.hid hra
      have HWI := Lib.hid hwi
      have HQ := Lib.hid hq
      clear hra hwi hq
      go_wp2_with fail
      go_ret
      refine ⟨ret_int (by rw [HQ.out, HN.out]), ⟨css', ?_⟩, HWI.out⟩
      have h := HRA.out
      rwa [show markedTo l k j = markedTo l k l.length from by rw [HN.out]] at h

end Go.Proofs.Ytcegbilfcblhfaa
