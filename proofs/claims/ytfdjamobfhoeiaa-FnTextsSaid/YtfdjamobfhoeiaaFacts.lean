/-
  Facts on the loaded program as a whole, each closed: they are shared by the rows of all laws.
  The words at the head of the translation are read off one word at a time, so that the rest of that long text is never looked at.
-/
import Derived.Test.YtfdjamobfhoeiaaChecked
import Derived.KernelRfl
import Derived.JoinedOf
import Derived.ProofKit
namespace Go.Proofs.Ytfdjamobfhoeiaa
set_option maxRecDepth 100000

theorem own : ownKnob Try.prog.godebug = none := by kernel_rfl
theorem laidOut : laidOutB Try.prog = true := by kernel_rfl

def takeWord : List Char → List Char × Option (List Char)
  | [] => ([], none)
  | c :: r => if c = Char.ofNat 32 then ([], some r) else (c :: (takeWord r).1, (takeWord r).2)

theorem words_take (l : List Char) : wordsSigns l = (takeWord l).1 :: (match (takeWord l).2 with | none => [] | some r => wordsSigns r) := by
  induction l with
  | nil => rfl
  | cons c r ih =>
    by_cases hc : c = Char.ofNat 32
    · subst hc; rfl
    · have e : wordsSigns (c :: r) = match wordsSigns r with | x :: ws => (c :: x) :: ws | [] => [[c]] := by
        rw [wordsSigns]
        · cases wordsSigns r <;> rfl
        · exact fun h => hc h
      rw [e, ih, takeWord, if_neg hc]

/-- The head: a word, a sum, the word 'cut', more. -/
def headOk (l : List Char) : Bool :=
  ((takeWord l).1 == "harness".toList) &&
    match (takeWord l).2 with
    | none => false
    | some r => isSumSigns (takeWord r).1 && match (takeWord r).2 with
      | none => false
      | some s => (takeWord s).1 == "cut".toList

theorem head_cut {l : List Char} (h : headOk l = true) : ∃ rest, behindMainWord (wordsSigns l) = "cut".toList :: rest := by
  unfold headOk at h
  simp only [Bool.and_eq_true] at h
  obtain ⟨h1, h⟩ := h
  cases e1 : (takeWord l).2 with
  | none => rw [e1] at h; cases h
  | some r =>
    rw [e1] at h
    simp only [Bool.and_eq_true] at h
    obtain ⟨h2, h⟩ := h
    cases e2 : (takeWord r).2 with
    | none => rw [e2] at h; cases h
    | some s =>
      rw [e2] at h
      have h3 : (takeWord s).1 = "cut".toList := by simpa using h
      refine ⟨(match (takeWord s).2 with | none => [] | some t => wordsSigns t), ?_⟩
      rw [words_take l, e1]
      simp only
      rw [words_take r, e2]
      simp only
      rw [behindMainWord, if_pos (by rw [Bool.and_eq_true]; exact ⟨by rw [h1]; rfl, h2⟩), words_take s, h3]

set_option maxRecDepth 100000 in
theorem init_list : ∃ l, Try.prog.initOrder = String.ofList l ∧ headOk l = true := ⟨_, rfl, by kernel_rfl⟩

theorem headWords : ∃ rest, behindMainWord (wordsSigns Try.prog.initOrder.toList) = "cut".toList :: rest := by
  obtain ⟨l, e, h⟩ := init_list
  rw [e, String.toList_ofList]
  exact head_cut h

theorem strip_cut (rest : List (List Char)) : stripLifts liftWords ("cut".toList :: rest) = ([], "cut".toList :: rest) := by
  simp [liftWords, stripLifts]

theorem laysLater : Try.prog.laysLater = false := by kernel_rfl
theorem bearsReflect : Try.prog.bearsReflect = false := by kernel_rfl
theorem doorFits : Try.prog.doorFits [] = true := by kernel_rfl

theorem mayEnter : Try.prog.mayEnter = true := by
  obtain ⟨rest, e⟩ := headWords
  unfold Program.mayEnter
  rw [e]
  simp only [strip_cut]
  rw [laysLater, bearsReflect, doorFits]
  rfl

theorem headLifts : Try.prog.headLifts = [] := by
  obtain ⟨rest, e⟩ := headWords
  unfold Program.headLifts
  rw [e]
  simp only [strip_cut]
  split <;> rfl

theorem liftsFinal : Try.prog.liftsFinal = false := by
  obtain ⟨rest, e⟩ := headWords
  unfold Program.liftsFinal
  rw [e, headLifts]
  rfl

theorem make_cut : Try.prog.make = some .cut := by
  obtain ⟨rest, e⟩ := headWords
  unfold Program.make
  rw [e]
  rfl

theorem mapsRowed_ : mapsRowed Try.prog = true := by kernel_rfl
theorem stops_ : Try.prog.stops = [] := by kernel_rfl
theorem stopKnobs_ : Try.prog.stopKnobs = [] := by kernel_rfl
theorem plainKeys_ : Try.prog.plainKeys = true := by kernel_rfl
theorem stopsHeard_ : Try.prog.stopsHeard = true := by kernel_rfl

/-- What is left of a row's closed facts when those on the whole program are known. -/
def restFacts (P : Program) (f : FuncId) (fn : Func) (s : ChangeSpec) (c : OpenClaim) : Bool :=
  c.wf (OpenSpec.ofChange s) && fn.params.all (P.readableRec ·) && namedTie P c.named s.vars &&
  (c.stops == []) && (c.knobs == []) &&
  (c.inPlace == P.inPlace f) && (c.unfollowed == P.unfollowed f) && (c.recurses == P.recurses f) && (c.named == P.varsNamed f) &&
  (c.maps == (fn.params.toList ++ s.plain.varTypes P).any (P.mapsRec ·)) && (c.ifaces == (fn.params.toList ++ s.plain.varTypes P).any (P.ifacesRec ·)) && (c.mapsOut == P.mapsAmong fn.resultTypes.toList) &&
  (c.loops == (fn.params.toList ++ s.plain.varTypes P).any (P.loopsFrom ·)) && (c.wideKeys == (fn.params.toList ++ s.plain.varTypes P ++ fn.resultTypes.toList).any (P.wideKeysFrom ·)) &&
  s.vars.all (P.varReadable ·) && fn.resultTypes.all (fun t => P.readableRec t && decide (t < P.types.size)) && (c.ifacesOut == fn.resultTypes.toList.any (P.ifacesRec ·)) && (c.loopsOut == fn.resultTypes.toList.any (P.loopsFrom ·)) && c.plainKeys && c.shortTexts.isNone && (c.lifted == false) && (c.make == .cut) && (c.kinds == (if c.domain.isEmpty then [] else fn.params.toList.map fun t => match P.underlying t with | some (.int k) => some k | _ => none)) && (c.pinned == c.pinnedBy) &&
  (c.veiled == (fn.params.toList ++ s.plain.varTypes P ++ fn.resultTypes.toList).any (P.veiledRec ·)) && c.veiledFits P fn.params.toList (fn.params.toList ++ s.plain.varTypes P ++ fn.resultTypes.toList)

theorem facts_of {f : FuncId} {fn : Func} {s : ChangeSpec} {c : OpenClaim} (h : restFacts Try.prog f fn s c = true) : joinedFacts Try.prog f fn s c = true := by
  unfold restFacts at h
  simp only [Bool.and_eq_true] at h
  obtain ⟨⟨⟨⟨⟨⟨⟨⟨⟨⟨⟨⟨⟨⟨⟨⟨⟨⟨⟨⟨⟨⟨⟨⟨⟨k1, k4⟩, k5⟩, k6⟩, k8⟩, k10⟩, k11⟩, k12⟩, k13⟩, k14⟩, k15⟩, k16⟩, k17⟩, k17b⟩, k18⟩, k19⟩, k20⟩, k21⟩, k22⟩, k23⟩, k24b⟩, k24c⟩, k25⟩, k26⟩, k27⟩, k28⟩ := h
  unfold joinedFacts
  simp only [Bool.and_eq_true]
  refine ⟨⟨⟨⟨⟨⟨⟨⟨⟨⟨⟨⟨⟨⟨⟨⟨⟨⟨⟨⟨⟨⟨⟨⟨⟨⟨⟨⟨⟨⟨⟨k1, laidOut⟩, mapsRowed_⟩, k4⟩, k5⟩, k6⟩, ?_⟩, k8⟩, ?_⟩, k10⟩, k11⟩, k12⟩, k13⟩, k14⟩, k15⟩, k16⟩, k17⟩, k17b⟩, k18⟩, k19⟩, k20⟩, k21⟩, ?_⟩, k23⟩, stopsHeard_⟩, mayEnter⟩, ?_⟩, ?_⟩, k25⟩, k26⟩, k27⟩, k28⟩
  · rw [stops_]; rfl
  · rw [stopKnobs_]; rfl
  · rw [plainKeys_]; simpa using k22
  · rw [liftsFinal]; exact k24b
  · rw [make_cut]
    have e : c.make = .cut := by simpa using k24c
    rw [e]; rfl

end Go.Proofs.Ytfdjamobfhoeiaa
