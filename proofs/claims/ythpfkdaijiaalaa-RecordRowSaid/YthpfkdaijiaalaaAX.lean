/- What the program as a whole is: the facts that each row asks, once. -/
import Derived.Test.YthpfkdaijiaalaaRows
import Derived.Test.YthpfkdaijiaalaaAF
namespace Go.Proofs.Ythpfkdaijiaalaa
open Go.RowKit

theorem words_app (b : List Char) : ∀ a : List Char, a.all (fun c => c != Char.ofNat 32) = true → wordsSigns (a ++ Char.ofNat 32 :: b) = a :: wordsSigns b
  | [], _ => wordsSigns.eq_2 b
  | c :: a, h => by
    simp only [List.all_cons, Bool.and_eq_true] at h
    have ih := words_app b a h.2
    have hc : c ≠ Char.ofNat 32 := by simpa using h.1
    rw [List.cons_append, wordsSigns, ih]
    intro e; exact hc e
def ha : List Char := ([104, 97, 114, 110, 101, 115, 115]).map Char.ofNat
def hb : List Char := ([51, 48, 54, 50, 55, 97, 48, 98, 51, 55, 52, 51, 49, 52, 98, 49, 57, 53, 50, 48, 55, 50, 49, 99, 56, 100, 99, 57, 99, 99, 53, 53, 50, 97, 56, 51, 53, 48, 50, 53, 57, 98, 53, 52, 52, 101, 52, 48, 48, 55, 98, 48, 51, 56, 48, 50, 56, 49, 54, 49, 101, 55, 48, 49]).map Char.ofNat
def hcut : List Char := ([99, 117, 116]).map Char.ofNat
def ht : List Char := ([97, 116, 32, 108, 97, 116, 116, 105, 99, 101, 47, 108, 97, 116, 116, 105, 99, 101, 108, 97, 119, 48, 54, 46, 80, 97, 103, 101, 67, 104, 101, 99, 107, 115, 32, 108, 97, 116, 116, 105, 99, 101, 47, 108, 97, 116, 116, 105, 99, 101, 108, 97, 119, 48, 54, 46, 80, 97, 103, 101, 69, 110, 99, 111, 100, 101, 115, 32, 108, 97, 116, 116, 105, 99, 101, 47, 108, 97, 116, 116, 105, 99, 101, 108, 97, 119, 48, 54, 46, 80, 97, 103, 101, 68, 101, 99, 111, 100, 101, 115, 32, 108, 97, 116, 116, 105, 99, 101, 47, 108, 97, 116, 116, 105, 99, 101, 108, 97, 119, 48, 54, 46, 80, 97, 103, 101, 66, 97, 99, 107, 32, 108, 97, 116, 116, 105, 99, 101, 47, 108, 97, 116, 116, 105, 99, 101, 108, 97, 119, 48, 54, 46, 80, 97, 103, 101, 84, 117, 114, 110, 101, 100, 32, 108, 97, 116, 116, 105, 99, 101, 47, 108, 97, 116, 116, 105, 99, 101, 108, 97, 119, 48, 54, 46, 80, 97, 103, 101, 71, 114, 111, 119, 115, 32, 108, 97, 116, 116, 105, 99, 101, 47, 108, 97, 116, 116, 105, 99, 101, 108, 97, 119, 48, 57, 46, 82, 101, 99, 111, 114, 100, 69, 110, 99, 111, 100, 101, 115, 32, 108, 97, 116, 116, 105, 99, 101, 47, 108, 97, 116, 116, 105, 99, 101, 108, 97, 119, 48, 57, 46, 82, 101, 99, 111, 114, 100, 68, 101, 99, 111, 100, 101, 115, 32, 108, 97, 116, 116, 105, 99, 101, 47, 108, 97, 116, 116, 105, 99, 101, 108, 97, 119, 48, 57, 46, 82, 101, 99, 111, 114, 100, 66, 97, 99, 107, 32, 108, 97, 116, 116, 105, 99, 101, 47, 108, 97, 116, 116, 105, 99, 101, 108, 97, 119, 48, 57, 46, 82, 101, 99, 111, 114, 100, 67, 117, 116, 32, 108, 97, 116, 116, 105, 99, 101, 47, 108, 97, 116, 116, 105, 99, 101, 108, 97, 119, 48, 57, 46, 82, 101, 99, 111, 114, 100, 82, 111, 119, 32, 108, 97, 116, 116, 105, 99, 101, 47, 108, 97, 116, 116, 105, 99, 101, 108, 97, 119, 50, 48, 46, 83, 104, 105, 112, 84, 97, 107, 101, 115, 32, 108, 97, 116, 116, 105, 99, 101, 47, 108, 97, 116, 116, 105, 99, 101, 108, 97, 119, 50, 48, 46, 83, 104, 105, 112, 79, 110, 101, 32, 108, 97, 116, 116, 105, 99, 101, 47, 108, 97, 116, 116, 105, 99, 101, 108, 97, 119, 50, 48, 46, 83, 104, 105, 112, 67, 117, 116, 32, 108, 97, 116, 116, 105, 99, 101, 47, 108, 97, 116, 116, 105, 99, 101, 108, 97, 119, 49, 48, 46, 87, 97, 108, 84, 111, 114, 110, 32, 108, 97, 116, 116, 105, 99, 101, 47, 108, 97, 116, 116, 105, 99, 101, 108, 97, 119, 49, 48, 46, 87, 97, 108, 82, 101, 97, 100, 115, 32, 108, 97, 116, 116, 105, 99, 101, 47, 108, 97, 116, 116, 105, 99, 101, 108, 97, 119, 50, 48, 46, 83, 104, 105, 112, 83, 101, 110, 100, 115, 32, 108, 97, 116, 116, 105, 99, 101, 47, 108, 97, 116, 116, 105, 99, 101, 108, 97, 119, 50, 48, 46, 83, 104, 105, 112, 78, 105, 108, 32, 108, 97, 116, 116, 105, 99, 101, 47, 108, 97, 116, 116, 105, 99, 101, 108, 97, 119, 50, 48, 46, 83, 104, 105, 112, 67, 111, 109, 101, 115, 32, 108, 97, 116, 116, 105, 99, 101, 47, 108, 97, 116, 116, 105, 99, 101, 108, 97, 119, 49, 48, 46, 87, 97, 108, 71, 114, 111, 119, 115, 32, 108, 97, 116, 116, 105, 99, 101, 47, 108, 97, 116, 116, 105, 99, 101, 108, 97, 119, 49, 48, 46, 87, 97, 108, 83, 116, 101, 112, 115, 32, 108, 97, 116, 116, 105, 99, 101, 47, 108, 97, 116, 116, 105, 99, 101, 108, 97, 119, 49, 48, 46, 87, 97, 108, 78, 105, 108]).map Char.ofNat
theorem Try.io : Try.prog.initOrder = String.ofList (ha ++ Char.ofNat 32 :: (hb ++ Char.ofNat 32 :: (hcut ++ Char.ofNat 32 :: ht))) := by kernel_rfl
theorem Try.words : behindMainWord (wordsSigns Try.prog.initOrder.toList) = hcut :: wordsSigns ht := by
  rw [Try.io, String.toList_ofList, words_app _ ha (by kernel_rfl), words_app _ hb (by kernel_rfl), words_app _ hcut (by kernel_rfl)]
  have h1 : ((ha == "harness".toList || ha == "ownmain".toList) && isSumSigns hb) = true := by kernel_rfl
  exact (if_pos h1 : (if ((ha == "harness".toList || ha == "ownmain".toList) && isSumSigns hb) = true then hcut :: wordsSigns ht else ha :: hb :: hcut :: wordsSigns ht) = _)
theorem make_of {P : Program} {W : List (List Char)} (h : behindMainWord (wordsSigns P.initOrder.toList) = hcut :: W) : P.make = some .cut := by
  unfold Program.make
  rw [h]
  kernel_rfl
theorem strip_of (W : List (List Char)) : stripLifts liftWords (hcut :: W) = ([], hcut :: W) := by kernel_rfl
theorem enter_of {P : Program} {W : List (List Char)} (h : behindMainWord (wordsSigns P.initOrder.toList) = hcut :: W) (h1 : P.laysLater = false) (h2 : P.bearsReflect = false) (h3 : P.doorFits [] = true) : P.mayEnter = true := by
  have e1 : (hcut == "gc".toList || hcut == "spec".toList) = false := by kernel_rfl
  have e2 : (hcut == "carried".toList) = false := by kernel_rfl
  have e3 : ((hcut :: W).head? == some "cut".toList) = true := by kernel_rfl
  unfold Program.mayEnter
  rw [h]
  simp only [strip_of, e1, e2, e3, h1, h2, h3, Bool.false_and, Bool.false_or, Bool.not_false, Bool.or_true, Bool.true_and, Bool.and_true]
  rfl
theorem lifts_of {P : Program} {W : List (List Char)} (h : behindMainWord (wordsSigns P.initOrder.toList) = hcut :: W) : P.liftsFinal = false := by
  unfold Program.liftsFinal Program.headLifts
  rw [h]
  simp only [strip_of]
  kernel_rfl
theorem Try.lays : Try.prog.laysLater = false := by kernel_rfl
theorem Try.refl_ : Try.prog.bearsReflect = false := by kernel_rfl
theorem Try.door : Try.prog.doorFits [] = true := by kernel_rfl
theorem Try.enter : Try.prog.mayEnter = true := enter_of Try.words Try.lays Try.refl_ Try.door
theorem Try.lifts : Try.prog.liftsFinal = false := lifts_of Try.words
theorem Try.make : Try.prog.make = some .cut := make_of Try.words
theorem facts_of {P : Program} {f : FuncId} {fn : Func} {s : ChangeSpec} {c : OpenClaim} (h0 : (c.wf (OpenSpec.ofChange s)) = true) (h1 : (laidOutB P) = true) (h2 : (mapsRowed P) = true) (h3 : (fn.params.all (P.readableRec ·)) = true) (h4 : (namedTie P c.named s.vars) = true) (h5 : ((c.stops == [])) = true) (h6 : ((P.stops == [])) = true) (h7 : ((c.knobs == [])) = true) (h8 : ((P.stopKnobs == [])) = true) (h9 : ((c.inPlace == P.inPlace f)) = true) (h10 : ((c.unfollowed == P.unfollowed f)) = true) (h11 : ((c.recurses == P.recurses f)) = true) (h12 : ((c.named == P.varsNamed f)) = true) (h13 : ((c.maps == (fn.params.toList ++ s.plain.varTypes P).any (P.mapsRec ·))) = true) (h14 : ((c.ifaces == (fn.params.toList ++ s.plain.varTypes P).any (P.ifacesRec ·))) = true) (h15 : ((c.mapsOut == P.mapsAmong fn.resultTypes.toList)) = true) (h16 : ((c.loops == (fn.params.toList ++ s.plain.varTypes P).any (P.loopsFrom ·))) = true) (h17 : ((c.wideKeys == (fn.params.toList ++ s.plain.varTypes P ++ fn.resultTypes.toList).any (P.wideKeysFrom ·))) = true) (h18 : (s.vars.all (P.varReadable ·)) = true) (h19 : (fn.resultTypes.all (fun t => P.readableRec t && decide (t < P.types.size))) = true) (h20 : ((c.ifacesOut == fn.resultTypes.toList.any (P.ifacesRec ·))) = true) (h21 : ((c.loopsOut == fn.resultTypes.toList.any (P.loopsFrom ·))) = true) (h22 : ((c.plainKeys == P.plainKeys)) = true) (h23 : (c.shortTexts.isNone) = true) (h24 : (P.stopsHeard) = true) (h25 : (P.mayEnter) = true) (h26 : ((c.lifted == P.liftsFinal)) = true) (h27 : ((P.make == some c.make)) = true) (h28 : ((c.kinds == (if c.domain.isEmpty then [] else fn.params.toList.map fun t => match P.underlying t with | some (.int k) => some k | _ => none))) = true) (h29 : ((c.pinned == c.pinnedBy)) = true) (h30 : ((c.veiled == (fn.params.toList ++ s.plain.varTypes P ++ fn.resultTypes.toList).any (P.veiledRec ·))) = true) (h31 : (c.veiledFits P fn.params.toList (fn.params.toList ++ s.plain.varTypes P ++ fn.resultTypes.toList)) = true) : joinedFacts P f fn s c = true := by
  unfold joinedFacts
  simp only [h0, h1, h2, h3, h4, h5, h6, h7, h8, h9, h10, h11, h12, h13, h14, h15, h16, h17, h18, h19, h20, h21, h22, h23, h24, h25, h26, h27, h29, h30, h31, Bool.and_true, Bool.true_and]
  exact h28
theorem Try.rowed : mapsRowed Try.prog = true := by kernel_rfl
theorem Try.heard : Try.prog.stopsHeard = true := by kernel_rfl
theorem Try.plain_ : Try.prog.plainKeys = true := by kernel_rfl
theorem Try.nostops : (Try.prog.stops == []) = true := by kernel_rfl
theorem Try.noknobs : (Try.prog.stopKnobs == []) = true := by kernel_rfl
theorem Try.lifted_ : (false == Try.prog.liftsFinal) = true := by rw [Try.lifts]; rfl
theorem Try.make_ : (Try.prog.make == some .cut) = true := by rw [Try.make]; rfl
end Go.Proofs.Ythpfkdaijiaalaa
