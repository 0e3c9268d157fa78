/-
  The statement ServerNames: what is closed, fact by fact.
-/
import Derived.Test.YtbdmmdjomdmicaaGreatRows
import Derived.JoinedOf
import Derived.KernelRfl
set_option linter.unusedSimpArgs false
set_option linter.unusedVariables false
namespace Go.Proofs.YtbdmmdjomdmicaaGreat.serverNamesJ
open Go
noncomputable def P : Program := Tryz.pinned.checked.prog
noncomputable def s : ChangeSpec := Rows.serverNamesSpec
noncomputable def c : OpenClaim := Rows.serverNamesRow
noncomputable def fn : Func := Tryz.f3
def f : Nat := 3
theorem f0 : (c.wf (OpenSpec.ofChange s)) = true := by kernel_rfl
theorem f1 : (laidOutB P) = true := by kernel_rfl
theorem f2 : (mapsRowed P) = true := by kernel_rfl
theorem f3 : (fn.params.all (P.readableRec ·)) = true := by kernel_rfl
theorem f4 : (namedTie P c.named s.vars) = true := by kernel_rfl
theorem f5 : ((c.stops == [])) = true := by kernel_rfl
theorem f6 : ((P.stops == [])) = true := by kernel_rfl
theorem f7 : ((c.knobs == [])) = true := by kernel_rfl
theorem f8 : ((P.stopKnobs == [])) = true := by kernel_rfl
theorem f9 : ((c.inPlace == P.inPlace f)) = true := by kernel_rfl
theorem f10 : ((c.unfollowed == P.unfollowed f)) = true := by kernel_rfl
theorem f11 : ((c.recurses == P.recurses f)) = true := by kernel_rfl
theorem f12 : ((c.named == P.varsNamed f)) = true := by kernel_rfl
theorem f13 : ((c.maps == (fn.params.toList ++ s.plain.varTypes P).any (P.mapsRec ·))) = true := by kernel_rfl
theorem f14 : ((c.ifaces == (fn.params.toList ++ s.plain.varTypes P).any (P.ifacesRec ·))) = true := by kernel_rfl
theorem f15 : ((c.mapsOut == P.mapsAmong fn.resultTypes.toList)) = true := by kernel_rfl
theorem f16 : ((c.loops == (fn.params.toList ++ s.plain.varTypes P).any (P.loopsFrom ·))) = true := by kernel_rfl
theorem f17 : ((c.wideKeys == (fn.params.toList ++ s.plain.varTypes P ++ fn.resultTypes.toList).any (P.wideKeysFrom ·))) = true := by kernel_rfl
theorem f18 : (s.vars.all (P.varReadable ·)) = true := by kernel_rfl
theorem f19 : (fn.resultTypes.all (fun t => P.readableRec t && decide (t < P.types.size))) = true := by kernel_rfl
theorem f20 : ((c.ifacesOut == fn.resultTypes.toList.any (P.ifacesRec ·))) = true := by kernel_rfl
theorem f21 : ((c.loopsOut == fn.resultTypes.toList.any (P.loopsFrom ·))) = true := by kernel_rfl
theorem f22 : ((c.plainKeys == P.plainKeys)) = true := by kernel_rfl
theorem f23 : (c.shortTexts.isNone) = true := by kernel_rfl
theorem f24 : (P.stopsHeard) = true := by kernel_rfl
theorem f25 : (P.mayEnter) = true := by kernel_rfl
theorem f26 : ((c.lifted == P.liftsFinal)) = true := by kernel_rfl
theorem f27 : ((P.make == some c.make)) = true := by kernel_rfl
theorem f28 : ((c.kinds == (if c.domain.isEmpty then [] else fn.params.toList.map fun t => match P.underlying t with | some (.int k) => some k | _ => none))) = true := by kernel_rfl
theorem f29 : ((c.pinned == c.pinnedBy)) = true := by kernel_rfl
theorem f30 : ((c.veiled == (fn.params.toList ++ s.plain.varTypes P ++ fn.resultTypes.toList).any (P.veiledRec ·))) = true := by kernel_rfl
theorem f31 : (c.veiledFits P fn.params.toList (fn.params.toList ++ s.plain.varTypes P ++ fn.resultTypes.toList)) = true := by kernel_rfl
theorem zKD {P : Program} {f : FuncId} {fn : Func} {s : ChangeSpec} {c : OpenClaim} (h0 : (c.wf (OpenSpec.ofChange s)) = true) (h1 : (laidOutB P) = true) (h2 : (mapsRowed P) = true) (h3 : (fn.params.all (P.readableRec ·)) = true) (h4 : (namedTie P c.named s.vars) = true) (h5 : ((c.stops == [])) = true) (h6 : ((P.stops == [])) = true) (h7 : ((c.knobs == [])) = true) (h8 : ((P.stopKnobs == [])) = true) (h9 : ((c.inPlace == P.inPlace f)) = true) (h10 : ((c.unfollowed == P.unfollowed f)) = true) (h11 : ((c.recurses == P.recurses f)) = true) (h12 : ((c.named == P.varsNamed f)) = true) (h13 : ((c.maps == (fn.params.toList ++ s.plain.varTypes P).any (P.mapsRec ·))) = true) (h14 : ((c.ifaces == (fn.params.toList ++ s.plain.varTypes P).any (P.ifacesRec ·))) = true) (h15 : ((c.mapsOut == P.mapsAmong fn.resultTypes.toList)) = true) (h16 : ((c.loops == (fn.params.toList ++ s.plain.varTypes P).any (P.loopsFrom ·))) = true) (h17 : ((c.wideKeys == (fn.params.toList ++ s.plain.varTypes P ++ fn.resultTypes.toList).any (P.wideKeysFrom ·))) = true) (h18 : (s.vars.all (P.varReadable ·)) = true) (h19 : (fn.resultTypes.all (fun t => P.readableRec t && decide (t < P.types.size))) = true) (h20 : ((c.ifacesOut == fn.resultTypes.toList.any (P.ifacesRec ·))) = true) (h21 : ((c.loopsOut == fn.resultTypes.toList.any (P.loopsFrom ·))) = true) (h22 : ((c.plainKeys == P.plainKeys)) = true) (h23 : (c.shortTexts.isNone) = true) (h24 : (P.stopsHeard) = true) (h25 : (P.mayEnter) = true) (h26 : ((c.lifted == P.liftsFinal)) = true) (h27 : ((P.make == some c.make)) = true) (h28 : ((c.kinds == (if c.domain.isEmpty then [] else fn.params.toList.map fun t => match P.underlying t with | some (.int k) => some k | _ => none))) = true) (h29 : ((c.pinned == c.pinnedBy)) = true) (h30 : ((c.veiled == (fn.params.toList ++ s.plain.varTypes P ++ fn.resultTypes.toList).any (P.veiledRec ·))) = true) (h31 : (c.veiledFits P fn.params.toList (fn.params.toList ++ s.plain.varTypes P ++ fn.resultTypes.toList)) = true) : joinedFacts P f fn s c = true := by
  unfold joinedFacts
  simp only [Bool.and_eq_true]
  exact ⟨⟨⟨⟨⟨⟨⟨⟨⟨⟨⟨⟨⟨⟨⟨⟨⟨⟨⟨⟨⟨⟨⟨⟨⟨⟨⟨⟨⟨⟨⟨h0, h1⟩, h2⟩, h3⟩, h4⟩, h5⟩, h6⟩, h7⟩, h8⟩, h9⟩, h10⟩, h11⟩, h12⟩, h13⟩, h14⟩, h15⟩, h16⟩, h17⟩, h18⟩, h19⟩, h20⟩, h21⟩, h22⟩, h23⟩, h24⟩, h25⟩, h26⟩, h27⟩, h28⟩, h29⟩, h30⟩, h31⟩
theorem closed : joinedFacts P f fn s c = true := zKD f0 f1 f2 f3 f4 f5 f6 f7 f8 f9 f10 f11 f12 f13 f14 f15 f16 f17 f18 f19 f20 f21 f22 f23 f24 f25 f26 f27 f28 f29 f30 f31
theorem named : P.funcNamed c.func = some f := by kernel_rfl
theorem inst : fn.isInstance P c.origin c.targs := of_decide_eq_true (by kernel_rfl)
theorem wrap : fn.isWrapper P c.wrapper c.mainSum := by unfold Func.isWrapper; first | (rw [if_pos (by decide +kernel)]; kernel_rfl) | (rw [if_neg (by decide +kernel)]; exact ⟨rfl, rfl⟩)
end Go.Proofs.YtbdmmdjomdmicaaGreat.serverNamesJ
