/- ParseDeep: the law returns true for every input, and leaves what it was given as it was; its card, tied to the program's text. No condition. -/
import Derived.Test.YtdiccmapankckaaDoorRows
import Derived.Test.YtdiccmapankckaaDoorCards
import Derived.Test.YtdiccmapankckaaDoorTie
import Derived.Test.YtdiccmapankckaaDoorMj
import Derived.WalkKit
import Derived.ProofKit
import Derived.OpenShut
import Derived.ShutString
import Derived.ChangeOld
import Derived.Below
import Derived.LaidMore
import Derived.Stop.Joined
import Derived.SevenTiedAt
namespace Go.Proofs.YtdiccmapankckaaDoor.parseDeep
open Go.ChangeShapes Go.WideShapes Go.ChangeAt Go.RowKit
open Go.Proofs.YtdiccmapankckaaDoor.Ev (law_walk args_card DecVs dec_val mix ltG)
set_option linter.unusedVariables false
theorem own : ownKnob Tryd.prog.godebug = none := by kernel_rfl
theorem laidOut : laidOutB Tryd.prog = true := by kernel_rfl
theorem shape0 : Ev.shOk Tryd.prog 8 (.int .u8) 5 = true := by kernel_rfl
theorem shape1 : Ev.shOk Tryd.prog 8 (.int .u8) 5 = true := by kernel_rfl
theorem gn0 : Tryd.prog.globalNamed "balustrade/lex.words" = some 1 := by kernel_rfl
theorem gt0 : (Tryd.prog.globals[1]?).map (·.type) = some 81 := by kernel_rfl
theorem gu0 : Tryd.prog.underlying 81 = some (.slice 9) := by kernel_rfl
theorem gc0 : Tryd.prog.cellsOf 9 = 1 := by kernel_rfl
theorem ge0 : Tryd.prog.underlying 9 = some .string := by kernel_rfl
theorem gn1 : Tryd.prog.globalNamed "balustrade/lex.signs" = some 0 := by kernel_rfl
theorem gt1 : (Tryd.prog.globals[0]?).map (·.type) = some 81 := by kernel_rfl
theorem gu1 : Tryd.prog.underlying 81 = some (.slice 9) := by kernel_rfl
theorem gc1 : Tryd.prog.cellsOf 9 = 1 := by kernel_rfl
theorem ge1 : Tryd.prog.underlying 9 = some .string := by kernel_rfl
theorem of_laid {W : World} (h : laidMetH Tryd.prog [("balustrade/lex.words", Rows.laid_balustrade_lex_words), ("balustrade/lex.signs", Rows.laid_balustrade_lex_signs)] W) : (∀ p ∈ Ev.globs, Ev.GFact W p.1 p.2) ∧ ∀ g l, Ev.tabl g = some l → Ev.TFact W g l := by
  rw [MakeChecks.laidMetH_plain _ _ _ (by kernel_rfl)] at h
  obtain ⟨ps, ⟨g0, t0, cs0, f0, p0, q0, hg0, ht0, hv0, hd0, ⟨g1, t1, cs1, f1, p1, q1, hg1, ht1, hv1, hd1, _, _⟩, _⟩, _, _⟩ := h
  obtain rfl := Option.some.inj (gn0.symm.trans hg0)
  obtain rfl := Option.some.inj (gt0.symm.trans ht0)
  have r0 : Ev.GFact W 1 Ev.L_lex_words := Ev.gfact_of (l := Ev.L_lex_words) (by decide) rfl gn0 gu0 gc0 ge0 hv0 hd0
  obtain rfl := Option.some.inj (gn1.symm.trans hg1)
  obtain rfl := Option.some.inj (gt1.symm.trans ht1)
  have r1 : Ev.GFact W 0 Ev.L_lex_signs := Ev.gfact_of (l := Ev.L_lex_signs) (by decide) rfl gn1 gu1 gc1 ge1 hv1 hd1
  exact ⟨fun p hp => by
    have hp' : p ∈ [(1, Ev.L_lex_words), (0, Ev.L_lex_signs)] := hp
    simp only [List.mem_cons, List.not_mem_nil, or_false] at hp'
    rcases hp' with rfl | rfl
    · exact r0
    · exact r1, fun g l h => by
    have h' : Ev.tabIn [] g = some l := h
    simp only [Ev.tabIn] at h'
    all_goals cases h'⟩
theorem lows : (∀ p ∈ Ev.globs, p.1 < 3) ∧ ∀ g l, Ev.tabl g = some l → g < 3 :=
  ⟨fun p hp => by
    have hp' : p ∈ [(1, Ev.L_lex_words), (0, Ev.L_lex_signs)] := hp
    simp only [List.mem_cons, List.not_mem_nil, or_false] at hp'
    rcases hp' with rfl | rfl <;> decide, fun g l h => by
    have h' : Ev.tabIn [] g = some l := h
    simp only [Ev.tabIn] at h'
    all_goals cases h'⟩
theorem door_met (os : Os) (args : Array Value) : laidMetH Tryd.prog [("balustrade/lex.words", Rows.laid_balustrade_lex_words), ("balustrade/lex.signs", Rows.laid_balustrade_lex_signs)] ((World.doorLaid Tryd.prog 400 os).forCall (fun _ _ => 0) ⟨#[], args, []⟩).memory :=
  laidMetH_of_parts3 (fuel := 8) (laidMet_of_run' 8 (by kernel_rfl) (by kernel_rfl)) (by kernel_rfl) (by kernel_rfl)
theorem walk {w : World} {v0 v1 : Value} (hL : laidMetH Tryd.prog [("balustrade/lex.words", Rows.laid_balustrade_lex_words), ("balustrade/lex.signs", Rows.laid_balustrade_lex_signs)] w) (D : DecVs w 3 [.int .u8, .int .u8] [v0, v1]) : Calls Tryd.prog 3 #[v0, v1] w fun e w' => e = .returned (.bool true) ∧ Below w.heap.size w w' := by
  obtain ⟨bs, es, ds, h1, h2, h3, h4⟩ := args_card (of_laid hL) lows D
  obtain ⟨m', hr⟩ := Ev.parseDeep_run (Ev.in_live lows) (Ev.glob_still h2) h4
  exact law_walk mix Ev.okT Ev.at3 (n0 := 3) ltG h1 h2 h3 hr
set_option maxRecDepth 100000 in
theorem lifted (os : Os) (started : os.Started) (H : Type) (enc : TypeId × Value → H) :
    ReturnsInHanded {} Tryd.checked os 3 .any (fun w args => (Rows.parseDeepSpec.pre enc Tryd.prog Tryd.f3 [] false w args ∧ laidMetH Tryd.prog [("balustrade/lex.words", Rows.laid_balustrade_lex_words), ("balustrade/lex.signs", Rows.laid_balustrade_lex_signs)] w) ∧ sizedMet enc Tryd.prog Tryd.f3 (OpenSpec.ofChange Rows.parseDeepSpec) false w args)
      (Rows.parseDeepSpec.post enc Tryd.prog Tryd.f3 false true false false) := by
  refine returnsInHanded_of_change_and (C := Tryd.checked) (X := fun w _ => laidMetH Tryd.prog [("balustrade/lex.words", Rows.laid_balustrade_lex_words), ("balustrade/lex.signs", Rows.laid_balustrade_lex_signs)] w) (fun _ _ _ hh h => h.of_heap hh) own started (by kernel_rfl) Tryd.func3
    (ChangeSpec.witness_shaped (enc := enc) (C := Tryd.checked) (os := os) (X := fun w _ => laidMetH Tryd.prog [("balustrade/lex.words", Rows.laid_balustrade_lex_words), ("balustrade/lex.signs", Rows.laid_balustrade_lex_signs)] w) false (World.doorLaid Tryd.prog 400 os) #[.int .u8 0, .int .u8 0] 8 rfl (World.shaped_of_RefB (by kernel_rfl) (by kernel_rfl)) (by kernel_rfl) (by kernel_rfl) (by kernel_rfl) (door_met os _)) ?_
  intro W base args ds gs before hval0 hW _ _ hL _
  have hval : ∀ (j : Nat) t v, Tryd.f3.params[j]? = some t → args[j]? = some v → Value.okWide Tryd.prog W .any base t v := hval0
  have hW' := hW
  obtain ⟨p, q, hA0, hV, rfl, hfz, hnd⟩ := hW
  have hA : DataW.TrodAll enc Tryd.prog W 0 (fun _ => true) true Tryd.f3.params.toList args.toList ds p := hA0
  rw [Tryd.params3] at hA hval
  obtain ⟨v0, vs0, d0, ds0, p0, q0, hargs, rfl, rfl, h0, r0⟩ := trodAll_cons hA
  obtain ⟨v1, vs1, d1, ds1, p1, q1, rfl, rfl, rfl, h1, r1⟩ := trodAll_cons r0
  obtain ⟨rfl, rfl, rfl⟩ := trodAll_nil r1
  obtain rfl : args = #[v0, v1] := by cases args; simp_all
  obtain ⟨rfl, rfl⟩ := trodVars_none hV
  have lt0 : ∀ x ∈ p0, x.block < W.heap.size := by obtain ⟨m, hm⟩ := h0; exact DataW.trod_lt m _ _ _ hm
  have D0 : Ev.DecV W 3 (.int .u8) v0 := dec_val shape0 (hval 0 5 v0 rfl rfl) h0
  have lt1 : ∀ x ∈ p1, x.block < W.heap.size := by obtain ⟨m, hm⟩ := h1; exact DataW.trod_lt m _ _ _ hm
  have D1 : Ev.DecV W 3 (.int .u8) v1 := dec_val shape1 (hval 1 5 v1 rfl rfl) h1
  refine (walk hL (.cons D0 (.cons D1 .nil))).mono fun e W' ⟨he, bel⟩ => ?_
  subst he
  exact ⟨_, rfl, _, _, _, [], _, [], hW', trodAll_mk1 (shut_bool Tryd.underlying4 _), (trodAll_cons_mk (Below.trod laidOut (by kernel_rfl) (of_decide_eq_true (by kernel_rfl)) h0 bel lt0) (trodAll_cons_mk (Below.trod laidOut (by kernel_rfl) (of_decide_eq_true (by kernel_rfl)) h1 bel lt1) trodAll_mk0)), rfl, bel.frame _, fun h => by cases h⟩
theorem over : Rows.parseDeepRow.holds Tryd.pinned (OpenSpec.ofChange Rows.parseDeepSpec) :=
  OpenClaim.holds_of_wide 3 Tryd.f3 rfl rfl rfl rfl rfl rfl rfl ⟨rfl, rfl, rfl, rfl, rfl⟩ rfl rfl rfl rfl rfl (by kernel_rfl) Tryd.func3 (by kernel_rfl)
    (of_decide_eq_true (by kernel_rfl)) (by unfold Func.isWrapper; first | (rw [if_pos (by decide +kernel)]; kernel_rfl) | (rw [if_neg (by decide +kernel)]; exact ⟨rfl, rfl⟩))
    (fun os started H enc _ => lifted os started H enc)
theorem proved : Rows.ParseDeepCardSaid :=
  Claim7.holds_tied_plain_at .later [] [.widerDeep, .widerDeep] true (true, "5572eac864f1576e7b2e3fe08414e40c29e44ee2549525b115d95989c228f253") false
    over (fun _ h => by cases h) (by kernel_rfl) (fun _ h => by cases h) parseDeep_row_tie rfl ⟨rfl, rfl⟩ (by kernel_rfl) rfl
    (fun f fn hf hfn => by
      obtain rfl : f = 3 := Option.some.inj ((show Tryd.prog.funcNamed "balustrade/balustradelaw08.ParseDeep" = some 3 by kernel_rfl).symm.trans hf) |>.symm
      obtain rfl : fn = Tryd.f3 := (Option.some.inj (Tryd.func3.symm.trans hfn)).symm
      exact ⟨by kernel_rfl, fun j t ht => by
        rw [Tryd.params3] at ht
        have hm : t ∈ [5, 5] := by simpa using Array.mem_of_getElem? ht
        have hall : ([5, 5].all fun u => !Tryd.prog.wantsStandIn u) = true := by kernel_rfl
        exact (show Tryd.prog.wantsStandIn t = false by simpa using List.all_eq_true.1 hall t hm)⟩)
    (by kernel_rfl)
end Go.Proofs.YtdiccmapankckaaDoor.parseDeep
namespace Go.Proofs.YtdiccmapankckaaDoor
/-- The card, under a short name, for the claim. -/
theorem parseDeep_card : Rows.ParseDeepCardSaid := parseDeep.proved
end Go.Proofs.YtdiccmapankckaaDoor
#print axioms Go.Proofs.YtdiccmapankckaaDoor.parseDeep_card
