/- CheckTrees: the law returns true for every input, and leaves what it was given as it was; its card, tied to the program's text. No condition. -/
import Derived.Test.YtfbnghpabppljaaGreatDoorRows
import Derived.Test.YtfbnghpabppljaaGreatDoorCards
import Derived.Test.YtfbnghpabppljaaGreatDoorTie
import Derived.Test.YtfbnghpabppljaaGreatDoorMm
import Derived.WalkKit
import Derived.ProofKit
import Derived.OpenShut
import Derived.ShutString
import Derived.ChangeOld
import Derived.Below
import Derived.LaidMore
import Derived.Stop.Joined
import Derived.SevenTiedAt
namespace Go.Proofs.YtfbnghpabppljaaGreatDoor.checkTrees
open Go.ChangeShapes Go.WideShapes Go.ChangeAt Go.RowKit
open Go.Proofs.YtfbnghpabppljaaGreatDoor.Ev (law_walk args_card DecVs dec_val mix ltG)
set_option linter.unusedVariables false
theorem own : ownKnob Tryz.prog.godebug = none := by kernel_rfl
theorem laidOut : laidOutB Tryz.prog = true := by kernel_rfl
theorem shape0 : Ev.shOk Tryz.prog 8 (.slice 59 5 (.struct [.int .i64, .slice 3 1 (.int .i64), .int .i64, .str, .int .i64])) 23 = true := by kernel_rfl
theorem gn0 : Tryz.prog.globalNamed "balustrade/tree.words" = some 0 := by kernel_rfl
theorem gt0 : (Tryz.prog.globals[0]?).map (·.type) = some 87 := by kernel_rfl
theorem gu0 : Tryz.prog.underlying 87 = some (.slice 9) := by kernel_rfl
theorem gc0 : Tryz.prog.cellsOf 9 = 1 := by kernel_rfl
theorem ge0 : Tryz.prog.underlying 9 = some .string := by kernel_rfl
theorem of_laid {W : World} (h : laidMetH Tryz.prog [("balustrade/tree.words", Rows.laid_balustrade_tree_words)] W) : (∀ p ∈ Ev.globs, Ev.GFact W p.1 p.2) ∧ ∀ g l, Ev.tabl g = some l → Ev.TFact W g l := by
  rw [MakeChecks.laidMetH_plain _ _ _ (by kernel_rfl)] at h
  obtain ⟨ps, ⟨g0, t0, cs0, f0, p0, q0, hg0, ht0, hv0, hd0, _, _⟩, _, _⟩ := h
  obtain rfl := Option.some.inj (gn0.symm.trans hg0)
  obtain rfl := Option.some.inj (gt0.symm.trans ht0)
  have r0 : Ev.GFact W 0 Ev.L_tree_words := Ev.gfact_of (l := Ev.L_tree_words) (by decide) rfl gn0 gu0 gc0 ge0 hv0 hd0
  exact ⟨fun p hp => by
    have hp' : p ∈ [(0, Ev.L_tree_words)] := hp
    simp only [List.mem_cons, List.not_mem_nil, or_false] at hp'
    rcases hp' with rfl
    · exact r0, fun g l h => by
    have h' : Ev.tabIn [] g = some l := h
    simp only [Ev.tabIn] at h'
    all_goals cases h'⟩
theorem lows : (∀ p ∈ Ev.globs, p.1 < 1) ∧ ∀ g l, Ev.tabl g = some l → g < 1 :=
  ⟨fun p hp => by
    have hp' : p ∈ [(0, Ev.L_tree_words)] := hp
    simp only [List.mem_cons, List.not_mem_nil, or_false] at hp'
    rcases hp' with rfl <;> decide, fun g l h => by
    have h' : Ev.tabIn [] g = some l := h
    simp only [Ev.tabIn] at h'
    all_goals cases h'⟩
theorem door_met (os : Os) (args : Array Value) : laidMetH Tryz.prog [("balustrade/tree.words", Rows.laid_balustrade_tree_words)] ((World.doorLaid Tryz.prog 400 os).forCall (fun _ _ => 0) ⟨#[], args, []⟩).memory :=
  laidMetH_of_parts3 (fuel := 8) (laidMet_of_run' 8 (by kernel_rfl) (by kernel_rfl)) (by kernel_rfl) (by kernel_rfl)
theorem walk {w : World} {v0 : Value} (hL : laidMetH Tryz.prog [("balustrade/tree.words", Rows.laid_balustrade_tree_words)] w) (D : DecVs w 1 [.slice 59 5 (.struct [.int .i64, .slice 3 1 (.int .i64), .int .i64, .str, .int .i64])] [v0]) : Calls Tryz.prog 4 #[v0] w fun e w' => e = .returned (.bool true) ∧ Below w.heap.size w w' := by
  obtain ⟨bs, es, ds, h1, h2, h3, h4⟩ := args_card (of_laid hL) lows D
  obtain ⟨m', hr⟩ := Ev.checkTrees_run (Ev.in_live lows) (Ev.glob_still h2) h4
  exact law_walk mix Ev.okT Ev.at4 (n0 := 1) ltG h1 h2 h3 hr
set_option maxRecDepth 100000 in
theorem lifted (os : Os) (started : os.Started) (H : Type) (enc : TypeId × Value → H) :
    ReturnsInHanded {} Tryz.checked os 4 .any (fun w args => (Rows.checkTreesSpec.pre enc Tryz.prog Tryz.f4 [] false w args ∧ laidMetH Tryz.prog [("balustrade/tree.words", Rows.laid_balustrade_tree_words)] w) ∧ sizedMet enc Tryz.prog Tryz.f4 (OpenSpec.ofChange Rows.checkTreesSpec) false w args)
      (Rows.checkTreesSpec.post enc Tryz.prog Tryz.f4 false true false false) := by
  refine returnsInHanded_of_change_and (C := Tryz.checked) (X := fun w _ => laidMetH Tryz.prog [("balustrade/tree.words", Rows.laid_balustrade_tree_words)] w) (fun _ _ _ hh h => h.of_heap hh) own started (by kernel_rfl) Tryz.func4
    (ChangeSpec.witness_shaped (enc := enc) (C := Tryz.checked) (os := os) (X := fun w _ => laidMetH Tryz.prog [("balustrade/tree.words", Rows.laid_balustrade_tree_words)] w) false (World.doorLaid Tryz.prog 400 os) #[.slice none 0 0] 8 rfl (World.shaped_of_RefB (by kernel_rfl) (by kernel_rfl)) (by kernel_rfl) (by kernel_rfl) (by kernel_rfl) (door_met os _)) ?_
  intro W base args ds gs before hval0 hW _ _ hL _
  have hval : ∀ (j : Nat) t v, Tryz.f4.params[j]? = some t → args[j]? = some v → Value.okWide Tryz.prog W .any base t v := hval0
  have hW' := hW
  obtain ⟨p, q, hA0, hV, rfl, hfz, hnd⟩ := hW
  have hA : DataW.TrodAll enc Tryz.prog W 0 (fun _ => true) true Tryz.f4.params.toList args.toList ds p := hA0
  rw [Tryz.params4] at hA hval
  obtain ⟨v0, vs0, d0, ds0, p0, q0, hargs, rfl, rfl, h0, r0⟩ := trodAll_cons hA
  obtain ⟨rfl, rfl, rfl⟩ := trodAll_nil r0
  obtain rfl : args = #[v0] := by cases args; simp_all
  obtain ⟨rfl, rfl⟩ := trodVars_none hV
  have lt0 : ∀ x ∈ p0, x.block < W.heap.size := by obtain ⟨m, hm⟩ := h0; exact DataW.trod_lt m _ _ _ hm
  have D0 : Ev.DecV W 1 (.slice 59 5 (.struct [.int .i64, .slice 3 1 (.int .i64), .int .i64, .str, .int .i64])) v0 := dec_val shape0 (hval 0 23 v0 rfl rfl) h0
  refine (walk hL (.cons D0 .nil)).mono fun e W' ⟨he, bel⟩ => ?_
  subst he
  exact ⟨_, rfl, _, _, _, [], _, [], hW', trodAll_mk1 (shut_bool Tryz.underlying4 _), (trodAll_cons_mk (Below.trod laidOut (by kernel_rfl) (of_decide_eq_true (by kernel_rfl)) h0 bel lt0) trodAll_mk0), rfl, bel.frame _, fun h => by cases h⟩
theorem over : Rows.checkTreesRow.holds Tryz.pinned (OpenSpec.ofChange Rows.checkTreesSpec) :=
  OpenClaim.holds_of_wide 4 Tryz.f4 rfl rfl rfl rfl rfl rfl rfl ⟨rfl, rfl, rfl, rfl, rfl⟩ rfl rfl rfl rfl rfl (by kernel_rfl) Tryz.func4 (by kernel_rfl)
    (of_decide_eq_true (by kernel_rfl)) (by unfold Func.isWrapper; first | (rw [if_pos (by decide +kernel)]; kernel_rfl) | (rw [if_neg (by decide +kernel)]; exact ⟨rfl, rfl⟩))
    (fun os started H enc _ => lifted os started H enc)
theorem proved : Rows.CheckTreesCardSaid :=
  Claim7.holds_tied_plain_at .later [] [.widerDeep] true (true, "ed753f0d0608e617feaa02cd342d4337e331e495cb4c429e551fa71d5635ab8c") false
    over (fun _ h => by cases h) (by kernel_rfl) (fun _ h => by cases h) checkTrees_row_tie rfl ⟨rfl, rfl⟩ (by kernel_rfl) rfl
    (fun f fn hf hfn => by
      obtain rfl : f = 4 := Option.some.inj ((show Tryz.prog.funcNamed "balustrade/balustradelaw11.CheckTrees" = some 4 by kernel_rfl).symm.trans hf) |>.symm
      obtain rfl : fn = Tryz.f4 := (Option.some.inj (Tryz.func4.symm.trans hfn)).symm
      exact ⟨by kernel_rfl, fun j t ht => by
        rw [Tryz.params4] at ht
        have hm : t ∈ [23] := by simpa using Array.mem_of_getElem? ht
        have hall : ([23].all fun u => !Tryz.prog.wantsStandIn u) = true := by kernel_rfl
        exact (show Tryz.prog.wantsStandIn t = false by simpa using List.all_eq_true.1 hall t hm)⟩)
    (by kernel_rfl)
end Go.Proofs.YtfbnghpabppljaaGreatDoor.checkTrees
namespace Go.Proofs.YtfbnghpabppljaaGreatDoor
/-- The card, under a short name, for the claim. -/
theorem checkTrees_card : Rows.CheckTreesCardSaid := checkTrees.proved
end Go.Proofs.YtfbnghpabppljaaGreatDoor
#print axioms Go.Proofs.YtfbnghpabppljaaGreatDoor.checkTrees_card
