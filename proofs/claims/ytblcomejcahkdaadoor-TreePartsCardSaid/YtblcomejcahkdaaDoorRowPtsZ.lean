/- TreeParts: the law returns true for every input, and leaves what it was given as it was; its card, tied to the program's text. No condition. -/
import Derived.Test.YtblcomejcahkdaaDoorRows
import Derived.Test.YtblcomejcahkdaaDoorCards
import Derived.Test.YtblcomejcahkdaaDoorTie
import Derived.Test.YtblcomejcahkdaaDoorMh
import Derived.WalkKit
import Derived.ProofKit
import Derived.OpenShut
import Derived.ShutString
import Derived.ChangeOld
import Derived.Below
import Derived.LaidMore
import Derived.Stop.Joined
import Derived.SevenTiedAt
namespace Go.Proofs.YtblcomejcahkdaaDoor.treeParts
open Go.ChangeShapes Go.WideShapes Go.ChangeAt Go.RowKit
open Go.Proofs.YtblcomejcahkdaaDoor.Ev (law_walk args_card DecVs dec_val mix ltG)
set_option linter.unusedVariables false
theorem own : ownKnob Tryd.prog.godebug = none := by kernel_rfl
theorem laidOut : laidOutB Tryd.prog = true := by kernel_rfl
theorem shape0 : Ev.shOk Tryd.prog 8 (.slice 27 5 (.struct [.int .i64, .slice 3 1 (.int .i64), .int .i64, .str, .int .i64])) 22 = true := by kernel_rfl
theorem shape1 : Ev.shOk Tryd.prog 8 (.int .u8) 5 = true := by kernel_rfl
theorem gn3 : Tryd.prog.globalNamed "balustrade/tree.words" = some 1 := by kernel_rfl
theorem gt3 : (Tryd.prog.globals[1]?).map (·.type) = some 36 := by kernel_rfl
theorem gu3 : Tryd.prog.underlying 36 = some (.slice 9) := by kernel_rfl
theorem gc3 : Tryd.prog.cellsOf 9 = 1 := by kernel_rfl
theorem ge3 : Tryd.prog.underlying 9 = some .string := by kernel_rfl
theorem gn4 : Tryd.prog.globalNamed "balustrade/tree.signs" = some 0 := by kernel_rfl
theorem gt4 : (Tryd.prog.globals[0]?).map (·.type) = some 36 := by kernel_rfl
theorem gu4 : Tryd.prog.underlying 36 = some (.slice 9) := by kernel_rfl
theorem gc4 : Tryd.prog.cellsOf 9 = 1 := by kernel_rfl
theorem ge4 : Tryd.prog.underlying 9 = some .string := by kernel_rfl
theorem gn2 : Tryd.prog.globalNamed "internal/strconv.uint64pow10" = some 2 := by kernel_rfl
theorem gt2 : (Tryd.prog.globals[2]?).map (·.type) = some 89 := by kernel_rfl
theorem gu2 : Tryd.prog.underlying 89 = some (.array 20 79) := by kernel_rfl
theorem gc2 : Tryd.prog.cellsOf 79 = 1 := by kernel_rfl
theorem gd2 : Tryd.prog.cellsOf 89 = 20 := by kernel_rfl
theorem ge2 : Tryd.prog.underlying 79 = some (.int .u64) := by kernel_rfl
theorem of_laid {W : World} (h : laidMetH Tryd.prog [("math/bits.deBruijn32tab", Rows.laid_math_bits_deBruijn32tab), ("math/bits.deBruijn64tab", Rows.laid_math_bits_deBruijn64tab), ("internal/strconv.uint64pow10", Rows.laid_internal_strconv_uint64pow10), ("balustrade/tree.words", Rows.laid_balustrade_tree_words), ("balustrade/tree.signs", Rows.laid_balustrade_tree_signs)] W) : (∀ p ∈ Ev.globs, Ev.GFact W p.1 p.2) ∧ ∀ g l, Ev.tabl g = some l → Ev.TFact W g l := by
  rw [MakeChecks.laidMetH_plain _ _ _ (by kernel_rfl)] at h
  obtain ⟨ps, ⟨g0, t0, cs0, f0, p0, q0, hg0, ht0, hv0, hd0, ⟨g1, t1, cs1, f1, p1, q1, hg1, ht1, hv1, hd1, ⟨g2, t2, cs2, f2, p2, q2, hg2, ht2, hv2, hd2, ⟨g3, t3, cs3, f3, p3, q3, hg3, ht3, hv3, hd3, ⟨g4, t4, cs4, f4, p4, q4, hg4, ht4, hv4, hd4, _, _⟩, _⟩, _⟩, _⟩, _⟩, _, _⟩ := h
  obtain rfl := Option.some.inj (gn3.symm.trans hg3)
  obtain rfl := Option.some.inj (gt3.symm.trans ht3)
  have r3 : Ev.GFact W 1 Ev.L_tree_words := Ev.gfact_of (l := Ev.L_tree_words) (by decide) rfl gn3 gu3 gc3 ge3 hv3 hd3
  obtain rfl := Option.some.inj (gn4.symm.trans hg4)
  obtain rfl := Option.some.inj (gt4.symm.trans ht4)
  have r4 : Ev.GFact W 0 Ev.L_tree_signs := Ev.gfact_of (l := Ev.L_tree_signs) (by decide) rfl gn4 gu4 gc4 ge4 hv4 hd4
  obtain rfl := Option.some.inj (gn2.symm.trans hg2)
  obtain rfl := Option.some.inj (gt2.symm.trans ht2)
  have r2 : Ev.TFact W 2 Ev.L_internal_strconv_uint64pow10 := Ev.tfact_of (l := Ev.L_internal_strconv_uint64pow10) rfl rfl gn2 gu2 ge2 gc2 gd2 hv2 hd2
  exact ⟨fun p hp => by
    have hp' : p ∈ [(1, Ev.L_tree_words), (0, Ev.L_tree_signs)] := hp
    simp only [List.mem_cons, List.not_mem_nil, or_false] at hp'
    rcases hp' with rfl | rfl
    · exact r3
    · exact r4, fun g l h => by
    have h' : Ev.tabIn [(2, Ev.L_internal_strconv_uint64pow10)] g = some l := h
    simp only [Ev.tabIn] at h'
    split at h'
    · cases h'; subst_vars; exact r2
    all_goals cases h'⟩
theorem lows : (∀ p ∈ Ev.globs, p.1 < 6) ∧ ∀ g l, Ev.tabl g = some l → g < 6 :=
  ⟨fun p hp => by
    have hp' : p ∈ [(1, Ev.L_tree_words), (0, Ev.L_tree_signs)] := hp
    simp only [List.mem_cons, List.not_mem_nil, or_false] at hp'
    rcases hp' with rfl | rfl <;> decide, fun g l h => by
    have h' : Ev.tabIn [(2, Ev.L_internal_strconv_uint64pow10)] g = some l := h
    simp only [Ev.tabIn] at h'
    split at h'
    · cases h'; subst_vars; decide
    all_goals cases h'⟩
theorem door_met (os : Os) (args : Array Value) : laidMetH Tryd.prog [("math/bits.deBruijn32tab", Rows.laid_math_bits_deBruijn32tab), ("math/bits.deBruijn64tab", Rows.laid_math_bits_deBruijn64tab), ("internal/strconv.uint64pow10", Rows.laid_internal_strconv_uint64pow10), ("balustrade/tree.words", Rows.laid_balustrade_tree_words), ("balustrade/tree.signs", Rows.laid_balustrade_tree_signs)] ((World.doorLaid Tryd.prog 400 os).forCall (fun _ _ => 0) ⟨#[], args, []⟩).memory :=
  laidMetH_of_parts3 (fuel := 8) (laidMet_of_run' 8 (by kernel_rfl) (by kernel_rfl)) (by kernel_rfl) (by kernel_rfl)
theorem walk {w : World} {v0 v1 : Value} (hL : laidMetH Tryd.prog [("math/bits.deBruijn32tab", Rows.laid_math_bits_deBruijn32tab), ("math/bits.deBruijn64tab", Rows.laid_math_bits_deBruijn64tab), ("internal/strconv.uint64pow10", Rows.laid_internal_strconv_uint64pow10), ("balustrade/tree.words", Rows.laid_balustrade_tree_words), ("balustrade/tree.signs", Rows.laid_balustrade_tree_signs)] w) (D : DecVs w 6 [.slice 27 5 (.struct [.int .i64, .slice 3 1 (.int .i64), .int .i64, .str, .int .i64]), .int .u8] [v0, v1]) : Calls Tryd.prog 4 #[v0, v1] w fun e w' => e = .returned (.bool true) ∧ Below w.heap.size w w' := by
  obtain ⟨bs, es, ds, h1, h2, h3, h4⟩ := args_card (of_laid hL) lows D
  obtain ⟨m', hr⟩ := Ev.treeParts_run (Ev.in_live lows) (Ev.glob_still h2) h4
  exact law_walk mix Ev.okT Ev.at4 (n0 := 6) ltG h1 h2 h3 hr
set_option maxRecDepth 100000 in
theorem lifted (os : Os) (started : os.Started) (H : Type) (enc : TypeId × Value → H) :
    ReturnsInHanded {} Tryd.checked os 4 .any (fun w args => (Rows.treePartsSpec.pre enc Tryd.prog Tryd.f4 [] false w args ∧ laidMetH Tryd.prog [("math/bits.deBruijn32tab", Rows.laid_math_bits_deBruijn32tab), ("math/bits.deBruijn64tab", Rows.laid_math_bits_deBruijn64tab), ("internal/strconv.uint64pow10", Rows.laid_internal_strconv_uint64pow10), ("balustrade/tree.words", Rows.laid_balustrade_tree_words), ("balustrade/tree.signs", Rows.laid_balustrade_tree_signs)] w) ∧ sizedMet enc Tryd.prog Tryd.f4 (OpenSpec.ofChange Rows.treePartsSpec) false w args)
      (Rows.treePartsSpec.post enc Tryd.prog Tryd.f4 false true false false) := by
  refine returnsInHanded_of_change_and (C := Tryd.checked) (X := fun w _ => laidMetH Tryd.prog [("math/bits.deBruijn32tab", Rows.laid_math_bits_deBruijn32tab), ("math/bits.deBruijn64tab", Rows.laid_math_bits_deBruijn64tab), ("internal/strconv.uint64pow10", Rows.laid_internal_strconv_uint64pow10), ("balustrade/tree.words", Rows.laid_balustrade_tree_words), ("balustrade/tree.signs", Rows.laid_balustrade_tree_signs)] w) (fun _ _ _ hh h => h.of_heap hh) own started (by kernel_rfl) Tryd.func4
    (ChangeSpec.witness_shaped (enc := enc) (C := Tryd.checked) (os := os) (X := fun w _ => laidMetH Tryd.prog [("math/bits.deBruijn32tab", Rows.laid_math_bits_deBruijn32tab), ("math/bits.deBruijn64tab", Rows.laid_math_bits_deBruijn64tab), ("internal/strconv.uint64pow10", Rows.laid_internal_strconv_uint64pow10), ("balustrade/tree.words", Rows.laid_balustrade_tree_words), ("balustrade/tree.signs", Rows.laid_balustrade_tree_signs)] w) false (World.doorLaid Tryd.prog 400 os) #[.slice none 0 0, .int .u8 0] 8 rfl (World.shaped_of_RefB (by kernel_rfl) (by kernel_rfl)) (by kernel_rfl) (by kernel_rfl) (by kernel_rfl) (door_met os _)) ?_
  intro W base args ds gs before hval0 hW _ _ hL _
  have hval : ∀ (j : Nat) t v, Tryd.f4.params[j]? = some t → args[j]? = some v → Value.okWide Tryd.prog W .any base t v := hval0
  have hW' := hW
  obtain ⟨p, q, hA0, hV, rfl, hfz, hnd⟩ := hW
  have hA : DataW.TrodAll enc Tryd.prog W 0 (fun _ => true) true Tryd.f4.params.toList args.toList ds p := hA0
  rw [Tryd.params4] at hA hval
  obtain ⟨v0, vs0, d0, ds0, p0, q0, hargs, rfl, rfl, h0, r0⟩ := trodAll_cons hA
  obtain ⟨v1, vs1, d1, ds1, p1, q1, rfl, rfl, rfl, h1, r1⟩ := trodAll_cons r0
  obtain ⟨rfl, rfl, rfl⟩ := trodAll_nil r1
  obtain rfl : args = #[v0, v1] := by cases args; simp_all
  obtain ⟨rfl, rfl⟩ := trodVars_none hV
  have lt0 : ∀ x ∈ p0, x.block < W.heap.size := by obtain ⟨m, hm⟩ := h0; exact DataW.trod_lt m _ _ _ hm
  have D0 : Ev.DecV W 6 (.slice 27 5 (.struct [.int .i64, .slice 3 1 (.int .i64), .int .i64, .str, .int .i64])) v0 := dec_val shape0 (hval 0 22 v0 rfl rfl) h0
  have lt1 : ∀ x ∈ p1, x.block < W.heap.size := by obtain ⟨m, hm⟩ := h1; exact DataW.trod_lt m _ _ _ hm
  have D1 : Ev.DecV W 6 (.int .u8) v1 := dec_val shape1 (hval 1 5 v1 rfl rfl) h1
  refine (walk hL (.cons D0 (.cons D1 .nil))).mono fun e W' ⟨he, bel⟩ => ?_
  subst he
  exact ⟨_, rfl, _, _, _, [], _, [], hW', trodAll_mk1 (shut_bool Tryd.underlying4 _), (trodAll_cons_mk (Below.trod laidOut (by kernel_rfl) (of_decide_eq_true (by kernel_rfl)) h0 bel lt0) (trodAll_cons_mk (Below.trod laidOut (by kernel_rfl) (of_decide_eq_true (by kernel_rfl)) h1 bel lt1) trodAll_mk0)), rfl, bel.frame _, fun h => by cases h⟩
theorem over : Rows.treePartsRow.holds Tryd.pinned (OpenSpec.ofChange Rows.treePartsSpec) :=
  OpenClaim.holds_of_wide 4 Tryd.f4 rfl rfl rfl rfl rfl rfl rfl ⟨rfl, rfl, rfl, rfl, rfl⟩ rfl rfl rfl rfl rfl (by kernel_rfl) Tryd.func4 (by kernel_rfl)
    (of_decide_eq_true (by kernel_rfl)) (by unfold Func.isWrapper; first | (rw [if_pos (by decide +kernel)]; kernel_rfl) | (rw [if_neg (by decide +kernel)]; exact ⟨rfl, rfl⟩))
    (fun os started H enc _ => lifted os started H enc)
theorem proved : Rows.TreePartsCardSaid :=
  Claim7.holds_tied_plain_at .later [] [.data, .data, .data, .widerDeep, .widerDeep] true (true, "e1bec4c741425eb2c7d47f4da18aba3de0ce682689772fbef8bd7555f1c204a6") false
    over (fun _ h => by cases h) (by kernel_rfl) (fun _ h => by cases h) treeParts_row_tie rfl ⟨rfl, rfl⟩ (by kernel_rfl) rfl
    (fun f fn hf hfn => by
      obtain rfl : f = 4 := Option.some.inj ((show Tryd.prog.funcNamed "balustrade/balustradelaw06.TreeParts" = some 4 by kernel_rfl).symm.trans hf) |>.symm
      obtain rfl : fn = Tryd.f4 := (Option.some.inj (Tryd.func4.symm.trans hfn)).symm
      exact ⟨by kernel_rfl, fun j t ht => by
        rw [Tryd.params4] at ht
        have hm : t ∈ [22, 5] := by simpa using Array.mem_of_getElem? ht
        have hall : ([22, 5].all fun u => !Tryd.prog.wantsStandIn u) = true := by kernel_rfl
        exact (show Tryd.prog.wantsStandIn t = false by simpa using List.all_eq_true.1 hall t hm)⟩)
    (by kernel_rfl)
end Go.Proofs.YtblcomejcahkdaaDoor.treeParts
namespace Go.Proofs.YtblcomejcahkdaaDoor
/-- The card, under a short name, for the claim. -/
theorem treeParts_card : Rows.TreePartsCardSaid := treeParts.proved
end Go.Proofs.YtblcomejcahkdaaDoor
#print axioms Go.Proofs.YtblcomejcahkdaaDoor.treeParts_card
