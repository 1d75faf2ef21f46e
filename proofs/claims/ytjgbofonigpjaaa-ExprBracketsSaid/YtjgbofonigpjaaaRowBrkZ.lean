/- ExprBrackets: the law returns true for every input, and leaves what it was given as it was. No condition. -/
import Derived.Test.YtjgbofonigpjaaaRows
import Derived.Test.YtjgbofonigpjaaaMh
import Derived.WalkKit
import Derived.ProofKit
import Derived.OpenShut
import Derived.ShutString
import Derived.ChangeOld
import Derived.Below
namespace Go.Proofs.Ytjgbofonigpjaaa.exprBrackets
open Go.ChangeShapes Go.WideShapes Go.ChangeAt Go.RowKit
open Go.Proofs.Ytjgbofonigpjaaa.Ev (law_walk args_in DecVs dec_val mix ltG)
set_option linter.unusedVariables false
theorem own : ownKnob Try.prog.godebug = none := by kernel_rfl
theorem laidOut : laidOutB Try.prog = true := by kernel_rfl
theorem shape0 : Ev.shOk Try.prog 8 (.str) 9 = true := by kernel_rfl
theorem shape1 : Ev.shOk Try.prog 8 (.int .u8) 5 = true := by kernel_rfl
theorem walk {w : World} {v0 v1 : Value} (D : DecVs w 0 [.str, .int .u8] [v0, v1]) : Calls Try.prog 3 #[v0, v1] w fun e w' => e = .returned (.bool true) ∧ Below w.heap.size w w' := by
  obtain ⟨bs, es, ds, h1, h2, h3⟩ := args_in D
  obtain ⟨m', hr⟩ := Ev.brackets_run Ev.in_live h3
  exact law_walk mix Ev.okT (Ev.HasF.has (T := Ev.T) (f := 3) (F := Ev.F_l07_ExprBrackets)) (n0 := 0) ltG h1 h2 hr
set_option maxRecDepth 100000 in
theorem lifted (os : Os) (started : os.Started) (H : Type) (enc : TypeId × Value → H) :
    ReturnsInHanded {} Try.checked os 3 .any (Rows.exprBracketsSpec.pre6 enc Try.prog Try.f3 Rows.exprBracketsRow.domain false) (Rows.exprBracketsSpec.post enc Try.prog Try.f3 false true false false) := by
  refine returnsInHanded_of_change (C := Try.checked) own started (by kernel_rfl) Try.func3
    (ChangeSpec.witness6 (enc := enc) (C := Try.checked) false ⟨#[], #[.string .empty, .int .u8 0], []⟩ 8 (by kernel_rfl) (by kernel_rfl) (by kernel_rfl) (by kernel_rfl)) ?_
  intro W base args ds gs before hval0 hW hcnd _
  have hval : ∀ (j : Nat) t v, Try.f3.params[j]? = some t → args[j]? = some v → Value.okWide Try.prog W .any base t v := hval0
  have hW' := hW
  obtain ⟨p, q, hA0, hV, rfl, hfz, hnd⟩ := hW
  have hA : DataW.TrodAll enc Try.prog W 0 (fun _ => true) true Try.f3.params.toList args.toList ds p := hA0
  rw [Try.params3] at hA hval
  obtain ⟨v0, vs0, d0, ds0, p0, q0, hargs, rfl, rfl, h0, r0⟩ := trodAll_cons hA
  obtain ⟨v1, vs1, d1, ds1, p1, q1, rfl, rfl, rfl, h1, r1⟩ := trodAll_cons r0
  obtain ⟨rfl, rfl, rfl⟩ := trodAll_nil r1
  obtain rfl : args = #[v0, v1] := by cases args; simp_all
  obtain ⟨rfl, rfl⟩ := trodVars_none hV
  have lt0 : ∀ x ∈ p0, x.block < W.heap.size := by obtain ⟨m, hm⟩ := h0; exact DataW.trod_lt m _ _ _ hm
  have D0 : Ev.DecV W 0 (.str) v0 := dec_val shape0 (hval 0 9 v0 rfl rfl) h0
  have lt1 : ∀ x ∈ p1, x.block < W.heap.size := by obtain ⟨m, hm⟩ := h1; exact DataW.trod_lt m _ _ _ hm
  have D1 : Ev.DecV W 0 (.int .u8) v1 := dec_val shape1 (hval 1 5 v1 rfl rfl) h1
  refine (walk (.cons D0 (.cons D1 .nil))).mono fun e W' ⟨he, bel⟩ => ?_
  subst he
  exact ⟨_, rfl, _, _, _, [], _, [], hW', trodAll_mk1 (shut_bool Try.underlying4 _), (trodAll_cons_mk (Below.trod laidOut (by kernel_rfl) (of_decide_eq_true (by kernel_rfl)) h0 bel lt0) (trodAll_cons_mk (Below.trod laidOut (by kernel_rfl) (of_decide_eq_true (by kernel_rfl)) h1 bel lt1) trodAll_mk0)), rfl, bel.frame _, fun h => by cases h⟩
theorem over : Rows.exprBracketsRow.holds Try.pinned (OpenSpec.ofChange Rows.exprBracketsSpec) :=
  OpenClaim.holds_of_wide 3 Try.f3 rfl rfl rfl rfl rfl rfl rfl ⟨rfl, rfl, rfl, rfl, rfl⟩ rfl rfl rfl rfl rfl (by kernel_rfl) Try.func3 (by kernel_rfl)
    (of_decide_eq_true (by kernel_rfl)) (by unfold Func.isWrapper; first | (rw [if_pos (by decide +kernel)]; kernel_rfl) | (rw [if_neg (by decide +kernel)]; exact ⟨rfl, rfl⟩))
    (fun os started H enc _ => lifted os started H enc)
theorem proved : Rows.ExprBracketsSaid := over
end Go.Proofs.Ytjgbofonigpjaaa.exprBrackets
namespace Go.Proofs.Ytjgbofonigpjaaa
/-- The row, under a short name, for the claim. -/
theorem exprBrackets_holds : Rows.ExprBracketsSaid := exprBrackets.proved
end Go.Proofs.Ytjgbofonigpjaaa
#print axioms Go.Proofs.Ytjgbofonigpjaaa.exprBrackets_holds
