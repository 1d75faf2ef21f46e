/- ScopeBack: the law returns true for every input, and leaves what it was given as it was. No condition. -/
import Derived.Test.YtjegondbhejpcaaRows
import Derived.Test.YtjegondbhejpcaaMf
import Derived.WalkKit
import Derived.ProofKit
import Derived.OpenShut
import Derived.ShutString
import Derived.ChangeOld
import Derived.Below
namespace Go.Proofs.Ytjegondbhejpcaa.scopeBack
open Go.ChangeShapes Go.WideShapes Go.ChangeAt Go.RowKit
open Go.Proofs.Ytjegondbhejpcaa.Ev (law_walk args_in DecVs dec_val mix ltG)
set_option linter.unusedVariables false
theorem own : ownKnob Try.prog.godebug = none := by kernel_rfl
theorem laidOut : laidOutB Try.prog = true := by kernel_rfl
theorem shape0 : Ev.shOk Try.prog 8 (.slice 46 3 (.struct [.int .i64, .str, .int .i64])) 22 = true := by kernel_rfl
theorem shape1 : Ev.shOk Try.prog 8 (.slice 46 3 (.struct [.int .i64, .str, .int .i64])) 22 = true := by kernel_rfl
theorem shape2 : Ev.shOk Try.prog 8 (.str) 9 = true := by kernel_rfl
theorem walk {w : World} {v0 v1 v2 : Value} (D : DecVs w 0 [.slice 46 3 (.struct [.int .i64, .str, .int .i64]), .slice 46 3 (.struct [.int .i64, .str, .int .i64]), .str] [v0, v1, v2]) : Calls Try.prog 3 #[v0, v1, v2] w fun e w' => e = .returned (.bool true) ∧ Below w.heap.size w w' := by
  obtain ⟨bs, es, ds, h1, h2, h3⟩ := args_in D
  obtain ⟨m', hr⟩ := Ev.back_run Ev.in_live h3
  exact law_walk mix Ev.okT (Ev.HasF.has (T := Ev.T) (f := 3) (F := Ev.F_l10_ScopeBack)) (n0 := 0) ltG h1 h2 hr
set_option maxRecDepth 100000 in
theorem lifted (os : Os) (started : os.Started) (H : Type) (enc : TypeId × Value → H) :
    ReturnsInHanded {} Try.checked os 3 .any (Rows.scopeBackSpec.pre6 enc Try.prog Try.f3 Rows.scopeBackRow.domain false) (Rows.scopeBackSpec.post enc Try.prog Try.f3 false true false false) := by
  refine returnsInHanded_of_change (C := Try.checked) own started (by kernel_rfl) Try.func3
    (ChangeSpec.witness6 (enc := enc) (C := Try.checked) false ⟨#[], #[.slice none 0 0, .slice none 0 0, .string .empty], []⟩ 8 (by kernel_rfl) (by kernel_rfl) (by kernel_rfl) (by kernel_rfl)) ?_
  intro W base args ds gs before hval0 hW hcnd _
  have hval : ∀ (j : Nat) t v, Try.f3.params[j]? = some t → args[j]? = some v → Value.okWide Try.prog W .any base t v := hval0
  have hW' := hW
  obtain ⟨p, q, hA0, hV, rfl, hfz, hnd⟩ := hW
  have hA : DataW.TrodAll enc Try.prog W 0 (fun _ => true) true Try.f3.params.toList args.toList ds p := hA0
  rw [Try.params3] at hA hval
  obtain ⟨v0, vs0, d0, ds0, p0, q0, hargs, rfl, rfl, h0, r0⟩ := trodAll_cons hA
  obtain ⟨v1, vs1, d1, ds1, p1, q1, rfl, rfl, rfl, h1, r1⟩ := trodAll_cons r0
  obtain ⟨v2, vs2, d2, ds2, p2, q2, rfl, rfl, rfl, h2, r2⟩ := trodAll_cons r1
  obtain ⟨rfl, rfl, rfl⟩ := trodAll_nil r2
  obtain rfl : args = #[v0, v1, v2] := by cases args; simp_all
  obtain ⟨rfl, rfl⟩ := trodVars_none hV
  have lt0 : ∀ x ∈ p0, x.block < W.heap.size := by obtain ⟨m, hm⟩ := h0; exact DataW.trod_lt m _ _ _ hm
  have D0 : Ev.DecV W 0 (.slice 46 3 (.struct [.int .i64, .str, .int .i64])) v0 := dec_val shape0 (hval 0 22 v0 rfl rfl) h0
  have lt1 : ∀ x ∈ p1, x.block < W.heap.size := by obtain ⟨m, hm⟩ := h1; exact DataW.trod_lt m _ _ _ hm
  have D1 : Ev.DecV W 0 (.slice 46 3 (.struct [.int .i64, .str, .int .i64])) v1 := dec_val shape1 (hval 1 22 v1 rfl rfl) h1
  have lt2 : ∀ x ∈ p2, x.block < W.heap.size := by obtain ⟨m, hm⟩ := h2; exact DataW.trod_lt m _ _ _ hm
  have D2 : Ev.DecV W 0 (.str) v2 := dec_val shape2 (hval 2 9 v2 rfl rfl) h2
  refine (walk (.cons D0 (.cons D1 (.cons D2 .nil)))).mono fun e W' ⟨he, bel⟩ => ?_
  subst he
  exact ⟨_, rfl, _, _, _, [], _, [], hW', trodAll_mk1 (shut_bool Try.underlying4 _), (trodAll_cons_mk (Below.trod laidOut (by kernel_rfl) (of_decide_eq_true (by kernel_rfl)) h0 bel lt0) (trodAll_cons_mk (Below.trod laidOut (by kernel_rfl) (of_decide_eq_true (by kernel_rfl)) h1 bel lt1) (trodAll_cons_mk (Below.trod laidOut (by kernel_rfl) (of_decide_eq_true (by kernel_rfl)) h2 bel lt2) trodAll_mk0))), rfl, bel.frame _, fun h => by cases h⟩
theorem over : Rows.scopeBackRow.holds Try.pinned (OpenSpec.ofChange Rows.scopeBackSpec) :=
  OpenClaim.holds_of_wide 3 Try.f3 rfl rfl rfl rfl rfl rfl rfl ⟨rfl, rfl, rfl, rfl, rfl⟩ rfl rfl rfl rfl rfl (by kernel_rfl) Try.func3 (by kernel_rfl)
    (of_decide_eq_true (by kernel_rfl)) (by unfold Func.isWrapper; first | (rw [if_pos (by decide +kernel)]; kernel_rfl) | (rw [if_neg (by decide +kernel)]; exact ⟨rfl, rfl⟩))
    (fun os started H enc _ => lifted os started H enc)
theorem proved : Rows.ScopeBackSaid := over
end Go.Proofs.Ytjegondbhejpcaa.scopeBack
namespace Go.Proofs.Ytjegondbhejpcaa
/-- The row, under a short name, for the claim. -/
theorem scopeBack_holds : Rows.ScopeBackSaid := scopeBack.proved
end Go.Proofs.Ytjegondbhejpcaa
#print axioms Go.Proofs.Ytjegondbhejpcaa.scopeBack_holds
