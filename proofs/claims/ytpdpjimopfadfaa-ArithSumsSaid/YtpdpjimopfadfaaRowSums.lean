/- ArithSums: for every list of ints both sums tell the same, and the chapter's examples hold: the law returns true, and leaves what it was given as it was. No condition. -/
import Derived.Test.YtpdpjimopfadfaaRows
import Derived.Test.YtpdpjimopfadfaaLawSums
import Derived.Test.YtpdpjimopfadfaaEvArgs
import Derived.WalkKit
import Derived.ProofKit
import Derived.OpenShut
import Derived.ShutString
import Derived.ChangeOld
import Derived.Below
namespace Go.Proofs.Ytpdpjimopfadfaa.arithSums
open Go.ChangeShapes Go.WideShapes Go.ChangeAt Go.RowKit
open Go.Proofs.Ytpdpjimopfadfaa.Ev (Ints InB InOk inMem inRen law_walk in_slice wide_slice T mix okT at4 ltG)
set_option linter.unusedVariables false
theorem own : ownKnob Try.prog.godebug = none := by kernel_rfl
theorem laidOut : laidOutB Try.prog = true := by kernel_rfl
theorem walk_nil (w : World) : Calls Try.prog 4 #[.slice none 0 0] w fun e w' => e = .returned (.bool true) ∧ Below w.heap.size w w' := by
  obtain ⟨m, hm⟩ := Ev.isTrue_of Ev.sums_nil
  exact law_walk mix okT at4 (n0 := 0) ltG (bs := []) (fun i B h => by simp at h) (.cons .nilslice .nil) (Ev.run_iff.2 ⟨5000, hm⟩)
theorem walk_some (w : World) (a : Addr) (len cap : Nat) (zs : List Int) (hl : len ≤ cap) (hz : len ≤ zs.length) (hs : a.spot = none) (hb : ∃ arr e fz, w.heap[a.block]? = some (.cells arr e fz))
    (hc : ∀ i, i < zs.length → w.cell? (a.add i) = some (.int .i64 (zs.getD i 0))) (hw : ∀ n ∈ zs, (Lit.int .i64 n).wf = true) :
    Calls Try.prog 4 #[.slice (some a) len cap] w fun e w' => e = .returned (.bool true) ∧ Below w.heap.size w w' := by
  obtain ⟨arr, e, fz, harr⟩ := hb
  have hcell : ∀ i, i < len → arr[a.off + i]? = some (.int .i64 (zs.getD i 0)) := by
    intro i hi
    have h := hc i (by omega)
    unfold World.cell? at h
    have h1 : (a.add i).block = a.block := by unfold Addr.add; split <;> rfl
    have h2 : (a.add i).off = a.off + i := by unfold Addr.add; split <;> simp_all
    have h3 : (a.add i).spot = none := by unfold Addr.add; split <;> simp_all
    rw [h1, harr] at h
    simp only [h3, h2, Option.isSome_none, Bool.false_eq_true, if_false] at h
    exact h
  let l := zs.take len
  have hll : l.length = len := by simp [l]; omega
  let B : InB := ⟨a.block, if len = 0 then 0 else a.off, arr.size, 1, l.map (Ev.EV.int .i64)⟩
  have hok : InOk w 0 [B] := by
    intro i C hC
    cases i with
    | succ i => simp at hC
    | zero =>
      simp at hC; subst hC
      refine ⟨arr, e, fz, harr, rfl, ?_, ?_⟩
      · show (if len = 0 then 0 else a.off) + (l.map _).length ≤ arr.size
        rw [List.length_map, hll]
        split
        · omega
        · have := (Array.getElem?_eq_some_iff.1 (hcell (len - 1) (by omega))).1
          omega
      · intro j v hj
        have hj : (l.map (Ev.EV.int .i64))[j]? = some v := hj
        rw [List.getElem?_map] at hj
        obtain ⟨n, hn, rfl⟩ := Option.map_eq_some_iff.1 hj
        have hjl : j < len := by have := (List.getElem?_eq_some_iff.1 hn).1; omega
        refine ⟨.int .i64 n, ?_, .int _ _, rfl⟩
        show arr[(if len = 0 then 0 else a.off) + j]? = _
        rw [if_neg (by omega), hcell j hjl]
        have : zs.getD j 0 = n := by
          rw [List.getElem?_take] at hn
          rw [if_pos hjl] at hn
          rw [List.getD_eq_getElem?_getD, hn]; rfl
        rw [this]
  have hints : Ints (inMem 0 [B]) 0 0 l := by
    refine ⟨fun i hi => ?_⟩
    have hg : (inMem 0 [B]).get (0 + 0) = .cells (l.map (Ev.EV.int .i64)) 1 0 true := Ev.inMem_at (n0 := 0) (bs := [B]) (i := 0) (B := B) rfl
    rw [Nat.add_zero] at hg
    simp only [Ev.Mem.load, hg, Ev.partOf]
    rw [List.getElem?_map, show 0 + i * 1 = i by omega, List.getElem?_eq_getElem hi]
    rfl
  have hfit : ∀ n ∈ l, Ev.fits n := by
    intro n hn
    have := hw n (List.mem_of_mem_take hn)
    unfold Ev.fits
    simp [Lit.wf, IntKind.min, IntKind.max, IntKind.signed, IntKind.bits] at this
    omega
  have hrun := Ev.sums_run hints hfit
  rw [hll] at hrun
  exact law_walk mix okT at4 (n0 := 0) ltG hok (.cons (in_slice (i := 0) (B := B) rfl rfl hs hl (fun h => by show a.off = if len = 0 then 0 else a.off; rw [if_neg (by omega)])) .nil) hrun
set_option maxRecDepth 100000 in
theorem lifted (os : Os) (started : os.Started) (H : Type) (enc : TypeId × Value → H) :
    ReturnsInHanded {} Try.checked os 4 .any (Rows.arithSumsSpec.pre6 enc Try.prog Try.f4 Rows.arithSumsRow.domain false) (Rows.arithSumsSpec.post enc Try.prog Try.f4 false true false false) := by
  refine returnsInHanded_of_change (C := Try.checked) own started (by kernel_rfl) Try.func4
    (ChangeSpec.witness6 (enc := enc) (C := Try.checked) false ⟨#[], #[.slice none 0 0], []⟩ 8 (by kernel_rfl) (by kernel_rfl) (by kernel_rfl) (by kernel_rfl)) ?_
  intro W base args ds gs before hval0 hW hcnd _
  have hval : ∀ (j : Nat) t v, Try.f4.params[j]? = some t → args[j]? = some v → Value.okWide Try.prog W .any base t v := hval0
  have hW' := hW
  obtain ⟨p, q, hA0, hV, rfl, hfz, hnd⟩ := hW
  have hA : DataW.TrodAll enc Try.prog W 0 (fun _ => true) true Try.f4.params.toList args.toList ds p := hA0
  rw [Try.params4] at hA hval
  obtain ⟨v0, vs0, d0, ds0, p0, q0, hargs, rfl, rfl, h0, r0⟩ := trodAll_cons hA
  obtain ⟨rfl, rfl, rfl⟩ := trodAll_nil r0
  obtain rfl : args = #[v0] := by cases args; simp_all
  obtain ⟨rfl, rfl⟩ := trodVars_none hV
  have k0 := h0
  have lt0 : ∀ x ∈ p0, x.block < W.heap.size := by obtain ⟨m, hm⟩ := k0; exact DataW.trod_lt m _ _ _ hm
  have hcall : Calls Try.prog 4 #[v0] W fun e w' => e = .returned (.bool true) ∧ Below W.heap.size W w' := by
    rcases wide_slice Try.underlying26 (hval 0 26 v0 rfl rfl) with rfl | ⟨a, len, cap, rfl, hl, hs, hb⟩
    · exact walk_nil W
    · obtain ⟨fuel, hf⟩ := h0
      rcases open_ints Try.underlying26 Try.underlying3 (by kernel_rfl) hf with ⟨hcs, _⟩ | ⟨x, l, c, zs, hcs, _, hl', hm, hz, _, hcell, hwz⟩
      · simp [Value.cells] at hcs
      · simp [Value.cells] at hcs
        obtain ⟨rfl, rfl, rfl⟩ := hcs
        exact walk_some W a len cap zs hl (by simp at hz; omega) hs hb hcell hwz
  refine hcall.mono fun e W' ⟨he, bel⟩ => ?_
  subst he
  exact ⟨_, rfl, _, _, _, [], _, [], hW', trodAll_mk1 (shut_bool Try.underlying4 _), (trodAll_cons_mk (Below.trod laidOut (by kernel_rfl) (of_decide_eq_true (by kernel_rfl)) k0 bel lt0) trodAll_mk0), rfl, bel.frame _, fun h => by cases h⟩
theorem over : Rows.arithSumsRow.holds Try.pinned (OpenSpec.ofChange Rows.arithSumsSpec) :=
  OpenClaim.holds_of_wide 4 Try.f4 rfl rfl rfl rfl rfl rfl rfl ⟨rfl, rfl, rfl, rfl, rfl⟩ rfl rfl rfl rfl rfl (by kernel_rfl) Try.func4 (by kernel_rfl)
    (of_decide_eq_true (by kernel_rfl)) (by unfold Func.isWrapper; first | (rw [if_pos (by decide +kernel)]; kernel_rfl) | (rw [if_neg (by decide +kernel)]; exact ⟨rfl, rfl⟩))
    (fun os started H enc _ => lifted os started H enc)
theorem proved : Rows.ArithSumsSaid := over
end Go.Proofs.Ytpdpjimopfadfaa.arithSums
namespace Go.Proofs.Ytpdpjimopfadfaa
/-- The row, under a short name, for the claim. -/
theorem arithSums_holds : Rows.ArithSumsSaid := arithSums.proved
end Go.Proofs.Ytpdpjimopfadfaa
#print axioms Go.Proofs.Ytpdpjimopfadfaa.arithSums_holds
