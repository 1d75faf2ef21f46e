/- From a run of the evaluator to a law's walk; more fuel tells the same. -/
import Derived.Test.YthlbifjgnhdonaaEvCode
import Derived.Below
namespace Go.Proofs.Ythlbifjgnhdonaa.Ev
open Go Go.RowKit

/-- A run of a law: the machine's call returns, and what was there stands as it stood. -/
theorem law_calls {P : Program} {G : List Nat} (hmix : P.follows .mixedOrders = true) {T : Nat → Option Ent} (hT : ∀ f e, T f = some e → EntOk P G f e) {k f : Nat} {F : IFun} (hf : T f = some (.go F))
    {args : List EV} {m m' : Mem} {b : Bool} (h : evFun T k f args m = some (.ret (.bool b) m')) {ρ : Ren} {w : World} {args' : Array Value} (hR : R w.heap.size ρ m w) (hG : Globs G ρ)
    (hro : ∀ b L, ρ b = some L → Live m b → L.ro = true) (hv : VRs ρ args args'.toList) : Calls P f args' w fun e w' => e = .returned (.bool b) ∧ Below w.heap.size w w' := by
  cases k with
  | zero => simp [evFun] at h
  | succ k =>
    simp only [evFun, hf, evEnt] at h
    obtain ⟨fn, h1, h2⟩ := hT f _ hf
    obtain ⟨_, hc⟩ := body_sound hmix (evFun_ok hmix hT k) k h1 h2 h hR hG hv
    refine hc.mono fun e w' hp => ?_
    obtain ⟨ρ', v', rfl, hvv, _, hs⟩ := hp
    cases hvv
    refine ⟨rfl, hs.os, hs.tape, hs.output, hs.size, fun i hi => hs.kept i hi ?_⟩
    rintro ⟨b, L, h1, h2, h3, _⟩
    rw [hro b L h1 h2] at h3
    cases h3

/-- Where a call begins that is given no memory: the globals alone, of which nothing is known. -/
def ren0 (n : Nat) : Ren := fun b => if b < n then some ⟨b, 0, 0, 1, true⟩ else none
def mem0 (n : Nat) : Mem := ⟨n, .leaf⟩
theorem mem0_get (n b : Nat) : (mem0 n).get b = .dead := by unfold Mem.get mem0; simp only [Tr.get_leaf]; rfl
theorem start_R (n : Nat) (w : World) : R w.heap.size (ren0 n) (mem0 n) w := by
  refine ⟨fun b L hb => ?_, fun b L hb => ?_, fun b c L L' _ _ h3 => absurd (mem0_get n b) h3, Nat.le_refl _, fun b _ => mem0_get n b⟩
  · unfold ren0 at hb; split at hb
    · assumption
    · cases hb
  · rw [mem0_get]; trivial
theorem start_G {n : Nat} {G : List Nat} (h : ∀ g, G.contains g = true → g < n) : Globs G (ren0 n) := fun g hg => ⟨⟨g, 0, 0, 1, true⟩, by unfold ren0; rw [if_pos (h g hg)], rfl, rfl⟩
theorem start_ro (n : Nat) : ∀ b L, ren0 n b = some L → Live (mem0 n) b → L.ro = true := fun b _ _ h => absurd (mem0_get n b) h

/-! ### More fuel -/
def CallLe (c c' : Call) : Prop := ∀ f a m r, c f a m = some r → c' f a m = some r
theorem evCall_le {c c' : Call} (h : CallLe c c') {f : EV} {a : List EV} {m : Mem} {r : Fin} (e : evCall c f a m = some r) : evCall c' f a m = some r := by
  cases f <;> simp only [evCall, reduceCtorEq] at e ⊢
  exact h _ _ _ _ e
theorem evOps_le {c c' : Call} (h : CallLe c c') : ∀ (ops : List IOper) (fr : Fr) (m : Mem) (r : Out), evOps c ops fr m = some r → evOps c' ops fr m = some r
  | [], fr, m, r, e => e
  | o :: ops, fr, m, r, e => by
    simp only [evOps] at e ⊢
    cases hw : wantedE fr o.guard with
    | none => simp [hw] at e
    | some b =>
    cases b with
    | false => simp only [hw] at e ⊢; exact evOps_le h ops _ _ _ e
    | true =>
      simp only [hw] at e ⊢
      cases ho : o.op with
      | val op =>
        simp only [ho] at e ⊢
        cases hv : evOp fr.eval op m with
        | none => simp [hv] at e
        | some q => obtain ⟨v, m1⟩ := q; simp only [hv] at e ⊢; exact evOps_le h ops _ _ _ e
      | call f args =>
        simp only [ho] at e ⊢
        cases hv : evCall c (fr.eval f) (args.map fr.eval) m with
        | none => simp [hv] at e
        | some q =>
          rw [evCall_le h hv]
          cases q with
          | ret v m1 => simp only [hv] at e ⊢; exact evOps_le h ops _ _ _ e
          | pan v m1 => simp only [hv] at e ⊢; exact e
      | panic x => simp only [ho] at e ⊢; exact e
      | defer f args =>
        simp only [ho] at e ⊢
        split at e
        · exact evOps_le h ops _ _ _ e
        · cases e
theorem evDraw_le {c c' : Call} (h : CallLe c c') {chk : List (Nat × Nat)} {B0 : Nat} : ∀ (ops : List IOper) (i : Nat) (fr : Fr) (m : Mem) (sn : List (Nat × Mem)) (se : List Seen) (r : Out), evDraw c chk B0 ops i fr m sn se = some r → evDraw c' chk B0 ops i fr m sn se = some r
  | [], i, fr, m, sn, se, r, e => e
  | o :: ops, i, fr, m, sn, se, r, e => by
    simp only [evDraw] at e ⊢
    cases hw : wantedE fr o.guard with
    | none => simp [hw] at e
    | some b =>
    cases b with
    | false => simp only [hw] at e ⊢; exact evDraw_le h ops _ _ _ _ _ _ e
    | true =>
      simp only [hw] at e ⊢
      cases ho : o.op with
      | panic x => simp [ho] at e
      | defer f x => simp [ho] at e
      | call f args =>
        simp only [ho] at e ⊢
        cases hv : evCall c (fr.eval f) (args.map fr.eval) m with
        | none => simp [hv] at e
        | some q =>
          rw [evCall_le h hv]
          cases q with
          | pan v m1 => simp [hv] at e
          | ret v m1 =>
            simp only [hv] at e ⊢
            cases hk : checkSeen chk i m1 se <;> simp only [hk, cond_true, cond_false, reduceCtorEq] at e ⊢
            exact evDraw_le h ops _ _ _ _ _ _ e
      | val op =>
        simp only [ho] at e ⊢
        split at e
        · cases hv : evOp fr.eval op m with
          | none => simp [hv] at e
          | some q => obtain ⟨v, m1⟩ := q; simp only [hv] at e ⊢; exact evDraw_le h ops _ _ _ _ _ _ e
        · cases hv : evOp fr.eval op ⟨B0 + i, m.tbl⟩ with
          | none => simp [hv] at e
          | some q => obtain ⟨v, m1⟩ := q; simp only [hv] at e ⊢; exact evDraw_le h ops _ _ _ _ _ _ e
        · split at e
          · rename_i agg x _
            cases hl : m.load agg (fr.eval x) with
            | none => simp [hl] at e
            | some v =>
              simp only [hl] at e ⊢
              cases hk : checkSnap chk i agg (fr.eval x) v sn <;> simp only [hk, cond_true, cond_false, reduceCtorEq] at e ⊢
              exact evDraw_le h ops _ _ _ _ _ _ e
          · cases e
        · rename_i h0 h1 h2
          cases hv : evOp fr.eval op m with
          | none => simp [hv] at e
          | some q =>
            obtain ⟨v, m1⟩ := q
            simp only [hv] at e ⊢
            cases hk : checkSeen chk i m1 se <;> simp only [hk, cond_true, cond_false, reduceCtorEq] at e ⊢
            exact evDraw_le h ops _ _ _ _ _ _ e
theorem iter_le {b b' : Fr → Mem → Option Out} (h : ∀ fr m r, b fr m = some r → b' fr m = some r) : ∀ (n n' : Nat), n ≤ n' → ∀ (fr : Fr) (m : Mem) (r : Out), iter b n fr m = some r → iter b' n' fr m = some r
  | 0, n', _, fr, m, r, e => by simp [iter] at e
  | n + 1, 0, hn, fr, m, r, e => by omega
  | n + 1, n' + 1, hn, fr, m, r, e => by
    simp only [iter] at e ⊢
    cases hb : b fr m with
    | none => simp [hb] at e
    | some o =>
      rw [h _ _ _ hb]
      simp only [hb] at e
      cases o with
      | norm fr1 m1 => exact iter_le h n n' (by omega) fr1 m1 r e
      | exit id fr1 m1 => exact e
      | ret fr1 m1 => exact e
      | pan v fr1 m1 => exact e
theorem evCode_le {c c' : Call} (h : CallLe c c') {n n' : Nat} (hn : n ≤ n') : ∀ (x : ICode) (fr : Fr) (m : Mem) (r : Out), evCode c n x fr m = some r → evCode c' n' x fr m = some r
  | .skip, fr, m, r, e => e
  | .ret, fr, m, r, e => e
  | .exit id, fr, m, r, e => e
  | .region ops, fr, m, r, e => by simp only [evCode] at e ⊢; exact evOps_le h _ _ _ _ e
  | .draw ops chk, fr, m, r, e => by simp only [evCode] at e ⊢; exact evDraw_le h _ _ _ _ _ _ _ e
  | .seq a b, fr, m, r, e => by
    simp only [evCode] at e ⊢
    cases ha : evCode c n a fr m with
    | none => simp [ha] at e
    | some o =>
      rw [evCode_le h hn a _ _ _ ha]
      simp only [ha] at e
      cases o with
      | norm fr1 m1 => exact evCode_le h hn b _ _ _ e
      | exit id fr1 m1 => exact e
      | ret fr1 m1 => exact e
      | pan v fr1 m1 => exact e
  | .cond x a b, fr, m, r, e => by
    simp only [evCode] at e ⊢
    split at e
    · rename_i t _
      cases t <;> simp only [cond_true, cond_false] at e ⊢
      · exact evCode_le h hn b _ _ _ e
      · exact evCode_le h hn a _ _ _ e
    · cases e
  | .block id a, fr, m, r, e => by
    simp only [evCode] at e ⊢
    cases ha : evCode c n a fr m with
    | none => simp [ha] at e
    | some o =>
      rw [evCode_le h hn a _ _ _ ha]
      simp only [ha] at e
      exact e
  | .loop a, fr, m, r, e => by
    simp only [evCode] at e ⊢
    exact iter_le (fun fr m r => evCode_le h hn a fr m r) n n' hn fr m r e
theorem evBody_le {c c' : Call} (h : CallLe c c') {n n' : Nat} (hn : n ≤ n') {F : IFun} {args : List EV} {m : Mem} {r : Fin} (e : evBody c n F args m = some r) : evBody c' n' F args m = some r := by
  unfold evBody at e ⊢
  cases hl : args.length.ble F.ntmps <;> simp only [hl, cond_true, cond_false, reduceCtorEq] at e ⊢
  cases hc : evCode c n F.body ⟨args0 args 0 .leaf, []⟩ m with
  | none => simp [hc] at e
  | some o =>
    rw [evCode_le h hn _ _ _ _ hc]
    simp only [hc] at e
    exact e
theorem evFun_le (T : Nat → Option Ent) : ∀ (k k' : Nat), k ≤ k' → CallLe (evFun T k) (evFun T k')
  | 0, k', _ => fun f a m r e => by simp [evFun] at e
  | k + 1, 0, h => by omega
  | k + 1, k' + 1, h => fun f a m r e => by
    simp only [evFun] at e ⊢
    cases hT : T f with
    | none => simp [hT] at e
    | some x =>
      simp only [hT] at e ⊢
      cases x with
      | go F => simp only [evEnt] at e ⊢; exact evBody_le (evFun_le T k k' (by omega)) (by omega) e
      | ext g => exact e
      | pure g => exact e
      | spec g => exact e

/-! ### Calls that keep nothing of the memory -/
mutual
/-- It names no block. -/
def Flat : EV → Bool
  | .ptr _ _ | .slice _ _ _ _ | .map _ => false
  | .func _ x y => flats x && flats y
  | .iface _ v => Flat v
  | .agg x | .tuple x => flats x
  | _ => true
def flats : List EV → Bool
  | [] => true
  | v :: x => Flat v && flats x
end
mutual
theorem VR.flat {ρ ρ' : Ren} : ∀ {v : EV} {v' : Value}, VR ρ v v' → Flat v = true → VR ρ' v v'
  | _, _, .undef, _ => .undef
  | _, _, .bool b, _ => .bool b
  | _, _, .int k n, _ => .int k n
  | _, _, .str s, _ => .str s
  | _, _, .nilptr, _ => .nilptr
  | _, _, .ptr _, h => by simp [Flat] at h
  | _, _, .nilslice, _ => .nilslice
  | _, _, .slice _ _ _ _, h => by simp [Flat] at h
  | _, _, .sliceC _ _ _, h => by simp [Flat] at h
  | _, _, .sliceE, h => by simp [Flat] at h
  | _, _, .nilmap, _ => .nilmap
  | _, _, .map _, h => by simp [Flat] at h
  | _, _, .nilfunc, _ => .nilfunc
  | _, _, .func hx hy, h => by simp only [Flat, Bool.and_eq_true] at h; exact .func (VRs.flat hx h.1) (VRs.flat hy h.2)
  | _, _, .niliface, _ => .niliface
  | _, _, .iface hv, h => .iface (VR.flat hv (by simpa only [Flat] using h))
  | _, _, .agg hx hf, h => .agg (VRs.flat hx (by simpa only [Flat] using h)) hf
  | _, _, .tuple hx, h => .tuple (VRs.flat hx (by simpa only [Flat] using h))
theorem VRs.flat {ρ ρ' : Ren} : ∀ {x : List EV} {x' : List Value}, VRs ρ x x' → flats x = true → VRs ρ' x x'
  | _, _, .nil, _ => .nil
  | _, _, .cons hv hs, h => by simp only [flats, Bool.and_eq_true] at h; exact .cons (VR.flat hv h.1) (VRs.flat hs h.2)
end
/-- A call with plain arguments and a plain result, shown where nothing else is: the same everywhere, and the rest stands. -/
theorem pure_ok {P : Program} {G : List Nat} (hmix : P.follows .mixedOrders = true) {T : Nat → Option Ent} (hT : ∀ f e, T f = some e → EntOk P G f e) {f : Nat} {F : IFun} (hf : T f = some (.go F)) {n0 : Nat} (hG : ∀ g, G.contains g = true → g < n0)
    {g : List EV → Option EV} (hg : ∀ args v, g args = some v → flats args = true ∧ Flat v = true ∧ ∃ k m', evFun T k f args (mem0 n0) = some (.ret v m')) : EntOk P G f (.pure g) := by
  intro base ρ m w args args' v hR hv h
  obtain ⟨h1, h2, k, m', hrun⟩ := hg args v h
  cases k with
  | zero => simp [evFun] at hrun
  | succ k =>
    simp only [evFun, hf, evEnt] at hrun
    obtain ⟨fn, q1, q2⟩ := hT f _ hf
    obtain ⟨hent, hc⟩ := body_sound hmix (evFun_ok hmix hT k) k q1 q2 hrun (start_R n0 w) (start_G hG) (hv.flat h1)
    refine ⟨hent, hc.mono fun e w' hp => ?_⟩
    obtain ⟨ρ', v', rfl, hvv, _, hs⟩ := hp
    have kept : ∀ i, i < w.heap.size → w'.heap[i]? = w.heap[i]? := fun i hi => hs.kept i hi (by
      rintro ⟨b, L, _, p2, _⟩
      exact p2 (mem0_get n0 b))
    refine ⟨ρ, v', rfl, hvv.flat h2, ⟨hR.lt, fun b L hb => ?_, hR.inj, Nat.le_trans hR.base hs.size, hR.clean⟩, ⟨.refl ρ, fun _ h h' => absurd h h', Nat.le_refl _, fun _ _ _ => rfl, fun _ _ h => h, hs.size, fun _ _ h => h, fun i hi _ => kept i hi, hs.os, hs.tape, hs.output⟩⟩
    have hB := hR.blk b L hb
    by_cases hd : m.get b = .dead
    · rw [hd]; trivial
    · exact hB.of_heap (.refl ρ) (kept _ (hB.lt hd))
theorem VR.str_any {ρ ρ' : Ren} {s : List UInt8} {v' : Value} (h : VR ρ' (.str s) v') : VR ρ (.str s) v' := by
  generalize hx : EV.str s = x at h
  cases h <;> cases hx
  exact .str _
theorem VR.of_empty {ρ ρ' : Ren} {b off : Nat} {v' : Value} (h : VR ρ' (.slice b off 0 (some 0)) v') : VR ρ (.slice b off 0 (some 0)) v' := by
  cases h with
  | sliceE => exact .sliceE
  | sliceC h' hc ho => exact .sliceE
mutual
/-- What stood for a value stands for it again, if it names what it named. -/
theorem VR.back {ρ ρ' : Ren} (e : Ext ρ ρ') : ∀ {v : EV} {u v' : Value}, VR ρ v u → VR ρ' v v' → VR ρ v v'
  | _, _, _, .undef, h => by cases h; exact .undef
  | _, _, _, .bool _, h => by cases h; exact .bool _
  | _, _, _, .int _ _, h => by cases h; exact .int _ _
  | _, _, _, .str _, h => h.str_any
  | _, _, _, .nilptr, h => by cases h; exact .nilptr
  | _, _, _, .ptr h, h2 => by cases h2 with | ptr h' => have := e _ _ h; rw [h'] at this; cases this; exact .ptr h
  | _, _, _, .nilslice, h => by cases h; exact .nilslice
  | _, _, _, .slice h _ _ _, h2 => by cases h2 with | slice h' hc ho hr => have := e _ _ h; rw [h'] at this; cases this; exact .slice h hc ho hr
  | _, _, _, .sliceC h _ _, h2 => by
    cases h2 with
    | sliceC h' hc ho => have := e _ _ h; rw [h'] at this; cases this; exact .sliceC h hc ho
    | sliceE => exact .sliceE
  | _, _, _, .sliceE, h2 => h2.of_empty
  | _, _, _, .nilmap, h => by cases h; exact .nilmap
  | _, _, _, .map h, h2 => by cases h2 with | map h' => have := e _ _ h; rw [h'] at this; cases this; exact .map h
  | _, _, _, .nilfunc, h => by cases h; exact .nilfunc
  | _, _, _, .func hx hy, h2 => by cases h2 with | func hx' hy' => exact .func (VRs.back e hx hx') (VRs.back e hy hy')
  | _, _, _, .niliface, h => by cases h; exact .niliface
  | _, _, _, .iface h, h2 => by cases h2 with | iface h' => exact .iface (VR.back e h h')
  | _, _, _, .agg h _, h2 => by cases h2 with | agg h' hf => exact .agg (VRs.back e h h') hf
  | _, _, _, .tuple h, h2 => by cases h2 with | tuple h' => exact .tuple (VRs.back e h h')
theorem VRs.back {ρ ρ' : Ren} (e : Ext ρ ρ') : ∀ {x : List EV} {u v : List Value}, VRs ρ x u → VRs ρ' x v → VRs ρ x v
  | _, _, _, .nil, h => by cases h; exact .nil
  | _, _, _, .cons h hs, h2 => by cases h2 with | cons h' hs' => exact .cons (VR.back e h h') (VRs.back e hs hs')
end
/-- What a step left as it was is so without what it made. -/
theorem R.forget {base : Nat} {ρ ρ' : Ren} {m m' : Mem} {w w' : World} (hR : R base ρ m w) (hR' : R base ρ' m' w') (hs : Step ρ m w ρ' m' w') (hk : ∀ b, b < m.next → m'.get b = m.get b) : R base ρ m w' ∧ Step ρ m w ρ m w' := by
  refine ⟨⟨hR.lt, fun b L hb => ?_, hR.inj, Nat.le_trans hR.base hs.size, hR.clean⟩, ⟨.refl ρ, fun _ h h' => absurd h h', Nat.le_refl _, fun _ _ _ => rfl, fun _ _ h => h, hs.size, fun _ _ h => h, hs.kept, hs.os, hs.tape, hs.output⟩⟩
  have h0 := hR.blk b L hb
  have h1 := hR'.blk b L (hs.ext b L hb)
  rw [hk b (hR.lt b L hb)] at h1
  cases hm : m.get b with
  | dead => trivial
  | cells cs esz elem ro =>
    rw [hm] at h0 h1
    obtain ⟨arr0, e0, fz0, a1, a2, a3, a4, a5, a6, a7, a8⟩ := h0
    obtain ⟨arr, e, fz, b1, b2, b3, b4, b5, b6, b7, b8⟩ := h1
    refine ⟨arr, e, fz, b1, b2, b3, b4, b5, fun i v hv => ?_, b7, b8⟩
    obtain ⟨u, _, hu, _⟩ := a6 i v hv
    obtain ⟨v', hv', hr, ho⟩ := b6 i v hv
    exact ⟨v', hv', VR.back hs.ext hu hr, ho⟩
  | map es =>
    rw [hm] at h0 h1
    obtain ⟨ds0, c0, a1, a2, a3, a4, a5⟩ := h0
    obtain ⟨ds, c, b1, b2, b3, b4, b5⟩ := h1
    refine ⟨ds, c, b1, b2, fun i x d hx hd => ?_, b4, b5⟩
    have hlt : i < ds0.size := by rw [← a2]; exact (List.getElem?_eq_some_iff.1 hx).1
    have h3 := a3 i x ds0[i] hx (Array.getElem?_eq_getElem hlt)
    have h4 := b3 i x d hx hd
    exact ⟨VR.back hs.ext h3.1 h4.1, VR.back hs.ext h3.2 h4.2⟩
/-- A call that leaves all as it was, and tells what names no block: what it made is forgotten. -/
def lookG (g : List EV → Mem → Option EV) : List EV → Mem → Option Fin := fun args m => (g args m).map fun v => .ret v m
theorem look_ok {P : Program} {G : List Nat} (hmix : P.follows .mixedOrders = true) {T : Nat → Option Ent} (hT : ∀ f e, T f = some e → EntOk P G f e) {f : Nat} {F : IFun} (hf : T f = some (.go F))
    {g : List EV → Mem → Option EV} (hg : ∀ args m v, g args m = some v → Flat v = true ∧ ∃ k m', evFun T k f args m = some (.ret v m') ∧ ∀ b, b < m.next → m'.get b = m.get b) : EntOk P G f (.spec (lookG g)) := by
  intro base ρ m w args args' fin hR hG hv h
  unfold lookG at h
  obtain ⟨v, hgv, rfl⟩ := map_some' h
  obtain ⟨h2, k, m', hrun, hkeep⟩ := hg args m v hgv
  cases k with
  | zero => simp [evFun] at hrun
  | succ k =>
    simp only [evFun, hf, evEnt] at hrun
    obtain ⟨fn, q1, q2⟩ := hT f _ hf
    obtain ⟨hent, hc⟩ := body_sound hmix (evFun_ok hmix hT k) k q1 q2 hrun hR hG hv
    refine ⟨hent, hc.mono fun e w' hp => ?_⟩
    obtain ⟨ρ', v', rfl, hvv, hR', hs⟩ := hp
    obtain ⟨r1, r2⟩ := R.forget hR hR' hs hkeep
    exact ⟨ρ, v', rfl, hvv.flat h2, r1, r2⟩
/-- A table with one entry more. -/
def up (T : Nat → Option Ent) (f : Nat) (e : Ent) : Nat → Option Ent := fun g => bif g.beq f then some e else T g
theorem up_ok {P : Program} {G : List Nat} {T : Nat → Option Ent} (hT : ∀ f e, T f = some e → EntOk P G f e) {f : Nat} {e : Ent} (he : EntOk P G f e) : ∀ g x, up T f e g = some x → EntOk P G g x := by
  intro g x h
  unfold up at h
  cases hb : g.beq f <;> simp only [hb, cond_true, cond_false] at h
  · exact hT g x h
  · rw [of_beq hb]; cases h; exact he
end Go.Proofs.Ythlbifjgnhdonaa.Ev
