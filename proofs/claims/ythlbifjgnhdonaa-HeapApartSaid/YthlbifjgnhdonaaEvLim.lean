/- The evaluator without fuel: what it tells with any fuel; its equations. -/
import Derived.Test.YthlbifjgnhdonaaEvLaw
namespace Go.Proofs.Ythlbifjgnhdonaa.Ev
open Go

open Classical in
noncomputable def lim {α : Type} (g : Nat → Option α) : Option α := if h : ∃ r, ∃ k, g k = some r then some (Classical.choose h) else none
def Mono {α : Type} (g : Nat → Option α) : Prop := ∀ k k' r, k ≤ k' → g k = some r → g k' = some r
theorem Mono.uniq {α : Type} {g : Nat → Option α} (h : Mono g) {k k' : Nat} {r r' : α} (e : g k = some r) (e' : g k' = some r') : r = r' := by
  have h1 := h k (max k k') r (Nat.le_max_left _ _) e
  have h2 := h k' (max k k') r' (Nat.le_max_right _ _) e'
  rw [h1] at h2; cases h2; rfl
theorem lim_iff {α : Type} {g : Nat → Option α} (h : Mono g) {r : α} : lim g = some r ↔ ∃ k, g k = some r := by
  unfold lim
  constructor
  · intro e
    split at e
    · rename_i hx
      cases e
      exact Classical.choose_spec hx
    · cases e
  · rintro ⟨k, hk⟩
    have hx : ∃ r, ∃ k, g k = some r := ⟨r, k, hk⟩
    rw [dif_pos hx]
    obtain ⟨k', hk'⟩ := Classical.choose_spec hx
    rw [h.uniq hk hk']
theorem opt_ext {α : Type} {a b : Option α} (h : ∀ r, a = some r ↔ b = some r) : a = b := by
  cases b with
  | some y => exact (h y).2 rfl
  | none =>
    cases a with
    | none => rfl
    | some x => exact absurd ((h x).1 rfl) (by simp)

section
variable (T : Nat → Option Ent)
noncomputable def run (f : Nat) (args : List EV) (m : Mem) : Option Fin := lim fun k => evFun T k f args m
noncomputable def exec (c : ICode) (fr : Fr) (m : Mem) : Option Out := lim fun k => evCode (evFun T k) k c fr m
noncomputable def oprs (l : List IOper) (fr : Fr) (m : Mem) : Option Out := lim fun k => evOps (evFun T k) l fr m
noncomputable def drw (chk : List (Nat × Nat)) (B0 : Nat) (l : List IOper) (i : Nat) (fr : Fr) (m : Mem) (sn : List (Nat × Mem)) (se : List Seen) : Option Out := lim fun k => evDraw (evFun T k) chk B0 l i fr m sn se
end
section
variable {T : Nat → Option Ent}
theorem mono_run {f : Nat} {args : List EV} {m : Mem} : Mono fun k => evFun T k f args m := fun k k' _ h e => evFun_le T k k' h _ _ _ _ e
theorem mono_exec {c : ICode} {fr : Fr} {m : Mem} : Mono fun k => evCode (evFun T k) k c fr m := fun k k' _ h e => evCode_le (evFun_le T k k' h) h _ _ _ _ e
theorem mono_oprs {l : List IOper} {fr : Fr} {m : Mem} : Mono fun k => evOps (evFun T k) l fr m := fun k k' _ h e => evOps_le (evFun_le T k k' h) _ _ _ _ e
theorem mono_drw {chk : List (Nat × Nat)} {B0 : Nat} {l : List IOper} {i : Nat} {fr : Fr} {m : Mem} {sn : List (Nat × Mem)} {se : List Seen} : Mono fun k => evDraw (evFun T k) chk B0 l i fr m sn se := fun k k' _ h e => evDraw_le (evFun_le T k k' h) _ _ _ _ _ _ _ e
theorem run_iff {f : Nat} {args : List EV} {m : Mem} {r : Fin} : run T f args m = some r ↔ ∃ k, evFun T k f args m = some r := lim_iff mono_run
theorem exec_iff {c : ICode} {fr : Fr} {m : Mem} {r : Out} : exec T c fr m = some r ↔ ∃ k, evCode (evFun T k) k c fr m = some r := lim_iff mono_exec
theorem oprs_iff {l : List IOper} {fr : Fr} {m : Mem} {r : Out} : oprs T l fr m = some r ↔ ∃ k, evOps (evFun T k) l fr m = some r := lim_iff mono_oprs
theorem drw_iff {chk : List (Nat × Nat)} {B0 : Nat} {l : List IOper} {i : Nat} {fr : Fr} {m : Mem} {sn : List (Nat × Mem)} {se : List Seen} {r : Out} : drw T chk B0 l i fr m sn se = some r ↔ ∃ k, evDraw (evFun T k) chk B0 l i fr m sn se = some r := lim_iff mono_drw

/-! ### Code -/
theorem exec_skip {fr : Fr} {m : Mem} : exec T .skip fr m = some (.norm fr m) := exec_iff.2 ⟨0, rfl⟩
theorem exec_ret {fr : Fr} {m : Mem} : exec T .ret fr m = some (.ret fr m) := exec_iff.2 ⟨0, rfl⟩
theorem exec_exit {id : Nat} {fr : Fr} {m : Mem} : exec T (.exit id) fr m = some (.exit id fr m) := exec_iff.2 ⟨0, rfl⟩
theorem exec_region {l : List IOper} {fr : Fr} {m : Mem} : exec T (.region l) fr m = oprs T l fr m := rfl
theorem exec_draw {l : List IOper} {chk : List (Nat × Nat)} {fr : Fr} {m : Mem} : exec T (.draw l chk) fr m = drw T chk m.next l 0 fr ⟨m.next + l.length, m.tbl⟩ [] [] := rfl
/-- What follows a piece of code that ended. -/
def thenE (o : Option Out) (k : Fr → Mem → Option Out) : Option Out := match o with
  | some (.norm fr m) => k fr m
  | o => o
theorem exec_seq {a b : ICode} {fr : Fr} {m : Mem} : exec T (.seq a b) fr m = thenE (exec T a fr m) (exec T b) := by
  refine opt_ext fun r => ?_
  rw [exec_iff]
  constructor
  · rintro ⟨k, h⟩
    simp only [evCode] at h
    cases ha : evCode (evFun T k) k a fr m with
    | none => simp [ha] at h
    | some o =>
      rw [exec_iff.2 ⟨k, ha⟩]
      simp only [ha] at h
      cases o with
      | norm fr1 m1 => exact exec_iff.2 ⟨k, h⟩
      | exit id fr1 m1 => exact h
      | ret fr1 m1 => exact h
      | pan v fr1 m1 => exact h
  · intro h
    cases ha : exec T a fr m with
    | none => simp [ha, thenE] at h
    | some o =>
      obtain ⟨k1, h1⟩ := exec_iff.1 ha
      simp only [ha, thenE] at h
      cases o with
      | norm fr1 m1 =>
        obtain ⟨k2, h2⟩ := exec_iff.1 h
        refine ⟨max k1 k2, ?_⟩
        simp only [evCode]
        have e1 := mono_exec _ _ _ (Nat.le_max_left k1 k2) h1
        have e2 := mono_exec _ _ _ (Nat.le_max_right k1 k2) h2
        simp only at e1 e2
        rw [e1]; exact e2
      | exit id fr1 m1 => refine ⟨k1, ?_⟩; simp only [evCode, h1]; exact h
      | ret fr1 m1 => refine ⟨k1, ?_⟩; simp only [evCode, h1]; exact h
      | pan v fr1 m1 => refine ⟨k1, ?_⟩; simp only [evCode, h1]; exact h
theorem exec_cond {c : Opd} {a b : ICode} {fr : Fr} {m : Mem} {t : Bool} (h : fr.eval c = .bool t) : exec T (.cond c a b) fr m = bif t then exec T a fr m else exec T b fr m := by
  refine opt_ext fun r => ?_
  rw [exec_iff]
  simp only [evCode, h]
  cases t
  · simp only [cond_false]; exact exec_iff.symm
  · simp only [cond_true]; exact exec_iff.symm
def leaveE (id : Nat) (o : Option Out) : Option Out := match o with
  | some (.exit j fr m) => bif j.beq id then some (.norm fr m) else some (.exit j fr m)
  | o => o
theorem exec_block {id : Nat} {a : ICode} {fr : Fr} {m : Mem} : exec T (.block id a) fr m = leaveE id (exec T a fr m) := by
  refine opt_ext fun r => ?_
  rw [exec_iff]
  constructor
  · rintro ⟨k, h⟩
    simp only [evCode] at h
    cases ha : evCode (evFun T k) k a fr m with
    | none => simp [ha] at h
    | some o => rw [exec_iff.2 ⟨k, ha⟩]; rw [ha] at h; exact h
  · intro h
    cases ha : exec T a fr m with
    | none => simp [ha, leaveE] at h
    | some o =>
      obtain ⟨k1, h1⟩ := exec_iff.1 ha
      rw [ha] at h
      refine ⟨k1, ?_⟩; simp only [evCode, h1]; exact h
theorem exec_loop {a : ICode} {fr : Fr} {m : Mem} : exec T (.loop a) fr m = thenE (exec T a fr m) (exec T (.loop a)) := by
  refine opt_ext fun r => ?_
  rw [exec_iff]
  constructor
  · rintro ⟨k, h⟩
    simp only [evCode] at h
    cases k with
    | zero => simp [iter] at h
    | succ k =>
      have h' : (match evCode (evFun T (k + 1)) (k + 1) a fr m with | some (.norm fr m) => iter (evCode (evFun T (k + 1)) (k + 1) a) k fr m | o => o) = some r := by
        rw [← h]; rfl
      cases ha : evCode (evFun T (k + 1)) (k + 1) a fr m with
      | none => simp [ha] at h'
      | some o =>
        rw [exec_iff.2 ⟨k + 1, ha⟩]
        simp only [ha] at h'
        cases o with
        | norm fr1 m1 =>
          refine exec_iff.2 ⟨k + 1, ?_⟩
          simp only [evCode]
          exact iter_le (fun fr m r e => e) k (k + 1) (by omega) _ _ _ h'
        | exit id fr1 m1 => exact h'
        | ret fr1 m1 => exact h'
        | pan v fr1 m1 => exact h'
  · intro h
    cases ha : exec T a fr m with
    | none => simp [ha, thenE] at h
    | some o =>
      obtain ⟨k1, h1⟩ := exec_iff.1 ha
      simp only [ha, thenE] at h
      have key : ∀ k2, (∀ r1, iter (evCode (evFun T k2) k2 a) k2 fr m = some r1 → True) → True := fun _ _ => trivial
      cases o with
      | norm fr1 m1 =>
        obtain ⟨k2, h2⟩ := exec_iff.1 h
        simp only [evCode] at h2
        refine ⟨max k1 k2 + 1, ?_⟩
        have e1 := mono_exec _ _ _ (show k1 ≤ max k1 k2 + 1 by omega) h1
        simp only at e1
        simp only [evCode, iter, e1]
        exact iter_le (fun fr m r e => evCode_le (evFun_le T k2 (max k1 k2 + 1) (by omega)) (by omega) a fr m r e) k2 (max k1 k2) (by omega) _ _ _ h2
      | exit id fr1 m1 =>
        refine ⟨k1 + 1, ?_⟩
        have e1 := mono_exec _ _ _ (show k1 ≤ k1 + 1 by omega) h1
        simp only at e1
        simp only [evCode, iter, e1]; exact h
      | ret fr1 m1 =>
        refine ⟨k1 + 1, ?_⟩
        have e1 := mono_exec _ _ _ (show k1 ≤ k1 + 1 by omega) h1
        simp only at e1
        simp only [evCode, iter, e1]; exact h
      | pan v fr1 m1 =>
        refine ⟨k1 + 1, ?_⟩
        have e1 := mono_exec _ _ _ (show k1 ≤ k1 + 1 by omega) h1
        simp only at e1
        simp only [evCode, iter, e1]; exact h

/-! ### Operations -/
theorem oprs_nil {fr : Fr} {m : Mem} : oprs T [] fr m = some (.norm fr m) := oprs_iff.2 ⟨0, rfl⟩
/-- What follows an operation that told a value. -/
def thenV (o : Option R1) (k : EV → Mem → Option Out) : Option Out := match o with
  | some (.val v m) => k v m
  | none => none
def thenC (o : Option Fin) (fr : Fr) (k : EV → Mem → Option Out) : Option Out := match o with
  | some (.ret v m) => k v m
  | some (.pan v m) => some (.pan v fr m)
  | none => none
theorem oprs_val {d : Option Nat} {op : IOp} {l : List IOper} {fr : Fr} {m : Mem} : oprs T (⟨d, .val op, none⟩ :: l) fr m = thenV (evOp fr.eval op m) fun v m => oprs T l (fr.put d v) m := by
  refine opt_ext fun r => ?_
  rw [oprs_iff]
  simp only [evOps, wantedE]
  cases h : evOp fr.eval op m with
  | none => simp [thenV]
  | some q => obtain ⟨v, m1⟩ := q; simp only [thenV]; exact oprs_iff.symm
theorem oprs_call {d : Option Nat} {g : Nat} {args : List Opd} {l : List IOper} {fr : Fr} {m : Mem} : oprs T (⟨d, .call (.const (.func g [] [])) args, none⟩ :: l) fr m = thenC (run T g (args.map fr.eval) m) fr fun v m => oprs T l (fr.put d v) m := by
  refine opt_ext fun r => ?_
  rw [oprs_iff]
  simp only [evOps, wantedE, Fr.eval, evCall, List.nil_append, List.append_nil]
  constructor
  · rintro ⟨k, h⟩
    cases hc : evFun T k g (args.map fr.eval) m with
    | none => simp [hc] at h
    | some q =>
      rw [run_iff.2 ⟨k, hc⟩]
      simp only [hc] at h
      cases q with
      | ret v m1 => exact oprs_iff.2 ⟨k, h⟩
      | pan v m1 => exact h
  · intro h
    cases hc : run T g (args.map fr.eval) m with
    | none => simp [hc, thenC] at h
    | some q =>
      obtain ⟨k1, h1⟩ := run_iff.1 hc
      rw [hc] at h
      cases q with
      | ret v m1 =>
        simp only [thenC] at h
        obtain ⟨k2, h2⟩ := oprs_iff.1 h
        refine ⟨max k1 k2, ?_⟩
        have e1 := mono_run _ _ _ (Nat.le_max_left k1 k2) h1
        have e2 := mono_oprs _ _ _ (Nat.le_max_right k1 k2) h2
        simp only at e1 e2
        rw [e1]; exact e2
      | pan v m1 => exact ⟨k1, by rw [h1]; exact h⟩
theorem oprs_guard {d : Option Nat} {op : XOp} {t : Nat} {w : Bool} {l : List IOper} {fr : Fr} {m : Mem} {b : Bool} (h : fr.get t = .bool b) :
    oprs T (⟨d, op, some (t, w)⟩ :: l) fr m = bif b == w then oprs T (⟨d, op, none⟩ :: l) fr m else oprs T l (fr.put d .undef) m := by
  refine opt_ext fun r => ?_
  rw [oprs_iff]
  simp only [evOps, wantedE, h]
  cases hb : b == w
  · simp only [cond_false]; exact oprs_iff.symm
  · simp only [cond_true]
    rw [oprs_iff]
    simp only [evOps, wantedE]
theorem oprs_panic {d : Option Nat} {x : Opd} {l : List IOper} {fr : Fr} {m : Mem} {t : Nat} {v : EV} (h : fr.eval x = .iface t v) : oprs T (⟨d, .panic x, none⟩ :: l) fr m = some (.pan (.iface t v) fr m) := by
  refine oprs_iff.2 ⟨0, ?_⟩
  simp only [evOps, wantedE, h]

/-! ### Calls -/
def resE (F : IFun) (o : Option Out) : Option Fin := match o with
  | some (.norm fr m) | some (.ret fr m) => match fr.defers with
    | [] => (evResults fr m F.results).map fun vs => .ret (one vs) m
    | _ => none
  | some (.pan v fr m) => match fr.defers with
    | [] => some (.pan v m)
    | _ => none
  | _ => none
theorem run_go {f : Nat} {F : IFun} (hf : T f = some (.go F)) {args : List EV} {m : Mem} (hn : args.length ≤ F.ntmps) : run T f args m = resE F (exec T F.body ⟨args0 args 0 .leaf, []⟩ m) := by
  have hb : args.length.ble F.ntmps = true := Nat.ble_eq_true_of_le hn
  refine opt_ext fun r => ?_
  rw [run_iff]
  constructor
  · rintro ⟨k, h⟩
    cases k with
    | zero => simp [evFun] at h
    | succ k =>
      simp only [evFun, hf, evEnt, evBody, hb, cond_true] at h
      cases hc : evCode (evFun T k) k F.body ⟨args0 args 0 .leaf, []⟩ m with
      | none => simp [hc] at h
      | some o =>
        rw [exec_iff.2 ⟨k, hc⟩]
        simp only [hc] at h
        cases o <;> exact h
  · intro h
    cases hc : exec T F.body ⟨args0 args 0 .leaf, []⟩ m with
    | none => simp [hc, resE] at h
    | some o =>
      obtain ⟨k, hk⟩ := exec_iff.1 hc
      rw [hc] at h
      refine ⟨k + 1, ?_⟩
      simp only [evFun, hf, evEnt, evBody, hb, cond_true, hk]
      cases o <;> exact h
theorem run_ext {f : Nat} {g : List EV → Option EV} (hf : T f = some (.ext g)) {args : List EV} {m : Mem} : run T f args m = (g args).map fun v => .ret v m := by
  refine opt_ext fun r => ?_
  rw [run_iff]
  constructor
  · rintro ⟨k, h⟩
    cases k with
    | zero => simp [evFun] at h
    | succ k => simpa only [evFun, hf, evEnt] using h
  · intro h; exact ⟨1, by simpa only [evFun, hf, evEnt] using h⟩
theorem run_spec {f : Nat} {g : List EV → Mem → Option Fin} (hf : T f = some (.spec g)) {args : List EV} {m : Mem} : run T f args m = g args m := by
  refine opt_ext fun r => ?_
  rw [run_iff]
  constructor
  · rintro ⟨k, h⟩
    cases k with
    | zero => simp [evFun] at h
    | succ k => simpa only [evFun, hf, evEnt] using h
  · intro h; exact ⟨1, by simpa only [evFun, hf, evEnt] using h⟩
theorem run_pure {f : Nat} {g : List EV → Option EV} (hf : T f = some (.pure g)) {args : List EV} {m : Mem} : run T f args m = (g args).map fun v => .ret v m := by
  refine opt_ext fun r => ?_
  rw [run_iff]
  constructor
  · rintro ⟨k, h⟩
    cases k with
    | zero => simp [evFun] at h
    | succ k => simpa only [evFun, hf, evEnt] using h
  · intro h; exact ⟨1, by simpa only [evFun, hf, evEnt] using h⟩
end
end Go.Proofs.Ythlbifjgnhdonaa.Ev
