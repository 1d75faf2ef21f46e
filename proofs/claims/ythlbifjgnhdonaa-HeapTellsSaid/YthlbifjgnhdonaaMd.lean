/- EvDrw, EvH0, EvArgs, EvIn, EvSlice, PlainRow, Heap1, Heap2, Heap3, Heap4. -/
import Derived.WideShapes
import Derived.Deep.Slices
import Derived.Test.YthlbifjgnhdonaaMc
section
namespace Go.Proofs.Ythlbifjgnhdonaa.Ev
open Go
set_option linter.unusedSimpArgs false
theorem srt_mov (x : Opd) : srt (.mov x) = 0 := rfl
theorem srt_alloc (elem : Nat) (zero : List EV) : srt (.alloc elem zero) = 1 := rfl
theorem srt_box (elem : Nat) (x : Opd) : srt (.box elem x) = 1 := rfl
theorem srt_build (zero : List EV) (parts : List (Nat × Nat × Opd)) : srt (.build zero parts) = 0 := rfl
theorem srt_bslice (elem esz len : Nat) (zero : List EV) (parts : List (Nat × Opd)) : srt (.bslice elem esz len zero parts) = 1 := rfl
theorem srt_store (size : Nat) (a x : Opd) : srt (.store size a x) = 3 := rfl
theorem srt_nilck (x : Opd) : srt (.nilck x) = 0 := rfl
theorem srt_bin (op : BinOp) (x y : Opd) : srt (.bin op x y) = 0 := rfl
theorem srt_eq (neg : Bool) (t : EqTy) (x y : Opd) : srt (.eq neg t x y) = 0 := rfl
theorem srt_un (op : UnOp) (x : Opd) : srt (.un op x) = 0 := rfl
theorem srt_iface (t : Nat) (x : Opd) : srt (.iface t x) = 0 := rfl
theorem srt_mkfn (f : Nat) (a c : List Opd) : srt (.mkfn f a c) = 0 := rfl
theorem srt_mkmap  : srt (.mkmap ) = 1 := rfl
theorem srt_mkslice (elem esz : Nat) (zero : List EV) (len cap : Opd) : srt (.mkslice elem esz zero len cap) = 1 := rfl
theorem srt_slstr (x : Opd) (lo hi : Option Opd) : srt (.slstr x lo hi) = 0 := rfl
theorem srt_slsl (esz : Nat) (x : Opd) (lo hi max : Option Opd) : srt (.slsl esz x lo hi max) = 3 := rfl
theorem srt_slarr (n esz : Nat) (x : Opd) (lo hi max : Option Opd) : srt (.slarr n esz x lo hi max) = 0 := rfl
theorem srt_faddr (off : Nat) (x : Opd) : srt (.faddr off x) = 0 := rfl
theorem srt_fld (agg : Option Nat) (off : Nat) (x : Opd) : srt (.fld agg off x) = 0 := rfl
theorem srt_iaddr (esz : Nat) (x i : Opd) : srt (.iaddr esz x i) = 0 := rfl
theorem srt_iaddrArr (n esz : Nat) (x i : Opd) : srt (.iaddrArr n esz x i) = 0 := rfl
theorem srt_idxstr (x i : Opd) : srt (.idxstr x i) = 0 := rfl
theorem srt_idxagg (n esz : Nat) (agg : Option Nat) (x i : Opd) : srt (.idxagg n esz agg x i) = 0 := rfl
theorem srt_lookup (kt : Nat) (zero : EV) (ok : Bool) (mp k : Opd) : srt (.lookup kt zero ok mp k) = 3 := rfl
theorem srt_mapupd (kt : Nat) (mp k x : Opd) : srt (.mapupd kt mp k x) = 3 := rfl
theorem srt_delete (kt : Nat) (mp k : Opd) : srt (.delete kt mp k) = 3 := rfl
theorem srt_lenmap (mp : Opd) : srt (.lenmap mp) = 3 := rfl
theorem srt_tassert (t : Nat) (x : Opd) : srt (.tassert t x) = 0 := rfl
theorem srt_extract (x : Opd) (i : Nat) : srt (.extract x i) = 0 := rfl
theorem srt_len (x : Opd) : srt (.len x) = 0 := rfl
theorem srt_lenstr (x : Opd) : srt (.lenstr x) = 0 := rfl
theorem srt_lenarr (n : Nat) : srt (.lenarr n) = 0 := rfl
theorem srt_cap (x : Opd) : srt (.cap x) = 0 := rfl
theorem srt_max (args : List Opd) : srt (.max args) = 0 := rfl
theorem srt_min (args : List Opd) : srt (.min args) = 0 := rfl
theorem srt_append (elem esz bytes : Nat) (s x : Opd) : srt (.append elem esz bytes s x) = 3 := rfl
theorem srt_copy (esz : Nat) (d s : Opd) : srt (.copy esz d s) = 3 := rfl
theorem srt_pick {x y z : Opd} : srt (.pick x y z) = 0 := rfl
theorem srt_cv_int {k : IntKind} {x : Opd} : srt (.conv (.int k) x) = 0 := rfl
theorem srt_cv_same {x : Opd} : srt (.conv .same x) = 0 := rfl
theorem srt_cv_bytes {e : Nat} {x : Opd} : srt (.conv (.bytes e) x) = 1 := rfl
theorem srt_cv_text {x : Opd} : srt (.conv .text x) = 3 := rfl
/-! ### Room set aside -/
def bump (m : Mem) (k : Nat) : Mem := ⟨m.next + k, m.tbl⟩
theorem get_bump {m : Mem} {k b : Nat} : (bump m k).get b = m.get b := rfl
theorem next_bump {m : Mem} {k : Nat} : (bump m k).next = nb m.next k := rfl
theorem set_bump {m : Mem} {k b : Nat} {x : Blk} : (bump m k).set b x = bump (m.set b x) k := rfl
theorem load_bump {m : Mem} {k : Nat} {agg : Option Nat} {a : EV} : (bump m k).load agg a = m.load agg a := rfl
theorem nb_lt {n i j : Nat} : nb n i < nb n j ↔ i < j := by unfold nb; omega
theorem nb_inj {n i j : Nat} : nb n i = nb n j ↔ i = j := by unfold nb; omega
theorem lt_nb {b n i : Nat} (h : b < n) : b < nb n i := by unfold nb; omega
theorem get_ext_nb' {m : Mem} {xs : List Blk} {n i j : Nat} (hn : m.next = nb n j) (h : j ≤ i) (h2 : i - j < xs.length) : (ext m xs).get (nb n i) = xs[i - j]?.getD .dead := by
  have := get_ext_nb (m := m) (xs := xs) (n := nb n j) (i := i - j) hn h2
  rw [nb_nb, show j + (i - j) = i by omega] at this; exact this
theorem set_ext_nb' {m : Mem} {xs : List Blk} {n i j : Nat} {x : Blk} (hn : m.next = nb n j) (h : j ≤ i) (h2 : i - j < xs.length) : (ext m xs).set (nb n i) x = ext m (xs.set (i - j) x) := by
  have := set_ext_nb (m := m) (xs := xs) (n := nb n j) (i := i - j) (x := x) hn h2
  rw [nb_nb, show j + (i - j) = i by omega] at this; exact this
theorem le_nb {n i : Nat} : n ≤ nb n i := by unfold nb; omega

/-! ### Values that are the same -/
mutual
theorem same_refl : ∀ v : EV, EV.same v v = true
  | .undef | .nilptr | .nilslice | .nilmap | .nilfunc | .niliface => rfl
  | .bool b => by cases b <;> rfl
  | .int k n => by
    have h1 : (kindNo k).beq (kindNo k) = true := Nat.beq_refl _
    have h2 : sameInt n n = true := by cases n <;> exact Nat.beq_refl _
    simp only [EV.same, h1, cond_true, h2]
  | .str s => by simp only [EV.same, sameBytes_eq, decide_true]
  | .ptr a i => by simp only [EV.same, Nat.beq_refl, cond_true]
  | .slice a i n c => by
    have h : sameOpt c c = true := by cases c <;> simp [sameOpt]
    simp only [EV.same, Nat.beq_refl, cond_true, h]
  | .map a => by simp only [EV.same, Nat.beq_refl]
  | .func f x y => by simp only [EV.same, Nat.beq_refl, cond_true, sames_refl x, sames_refl y]
  | .iface t v => by simp only [EV.same, Nat.beq_refl, cond_true, same_refl v]
  | .agg x => by simp only [EV.same, sames_refl x]
  | .tuple x => by simp only [EV.same, sames_refl x]
theorem sames_refl : ∀ x : List EV, EV.sames x x = true
  | [] => rfl
  | v :: x => by simp only [EV.sames, same_refl v, cond_true, sames_refl x]
end

/-! ### Regions whose order is open -/
section
variable {T : Nat → Option Ent} {chk : List (Nat × Nat)} {B0 i : Nat} {l : List IOper} {fr : Fr} {m : Mem} {sn : List (Nat × Mem)} {se : List Seen} {d : Option Nat}
theorem exec_draw' : exec T (.draw l chk) fr m = drw T chk m.next l 0 fr (bump m l.length) [] [] := rfl
theorem drw_nil : drw T chk B0 [] i fr m sn se = some (.norm fr m) := drw_iff.2 ⟨0, rfl⟩
def thenL (o : Option EV) (k : EV → Option Out) : Option Out := match o with
  | some v => k v
  | none => none
@[congr] theorem thenL_congr {o o' : Option EV} {k : EV → Option Out} (h : o = o') : thenL o k = thenL o' k := by rw [h]
theorem thenL_some {v : EV} {k : EV → Option Out} : thenL (some v) k = k v := rfl
def ifB (b : Bool) (o : Option Out) : Option Out := bif b then o else none
@[congr] theorem ifB_congr {b b' : Bool} {o : Option Out} (h : b = b') : ifB b o = ifB b' o := by rw [h]
theorem ifB_true {o : Option Out} : ifB true o = o := rfl
theorem drw_v0 {op : IOp} (h : srt op = 0) : drw T chk B0 (⟨d, .val op, none⟩ :: l) i fr m sn se = thenV (evOp fr.eval op m) fun v _ => drw T chk B0 l (i + 1) (fr.put d v) m sn se := by
  refine opt_ext fun r => ?_
  rw [drw_iff]
  simp only [evDraw, wantedE, h]
  cases evOp fr.eval op m with
  | none => simp [thenV]
  | some q => obtain ⟨v, m1⟩ := q; simp only [thenV]; exact drw_iff.symm
theorem drw_v1 {op : IOp} (h : srt op = 1) : drw T chk B0 (⟨d, .val op, none⟩ :: l) i fr m sn se = thenV (evOp fr.eval op ⟨B0 + i, m.tbl⟩) fun v m1 => drw T chk B0 l (i + 1) (fr.put d v) ⟨m.next, m1.tbl⟩ sn se := by
  refine opt_ext fun r => ?_
  rw [drw_iff]
  simp only [evDraw, wantedE, h]
  cases evOp fr.eval op ⟨B0 + i, m.tbl⟩ with
  | none => simp [thenV]
  | some q => obtain ⟨v, m1⟩ := q; simp only [thenV]; exact drw_iff.symm
theorem drw_v3 {op : IOp} (h : srt op = 3) : drw T chk B0 (⟨d, .val op, none⟩ :: l) i fr m sn se = thenV (evOp fr.eval op m) fun v m' => ifB (checkSeen chk i m' se) (drw T chk B0 l (i + 1) (fr.put d v) m' ((i, m) :: sn) se) := by
  refine opt_ext fun r => ?_
  rw [drw_iff]
  simp only [evDraw, wantedE, h]
  cases evOp fr.eval op m with
  | none => simp [thenV]
  | some q =>
    obtain ⟨v, m1⟩ := q
    simp only [thenV]
    cases checkSeen chk i m1 se
    · simp [ifB]
    · simp only [ifB, cond_true]; exact drw_iff.symm
theorem drw_load {agg : Option Nat} {a : Opd} : drw T chk B0 (⟨d, .val (.load agg a), none⟩ :: l) i fr m sn se = thenL (m.load agg (fr.eval a)) fun v => ifB (checkSnap chk i agg (fr.eval a) v sn) (drw T chk B0 l (i + 1) (fr.put d v) m sn (⟨i, agg, fr.eval a, v⟩ :: se)) := by
  refine opt_ext fun r => ?_
  rw [drw_iff]
  simp only [evDraw, wantedE, srt]
  cases m.load agg (fr.eval a) with
  | none => simp [thenL]
  | some v =>
    simp only [thenL]
    cases checkSnap chk i agg (fr.eval a) v sn
    · simp [ifB]
    · simp only [ifB, cond_true]; exact drw_iff.symm
def thenD (o : Option Fin) (k : EV → Mem → Option Out) : Option Out := match o with
  | some (.ret v m) => k v m
  | _ => none
@[congr] theorem thenD_congr {o o' : Option Fin} {k : EV → Mem → Option Out} (h : o = o') : thenD o k = thenD o' k := by rw [h]
theorem thenD_ret {v : EV} {m : Mem} {k : EV → Mem → Option Out} : thenD (some (.ret v m)) k = k v m := rfl
theorem drw_call {x : Opd} {args : List Opd} : drw T chk B0 (⟨d, .call x args, none⟩ :: l) i fr m sn se = thenD (runV T (fr.eval x) (args.map fr.eval) m) fun v m' => ifB (checkSeen chk i m' se) (drw T chk B0 l (i + 1) (fr.put d v) m' ((i, m) :: sn) se) := by
  refine opt_ext fun r => ?_
  rw [drw_iff]
  simp only [evDraw, wantedE]
  cases hx : fr.eval x
  case func g a c =>
    simp only [evCall, runV]
    constructor
    · rintro ⟨k, h⟩
      cases hc : evFun T k g (a ++ args.map fr.eval ++ c) m with
      | none => rw [hc] at h; cases h
      | some q =>
        rw [run_iff.2 ⟨k, hc⟩]
        simp only [hc] at h
        cases q with
        | ret v m1 =>
          simp only [thenD]
          cases hk : checkSeen chk i m1 se
          · simp [hk] at h
          · simp only [hk, cond_true] at h
            simp only [ifB, cond_true]; exact drw_iff.2 ⟨k, h⟩
        | pan v m1 => simp at h
    · intro h
      cases hc : run T g (a ++ args.map fr.eval ++ c) m with
      | none => rw [hc] at h; cases h
      | some q =>
        obtain ⟨k1, h1⟩ := run_iff.1 hc
        rw [hc] at h
        cases q with
        | ret v m1 =>
          simp only [thenD] at h
          cases hk : checkSeen chk i m1 se
          · simp [hk, ifB] at h
          · simp only [hk, ifB, cond_true] at h
            obtain ⟨k2, h2⟩ := drw_iff.1 h
            refine ⟨max k1 k2, ?_⟩
            have e1 := mono_run _ _ _ (Nat.le_max_left k1 k2) h1
            have e2 := mono_drw _ _ _ (Nat.le_max_right k1 k2) h2
            simp only at e1 e2
            simp only [e1, hk, cond_true]; exact e2
        | pan v m1 => cases h
  all_goals simp [evCall, runV, thenD]
/-- No pair speaks of this load; of this act. -/
def noL (i : Nat) (chk : List (Nat × Nat)) : Bool := chk.all fun p => p.1 != i
def noA (j : Nat) (chk : List (Nat × Nat)) : Bool := chk.all fun p => p.2 != j
theorem noL_nil : noL i [] = true := rfl
theorem noL_cons {a b : Nat} : noL i ((a, b) :: chk) = (a != i && noL i chk) := rfl
theorem noA_nil : noA i [] = true := rfl
theorem noA_cons {a b : Nat} : noA i ((a, b) :: chk) = (b != i && noA i chk) := rfl
theorem noL_pair {j : Nat} : ∀ {chk : List (Nat × Nat)}, noL i chk = true → hasPair i j chk = false
  | [], _ => rfl
  | (a, b) :: chk, h => by
    simp only [noL_cons, Bool.and_eq_true, bne_iff_ne, ne_eq] at h
    simp only [hasPair, beq_ff h.1, cond_false]
    exact noL_pair h.2
theorem noA_pair {j : Nat} : ∀ {chk : List (Nat × Nat)}, noA j chk = true → hasPair i j chk = false
  | [], _ => rfl
  | (a, b) :: chk, h => by
    simp only [noA_cons, Bool.and_eq_true, bne_iff_ne, ne_eq] at h
    simp only [hasPair, beq_ff h.1, cond_false]
    rw [noA_pair h.2]; cases a.beq i <;> rfl
theorem snap_noL {agg : Option Nat} {a v : EV} (h : noL i chk = true) : ∀ sn, checkSnap chk i agg a v sn = true
  | [] => rfl
  | (j, m1) :: sn => by simp only [checkSnap, noL_pair h, cond_false]; exact snap_noL h sn
theorem seen_noA {m : Mem} (h : noA i chk = true) : ∀ se, checkSeen chk i m se = true
  | [] => rfl
  | x :: se => by simp only [checkSeen, noA_pair h, cond_false]; exact seen_noA h se
/-- What is seen, but for what no pair speaks of. -/
def Same1 (chk : List (Nat × Nat)) (se se' : List Seen) : Prop := ∀ j m, checkSeen chk j m se = checkSeen chk j m se'
def Same2 (chk : List (Nat × Nat)) (sn sn' : List (Nat × Mem)) : Prop := ∀ i agg a v, checkSnap chk i agg a v sn = checkSnap chk i agg a v sn'
theorem Same1.cons {se se' : List Seen} (h : Same1 chk se se') (x : Seen) : Same1 chk (x :: se) (x :: se') := fun j m => by simp only [checkSeen, h j m]
theorem Same2.cons {sn sn' : List (Nat × Mem)} (h : Same2 chk sn sn') (x : Nat × Mem) : Same2 chk (x :: sn) (x :: sn') := fun i agg a v => by obtain ⟨j, m⟩ := x; simp only [checkSnap, h i agg a v]
theorem evDraw_same {call : Call} : ∀ (l : List IOper) (i : Nat) (fr : Fr) (m : Mem) (sn sn' : List (Nat × Mem)) (se se' : List Seen), Same2 chk sn sn' → Same1 chk se se' → evDraw call chk B0 l i fr m sn se = evDraw call chk B0 l i fr m sn' se'
  | [], i, fr, m, sn, sn', se, se', _, _ => rfl
  | o :: r, i, fr, m, sn, sn', se, se', h2, h1 => by
    have ih := fun i fr m sn sn' se se' h2 h1 => evDraw_same (call := call) r i fr m sn sn' se se' h2 h1
    simp only [evDraw]
    cases wantedE fr o.guard with
    | none => rfl
    | some b =>
    cases b with
    | false => exact ih _ _ _ _ _ _ _ h2 h1
    | true =>
      simp only
      cases o.op with
      | val op =>
        simp only
        split
        · cases evOp fr.eval op m with
          | none => rfl
          | some q => obtain ⟨v, m1⟩ := q; exact ih _ _ _ _ _ _ _ h2 h1
        · cases evOp fr.eval op ⟨B0 + i, m.tbl⟩ with
          | none => rfl
          | some q => obtain ⟨v, m1⟩ := q; exact ih _ _ _ _ _ _ _ h2 h1
        · split
          · rename_i agg x _
            cases m.load agg (fr.eval x) with
            | none => rfl
            | some v =>
              simp only [h2 i agg (fr.eval x) v]
              cases checkSnap chk i agg (fr.eval x) v sn'
              · rfl
              · simp only [cond_true]; exact ih _ _ _ _ _ _ _ h2 (h1.cons _)
          · rfl
        · cases evOp fr.eval op m with
          | none => rfl
          | some q =>
            obtain ⟨v, m1⟩ := q
            simp only [h1 i m1]
            cases checkSeen chk i m1 se'
            · rfl
            · simp only [cond_true]; exact ih _ _ _ _ _ _ _ (h2.cons _) h1
      | call f args =>
        simp only
        cases evCall call (fr.eval f) (args.map fr.eval) m with
        | none => rfl
        | some q =>
          cases q with
          | ret v m1 =>
            simp only [h1 i m1]
            cases checkSeen chk i m1 se'
            · rfl
            · simp only [cond_true]; exact ih _ _ _ _ _ _ _ (h2.cons _) h1
          | pan v m1 => rfl
      | panic x => rfl
      | defer f x => rfl
theorem drw_same {sn' : List (Nat × Mem)} {se' : List Seen} (h2 : Same2 chk sn sn') (h1 : Same1 chk se se') : drw T chk B0 l i fr m sn se = drw T chk B0 l i fr m sn' se' := by
  unfold drw; congr 1; funext k; exact evDraw_same l i fr m sn sn' se se' h2 h1
theorem drw_seen {j : Nat} {agg : Option Nat} {a v : EV} (h : noL j chk = true) : drw T chk B0 l i fr m sn (⟨j, agg, a, v⟩ :: se) = drw T chk B0 l i fr m sn se :=
  drw_same (fun _ _ _ _ => rfl) fun k m => by simp only [checkSeen, noL_pair h, cond_false]
theorem drw_snap {j : Nat} {m1 : Mem} (h : noA j chk = true) : drw T chk B0 l i fr m ((j, m1) :: sn) se = drw T chk B0 l i fr m sn se :=
  drw_same (fun i agg a v => by simp only [checkSnap, noA_pair h, cond_false]) fun _ _ => rfl
theorem drw_load0 {agg : Option Nat} {a : Opd} (h : noL i chk = true) : drw T chk B0 (⟨d, .val (.load agg a), none⟩ :: l) i fr m sn se = thenL (m.load agg (fr.eval a)) fun v => drw T chk B0 l (i + 1) (fr.put d v) m sn se := by
  rw [drw_load]; cases m.load agg (fr.eval a) with
  | none => rfl
  | some v => simp only [thenL, snap_noL h, ifB_true, drw_seen h]
theorem drw_load1 {agg : Option Nat} {a : Opd} (_h : noL i chk = false) : drw T chk B0 (⟨d, .val (.load agg a), none⟩ :: l) i fr m sn se = thenL (m.load agg (fr.eval a)) fun v => ifB (checkSnap chk i agg (fr.eval a) v sn) (drw T chk B0 l (i + 1) (fr.put d v) m sn (⟨i, agg, fr.eval a, v⟩ :: se)) := drw_load
theorem drw_v30 {op : IOp} (h : srt op = 3) (h0 : noA i chk = true) : drw T chk B0 (⟨d, .val op, none⟩ :: l) i fr m sn se = thenV (evOp fr.eval op m) fun v m' => drw T chk B0 l (i + 1) (fr.put d v) m' sn se := by
  rw [drw_v3 h]; cases evOp fr.eval op m with
  | none => rfl
  | some q => obtain ⟨v, m1⟩ := q; simp only [thenV, seen_noA h0, ifB_true, drw_snap h0]
theorem drw_v31 {op : IOp} (h : srt op = 3) (_h0 : noA i chk = false) : drw T chk B0 (⟨d, .val op, none⟩ :: l) i fr m sn se = thenV (evOp fr.eval op m) fun v m' => ifB (checkSeen chk i m' se) (drw T chk B0 l (i + 1) (fr.put d v) m' ((i, m) :: sn) se) := drw_v3 h
theorem drw_call0 {x : Opd} {args : List Opd} (h0 : noA i chk = true) : drw T chk B0 (⟨d, .call x args, none⟩ :: l) i fr m sn se = thenD (runV T (fr.eval x) (args.map fr.eval) m) fun v m' => drw T chk B0 l (i + 1) (fr.put d v) m' sn se := by
  rw [drw_call]; cases runV T (fr.eval x) (args.map fr.eval) m with
  | none => rfl
  | some q => cases q with
    | ret v m1 => simp only [thenD, seen_noA h0, ifB_true, drw_snap h0]
    | pan v m1 => rfl
theorem drw_call1 {x : Opd} {args : List Opd} (_h0 : noA i chk = false) : drw T chk B0 (⟨d, .call x args, none⟩ :: l) i fr m sn se = thenD (runV T (fr.eval x) (args.map fr.eval) m) fun v m' => ifB (checkSeen chk i m' se) (drw T chk B0 l (i + 1) (fr.put d v) m' ((i, m) :: sn) se) := drw_call
theorem drw_guard {op : XOp} {t : Nat} {w : Bool} : drw T chk B0 (⟨d, op, some (t, w)⟩ :: l) i fr m sn se = gE (fr.get t) w (drw T chk B0 (⟨d, op, none⟩ :: l) i fr m sn se) (drw T chk B0 l (i + 1) (fr.put d .undef) m sn se) := by
  cases h : fr.get t
  case bool b =>
    refine opt_ext fun r => ?_
    rw [drw_iff]
    simp only [evDraw, wantedE, h, gE]
    cases hb : b == w
    · simp only [cond_false]; exact drw_iff.symm
    · simp only [cond_true]
      rw [drw_iff]
      simp only [evDraw, wantedE]
  case undef =>
    refine opt_ext fun r => ?_
    rw [drw_iff]
    simp only [evDraw, wantedE, h, gE]
    exact drw_iff.symm
  all_goals
    refine opt_ext fun r => ?_
    rw [drw_iff]
    simp only [evDraw, wantedE, h, reduceCtorEq, exists_const, gE]
def retO (o : Option Fin) : Option R1 := match o with
  | some (.ret v m) => some (.val v m)
  | _ => none
theorem retO_ret {v : EV} {m : Mem} : retO (some (.ret v m)) = some (.val v m) := rfl
theorem thenD_eq {o : Option Fin} {k : EV → Mem → Option Out} : thenD o k = thenV (retO o) k := by cases o with | none => rfl | some q => cases q <;> rfl
theorem drw_gv0 {op : IOp} {t : Nat} {w : Bool} (h : srt op = 0) : drw T chk B0 (⟨d, .val op, some (t, w)⟩ :: l) i fr m sn se = gV (fr.get t) w m (evOp fr.eval op m) fun v _ => drw T chk B0 l (i + 1) (fr.put d v) m sn se := by rw [drw_guard, drw_v0 h]; rfl
theorem drw_gv1 {op : IOp} {t : Nat} {w : Bool} (h : srt op = 1) : drw T chk B0 (⟨d, .val op, some (t, w)⟩ :: l) i fr m sn se = gE (fr.get t) w (thenV (evOp fr.eval op ⟨B0 + i, m.tbl⟩) fun v m1 => drw T chk B0 l (i + 1) (fr.put d v) ⟨m.next, m1.tbl⟩ sn se) (drw T chk B0 l (i + 1) (fr.put d .undef) m sn se) := by rw [drw_guard, drw_v1 h]
theorem drw_gld0 {agg : Option Nat} {a : Opd} {t : Nat} {w : Bool} (h : noL i chk = true) : drw T chk B0 (⟨d, .val (.load agg a), some (t, w)⟩ :: l) i fr m sn se = gV (fr.get t) w m (ofEV m (m.load agg (fr.eval a))) fun v _ => drw T chk B0 l (i + 1) (fr.put d v) m sn se := by
  rw [drw_guard, drw_load0 h]; unfold gV
  cases m.load agg (fr.eval a) <;> rfl
theorem drw_gld1 {agg : Option Nat} {a : Opd} {t : Nat} {w : Bool} (_h : noL i chk = false) : drw T chk B0 (⟨d, .val (.load agg a), some (t, w)⟩ :: l) i fr m sn se = gE (fr.get t) w (thenL (m.load agg (fr.eval a)) fun v => ifB (checkSnap chk i agg (fr.eval a) v sn) (drw T chk B0 l (i + 1) (fr.put d v) m sn (⟨i, agg, fr.eval a, v⟩ :: se))) (drw T chk B0 l (i + 1) (fr.put d .undef) m sn se) := by rw [drw_guard, drw_load]
theorem drw_gv30 {op : IOp} {t : Nat} {w : Bool} (h : srt op = 3) (h0 : noA i chk = true) : drw T chk B0 (⟨d, .val op, some (t, w)⟩ :: l) i fr m sn se = gV (fr.get t) w m (evOp fr.eval op m) fun v m' => drw T chk B0 l (i + 1) (fr.put d v) m' sn se := by rw [drw_guard, drw_v30 h h0]; rfl
theorem drw_gv31 {op : IOp} {t : Nat} {w : Bool} (h : srt op = 3) (_h0 : noA i chk = false) : drw T chk B0 (⟨d, .val op, some (t, w)⟩ :: l) i fr m sn se = gE (fr.get t) w (thenV (evOp fr.eval op m) fun v m' => ifB (checkSeen chk i m' se) (drw T chk B0 l (i + 1) (fr.put d v) m' ((i, m) :: sn) se)) (drw T chk B0 l (i + 1) (fr.put d .undef) m sn se) := by rw [drw_guard, drw_v3 h]
theorem drw_gcall0 {x : Opd} {args : List Opd} {t : Nat} {w : Bool} (h0 : noA i chk = true) : drw T chk B0 (⟨d, .call x args, some (t, w)⟩ :: l) i fr m sn se = gV (fr.get t) w m (retO (runV T (fr.eval x) (args.map fr.eval) m)) fun v m' => drw T chk B0 l (i + 1) (fr.put d v) m' sn se := by rw [drw_guard, drw_call0 h0, thenD_eq]; rfl
theorem drw_gcall1 {x : Opd} {args : List Opd} {t : Nat} {w : Bool} (_h0 : noA i chk = false) : drw T chk B0 (⟨d, .call x args, some (t, w)⟩ :: l) i fr m sn se = gE (fr.get t) w (thenD (runV T (fr.eval x) (args.map fr.eval) m) fun v m' => ifB (checkSeen chk i m' se) (drw T chk B0 l (i + 1) (fr.put d v) m' ((i, m) :: sn) se)) (drw T chk B0 l (i + 1) (fr.put d .undef) m sn se) := by rw [drw_guard, drw_call]
section
variable {p q : Prop} {x y : Option Out}
theorem gE_bo_t : gE (bo p) true x y = iF p x y := by by_cases h : p <;> simp [gE, bo, iF, h]
theorem gE_bo_f : gE (bo p) false x y = iF p y x := by by_cases h : p <;> simp [gE, bo, iF, h]
theorem gE_tt : gE (.bool true) true x y = x := rfl
theorem gE_tf : gE (.bool true) false x y = y := rfl
theorem gE_ft : gE (.bool false) true x y = y := rfl
theorem gE_ff : gE (.bool false) false x y = x := rfl
theorem gE_undef {w : Bool} : gE .undef w x y = y := rfl
theorem gE_gv_t : gE (gv p (bo q)) true x y = iF (p ∧ q) x y := by by_cases h : p <;> by_cases h' : q <;> simp [gE, bo, gv, iF, h, h']
theorem gE_gv_f : gE (gv p (bo q)) false x y = iF (p ∧ ¬ q) x y := by by_cases h : p <;> by_cases h' : q <;> simp [gE, bo, gv, iF, h, h']
theorem gE_gt_t : gE (gv p (.bool true)) true x y = iF p x y := by by_cases h : p <;> simp [gE, gv, iF, h]
theorem gE_gt_f : gE (gv p (.bool true)) false x y = y := by by_cases h : p <;> simp [gE, gv, h]
theorem gE_gf_t : gE (gv p (.bool false)) true x y = y := by by_cases h : p <;> simp [gE, gv, h]
theorem gE_gf_f : gE (gv p (.bool false)) false x y = iF p x y := by by_cases h : p <;> simp [gE, gv, iF, h]
end
theorem chk_nil {j : Nat} : checkSeen chk j m [] = true := rfl
theorem chk_cons {j : Nat} {s : Seen} : checkSeen chk j m (s :: se) = ((!hasPair s.i j chk || m.stands s.agg s.a s.v) && checkSeen chk j m se) := by
  simp only [checkSeen]; cases hasPair s.i j chk <;> simp
theorem snap_nil {agg : Option Nat} {a v : EV} : checkSnap chk i agg a v [] = true := rfl
theorem snap_cons {agg : Option Nat} {a v : EV} {j : Nat} {m1 : Mem} : checkSnap chk i agg a v ((j, m1) :: sn) = ((!hasPair i j chk || m1.stands agg a v) && checkSnap chk i agg a v sn) := by
  simp only [checkSnap]; cases hasPair i j chk <;> simp
theorem pair_nil {j : Nat} : hasPair i j [] = false := rfl
theorem pair_cons {j a b : Nat} : hasPair i j ((a, b) :: chk) = ((a == i && b == j) || hasPair i j chk) := by
  simp only [hasPair]
  have e : ∀ x y : Nat, x.beq y = (x == y) := fun x y => by
    by_cases h : x = y
    · subst h; simp
    · rw [beq_ff h]; simp [h]
  rw [e, e]
  cases a == i <;> cases b == j <;> simp
def standE (o : Option EV) (v : EV) : Bool := match o with
  | some x => EV.same x v
  | none => false
theorem stands_eq {agg : Option Nat} {a v : EV} : m.stands agg a v = standE (m.load agg a) v := by simp only [Mem.stands, standE]; cases m.load agg a <;> rfl
theorem standE_self {v : EV} : standE (some v) v = true := same_refl v
end

/-! ### Values of several cells -/
theorem eq_agg {fs : List (Option Nat × Nat × EqTy)} {a b : List EV} : evEq (.agg fs) (.agg a) (.agg b) = evEqs fs a b := rfl
def andO (o r : Option Bool) : Option Bool := match o with
  | some true => r
  | o => o
def eqsE (t : EqTy) (x y : Option EV) (r : Option Bool) : Option Bool := match x, y with
  | some x, some y => andO (evEq t x y) r
  | _, _ => none
theorem eqs_nil {a b : List EV} : evEqs [] a b = some true := rfl
theorem eqs_cons {g : Option Nat} {off : Nat} {t : EqTy} {r : List (Option Nat × Nat × EqTy)} {a b : List EV} : evEqs ((g, off, t) :: r) a b = eqsE t (partOf g a off) (partOf g b off) (evEqs r a b) := by
  simp only [evEqs, eqsE, andO]
  cases partOf g a off <;> cases partOf g b off <;> rfl
theorem eqsE_some {t : EqTy} {x y : EV} {r : Option Bool} : eqsE t (some x) (some y) r = andO (evEq t x y) r := rfl
theorem andO_true {r : Option Bool} : andO (some true) r = r := rfl
theorem andO_false {r : Option Bool} : andO (some false) r = some false := rfl
theorem andO_t {p : Prop} [Decidable p] : andO (some (decide p)) (some true) = some (decide p) := by by_cases h : p <;> simp [andO, h]
theorem andO_f {p : Prop} [Decidable p] : andO (some (decide p)) (some false) = some false := by by_cases h : p <;> simp [andO, h]
theorem andO_dec {p q : Prop} [Decidable p] [Decidable q] : andO (some (decide p)) (some (decide q)) = some (decide (p ∧ q)) := by by_cases h : p <;> by_cases h' : q <;> simp [andO, h, h']
def rcE (o : Option EV) (r : Option (List EV)) : Option (List EV) := match o with
  | some v => r.map (v :: ·)
  | none => none
theorem res_cell {fr : Fr} {m : Mem} {t : Nat} {agg : Option Nat} {rs : List IRes} : evResults fr m (.cell t agg :: rs) = rcE (m.load agg (fr.get t)) (evResults fr m rs) := by
  simp only [evResults, evRes, rcE]; cases m.load agg (fr.get t) <;> rfl
theorem rcE_some {v : EV} {r : Option (List EV)} : rcE (some v) r = r.map (v :: ·) := rfl

theorem eq_pn {b o : Nat} : evEq (.prim 3) (.ptr b o) .nilptr = some false := rfl
theorem eq_np {b o : Nat} : evEq (.prim 3) .nilptr (.ptr b o) = some false := rfl
theorem eq_nn : evEq (.prim 3) .nilptr .nilptr = some true := rfl
theorem eq_sn {b o l : Nat} {c : Option Nat} : evEq (.prim 4) (.slice b o l c) .nilslice = some false := rfl
theorem eq_ns {b o l : Nat} {c : Option Nat} : evEq (.prim 4) .nilslice (.slice b o l c) = some false := rfl
theorem eq_nsns : evEq (.prim 4) .nilslice .nilslice = some true := rfl
/-! ### What a call tells, whatever it leaves behind -/
def Tells (m : Mem) (o : Option Fin) (v : EV) : Prop := ∃ m', o = some (.ret v m') ∧ Keeps m m'
/-- A slice of one element, or of none, made anew. -/
def bsE (e esz : Nat) (m : Mem) (vs : Option (List EV)) : Option R1 := match vs with
  | some vs => bif vs.length.beq esz then some (.val (.slice (nb m.next 0) 0 1 (some 1)) (Ev.ext m [.cells vs esz e false])) else none
  | none => none
theorem bsE_some {e esz : Nat} {m : Mem} {vs : List EV} (h : vs.length = esz) : bsE e esz m (some vs) = some (.val (.slice (nb m.next 0) 0 1 (some 1)) (Ev.ext m [.cells vs esz e false])) := by
  show (bif vs.length.beq esz then _ else _) = _
  rw [h, beq_self]; rfl
theorem evOp_bslice1 {ρ : Opd → EV} {m : Mem} {e esz : Nat} {zero : List EV} {x : Opd} (hz : zero.length = esz) : evOp ρ (.bslice e esz 1 zero [(0, x)]) m = bsE e esz m (ρ x).cells := by
  simp only [evOp, List.map_cons, List.map_nil, fill_cons, Nat.zero_mul]
  have hc : copies 1 zero = zero := by simp [copies]
  rw [hc]
  cases hx : (ρ x).cells with
  | none => rfl
  | some vs =>
    by_cases hl : vs.length = esz
    · rw [bsE_some hl, fillB_some hl (by omega)]
      simp only [fill_nil, List.take_zero, List.nil_append, Nat.zero_add]
      rw [List.drop_eq_nil_of_le (by omega), List.append_nil]; rfl
    · simp only [bsE, fillB, beq_ff hl, cond_false]
theorem evOp_bslice0 {ρ : Opd → EV} {m : Mem} {e esz : Nat} {zero : List EV} : evOp ρ (.bslice e esz 0 zero []) m = some (.val (.slice (nb m.next 0) 0 0 (some 0)) (Ev.ext m [.cells [] esz e false])) := by
  simp only [evOp, List.map_nil, fill_nil, copies, List.replicate_zero, List.flatten_nil]; rfl
end Go.Proofs.Ythlbifjgnhdonaa.Ev
end
section
namespace Go.Proofs.Ythlbifjgnhdonaa.Ev
open Go
instance : Has T 3 (.go F3) := ⟨rfl⟩
instance : Has T 4 (.go F4) := ⟨rfl⟩
instance : Has T 5 (.go F5) := ⟨rfl⟩
instance : Has T 6 (.pure xTrue) := ⟨rfl⟩
instance : Has T 7 (.go F7) := ⟨rfl⟩
instance : Has T 8 (.go F8) := ⟨rfl⟩
instance : Has T 9 (.go F9) := ⟨rfl⟩
instance : Has T 10 (.go F10) := ⟨rfl⟩
instance : Has T 11 (.go F11) := ⟨rfl⟩
instance : Has T 12 (.go F12) := ⟨rfl⟩
instance : Has T 13 (.go F13) := ⟨rfl⟩
instance : Has T 14 (.go F14) := ⟨rfl⟩
instance : Has T 15 (.go F15) := ⟨rfl⟩
instance : Has T 16 (.go F16) := ⟨rfl⟩
instance : Has T 17 (.go F17) := ⟨rfl⟩
instance : Has T 18 (.go F18) := ⟨rfl⟩
instance : Has T 19 (.go F19) := ⟨rfl⟩
instance : Has T 20 (.go F20) := ⟨rfl⟩
instance : Has T 21 (.go F21) := ⟨rfl⟩
instance : Has T 22 (.go F22) := ⟨rfl⟩
instance : Has T 23 (.go F23) := ⟨rfl⟩
instance : Has T 24 (.go F24) := ⟨rfl⟩
instance : Has T 25 (.go F25) := ⟨rfl⟩
end Go.Proofs.Ythlbifjgnhdonaa.Ev
end
section
namespace Go.Proofs.Ythlbifjgnhdonaa.Ev
open Go

structure InB where
  blk : Nat
  off : Nat
  total : Nat
  esz : Nat
  cs : List EV
def inRen (n0 : Nat) (bs : List InB) : Ren := fun b => if b < n0 then some ⟨b, 0, 0, 1, true⟩ else (bs[b - n0]?).map fun B => ⟨B.blk, B.off, B.total, B.esz, true⟩
def tblOf : List InB → Nat → Tr Blk → Tr Blk
  | [], _, t => t
  | B :: r, i, t => tblOf r (i + 1) (t.set i (.cells B.cs B.esz 0 true))
def inMem (n0 : Nat) (bs : List InB) : Mem := ⟨n0 + bs.length, tblOf bs n0 .leaf⟩
theorem tblOf_get : ∀ (bs : List InB) (i : Nat) (t : Tr Blk) (b : Nat), (tblOf bs i t).get b = if i ≤ b ∧ b < i + bs.length then (bs[b - i]?).map (fun B => .cells B.cs B.esz 0 true) else t.get b
  | [], i, t, b => by rw [if_neg (fun h => by have := h.2; simp at this; omega)]; rfl
  | B :: bs, i, t, b => by
    simp only [tblOf]
    rw [tblOf_get bs (i + 1) _ b, Tr.get_set]
    by_cases h : b = i
    · subst h
      rw [if_neg (by omega), if_pos rfl, if_pos (by simp)]
      simp
    · by_cases h2 : i + 1 ≤ b ∧ b < i + 1 + bs.length
      · rw [if_pos h2, if_pos (by simp; omega), show b - i = (b - (i + 1)) + 1 by omega]
        simp
      · rw [if_neg h2, if_neg h, if_neg (by simp; omega)]
theorem inMem_at {n0 : Nat} {bs : List InB} {i : Nat} {B : InB} (h : bs[i]? = some B) : (inMem n0 bs).get (n0 + i) = .cells B.cs B.esz 0 true := by
  have hlt := (List.getElem?_eq_some_iff.1 h).1
  unfold Mem.get inMem
  simp only
  rw [tblOf_get, if_pos (by omega), show n0 + i - n0 = i by omega, h]
  rfl
theorem inMem_dead {n0 : Nat} {bs : List InB} {b : Nat} (h : b < n0 ∨ n0 + bs.length ≤ b) : (inMem n0 bs).get b = .dead := by
  unfold Mem.get inMem
  simp only
  rw [tblOf_get, if_neg (by omega), Tr.get_leaf]
  rfl
theorem inRen_at {n0 : Nat} {bs : List InB} {i : Nat} {B : InB} (h : bs[i]? = some B) : inRen n0 bs (n0 + i) = some ⟨B.blk, B.off, B.total, B.esz, true⟩ := by
  unfold inRen
  rw [if_neg (by omega), show n0 + i - n0 = i by omega, h]
  rfl
theorem inRen_ro {n0 : Nat} {bs : List InB} : ∀ b L, inRen n0 bs b = some L → L.ro = true := by
  intro b L h
  unfold inRen at h
  split at h
  · cases h; rfl
  · obtain ⟨B, _, rfl⟩ := Option.map_eq_some_iff.1 h; rfl
/-- They stand in the world. -/
def InOk (w : World) (n0 : Nat) (bs : List InB) : Prop := ∀ (i : Nat) (B : InB), bs[i]? = some B → ∃ (arr : Array Value) (e : TypeId) (fz : Nat × Nat), w.heap[B.blk]? = some (.cells arr e fz) ∧ arr.size = B.total ∧ B.off + B.cs.length ≤ B.total ∧
  ∀ (j : Nat) (v : EV), B.cs[j]? = some v → ∃ v', arr[B.off + j]? = some v' ∧ VR (inRen n0 bs) v v' ∧ v'.oneCell' = true
theorem in_R {w : World} {n0 : Nat} {bs : List InB} (h : InOk w n0 bs) : R w.heap.size (inRen n0 bs) (inMem n0 bs) w := by
  have cases_ : ∀ b L, inRen n0 bs b = some L → b < n0 ∨ ∃ i B, b = n0 + i ∧ bs[i]? = some B := by
    intro b L hb
    unfold inRen at hb
    split at hb
    · exact .inl ‹_›
    · obtain ⟨B, hB, rfl⟩ := Option.map_eq_some_iff.1 hb
      exact .inr ⟨b - n0, B, by omega, hB⟩
  refine ⟨fun b L hb => ?_, fun b L hb => ?_, fun b c L L' h1 _ _ _ h5 => ?_, Nat.le_refl _, fun b hb => inMem_dead (.inr hb)⟩
  · rcases cases_ b L hb with hlt | ⟨i, B, rfl, hB⟩
    · show b < n0 + bs.length; omega
    · have := (List.getElem?_eq_some_iff.1 hB).1; show n0 + i < n0 + bs.length; omega
  · rcases cases_ b L hb with hlt | ⟨i, B, rfl, hB⟩
    · rw [inMem_dead (.inl hlt)]; trivial
    · rw [inMem_at hB]
      rw [inRen_at hB] at hb
      cases hb
      obtain ⟨arr, e, fz, h1, h2, h3, h4⟩ := h i B hB
      exact ⟨arr, e, fz, h1, h2, rfl, rfl, h3, h4, (fun e => by cases e), fun _ => (Array.getElem?_eq_some_iff.1 h1).1⟩
  · rw [inRen_ro b L h1] at h5; cases h5
theorem in_G {n0 : Nat} {bs : List InB} {G : List Nat} (h : ∀ g, G.contains g = true → g < n0) : Globs G (inRen n0 bs) := fun g hg => ⟨⟨g, 0, 0, 1, true⟩, by unfold inRen; rw [if_pos (h g hg)], rfl, rfl⟩
/-- A slice of what came in. -/
theorem in_slice {n0 : Nat} {bs : List InB} {i : Nat} {B : InB} (h : bs[i]? = some B) {a : Addr} (hb : a.block = B.blk) (hs : a.spot = none) {len cap : Nat} (hl : len ≤ cap) (ho : 0 < len → a.off = B.off) : VR (inRen n0 bs) (.slice (n0 + i) 0 len none) (.slice (some a) len cap) := by
  obtain ⟨blk, off, spot⟩ := a
  cases hs; cases hb
  exact .slice (inRen_at h) hl (fun hh => by have := ho hh; simpa using this) (fun e => by cases e)
/-- A law that tells true: the machine's call returns true, and what was there stands asx it stood. -/
theorem law_walk {P : Program} {G : List Nat} (hmix : P.follows .mixedOrders = true) {T : Nat → Option Ent} (hT : ∀ f e, T f = some e → EntOk P G f e) {f : Nat} {F : IFun} (hf : T f = some (.go F)) {n0 : Nat} (hG : ∀ g, G.contains g = true → g < n0)
    {w : World} {bs : List InB} (hb : InOk w n0 bs) {args : List EV} {args' : Array Value} (hv : VRs (inRen n0 bs) args args'.toList) {b : Bool} {m' : Mem} (h : run T f args (inMem n0 bs) = some (.ret (.bool b) m')) :
    Calls P f args' w fun e w' => e = .returned (.bool b) ∧ Go.RowKit.Below w.heap.size w w' := by
  obtain ⟨k, hk⟩ := run_iff.1 h
  exact law_calls hmix hT hf hk (in_R hb) (in_G hG) (fun b L h _ => inRen_ro b L h) hv
end Go.Proofs.Ythlbifjgnhdonaa.Ev
end
section
namespace Go.Proofs.Ythlbifjgnhdonaa.Ev
open Go Go.Deep
set_option linter.unusedSimpArgs false

/-- Shapes of what comes in; what it tells. -/
inductive Sh where
  | int (k : IntKind)
  | bool
  | str
  | slice (e : TypeId) (esz : Nat) (s : Sh)
  | struct (l : List Sh)
inductive Dt where
  | int (n : Int)
  | bool (b : Bool)
  | str (s : List UInt8)
  | list (l : List Dt)
  | tup (l : List Dt)
mutual
/-- A shape's cells, in a memory, and what they tell. -/
inductive Rep (m : Mem) : Sh → List EV → Dt → Prop
  | int {k : IntKind} {n : Int} (h : (Lit.int k n).wf = true) : Rep m (.int k) [.int k n] (.int n)
  | bool (b : Bool) : Rep m .bool [.bool b] (.bool b)
  | str {s : List UInt8} (h : s.length ≤ maxLen) : Rep m .str [.str s] (.str s)
  | nil {e esz : Nat} {s : Sh} : Rep m (.slice e esz s) [.nilslice] (.list [])
  | empty {e esz b off : Nat} {s : Sh} : Rep m (.slice e esz s) [.slice b off 0 (some 0)] (.list [])
  | slice {e esz b : Nat} {s : Sh} {ess : List (List EV)} {ds : List Dt} (hl : ds.length ≤ maxLen) (hm : m.get b = .cells ess.flatten esz 0 true) (h : Reps m (List.replicate ds.length s) ess ds) : Rep m (.slice e esz s) [.slice b 0 ds.length none] (.list ds)
  | struct {shs : List Sh} {ess : List (List EV)} {ds : List Dt} (h : Reps m shs ess ds) : Rep m (.struct shs) ess.flatten (.tup ds)
inductive Reps (m : Mem) : List Sh → List (List EV) → List Dt → Prop
  | nil : Reps m [] [] []
  | cons {s : Sh} {es : List EV} {d : Dt} {shs : List Sh} {ess : List (List EV)} {ds : List Dt} (h : Rep m s es d) (hs : Reps m shs ess ds) : Reps m (s :: shs) (es :: ess) (d :: ds)
end

section
variable {P : Program} {w : World} {H : Type} {enc : TypeId × Value → H} {base : Nat} {held : Bool} {n0 : Nat}
def BOk (w : World) (ρ : Ren) (B : InB) : Prop := ∃ (arr : Array Value) (e : TypeId) (fz : Nat × Nat), w.heap[B.blk]? = some (.cells arr e fz) ∧ arr.size = B.total ∧ B.off + B.cs.length ≤ B.total ∧
  ∀ (j : Nat) (v : EV), B.cs[j]? = some v → ∃ v', arr[B.off + j]? = some v' ∧ VR ρ v v' ∧ v'.oneCell' = true
/-- So many blocks, wherever they are put. -/
def Put (all : List InB) (s : Nat) (bs : List InB) : Prop := ∀ i, i < bs.length → all[s + i]? = bs[i]?
def Dec (w : World) (n0 : Nat) (sh : Sh) (cs : List Value) : Prop :=
  ∃ (k : Nat) (d : Dt), ∀ s, ∃ (es : List EV) (bs : List InB), bs.length = k ∧ es.length = cs.length ∧ ∀ all, Put all s bs →
    VRs (inRen n0 all) es cs ∧ (∀ c ∈ cs, c.oneCell' = true) ∧ (∀ (i : Nat) (B : InB), bs[i]? = some B → BOk w (inRen n0 all) B) ∧ Rep (inMem n0 all) sh es d
def Decs (w : World) (n0 : Nat) (shs : List Sh) (css : List (List Value)) : Prop :=
  ∃ (k : Nat) (ds : List Dt), ds.length = shs.length ∧ ∀ s, ∃ (ess : List (List EV)) (bs : List InB), bs.length = k ∧ ess.flatten.length = css.flatten.length ∧ ∀ all, Put all s bs →
    VRs (inRen n0 all) ess.flatten css.flatten ∧ (∀ c ∈ css.flatten, c.oneCell' = true) ∧ (∀ (i : Nat) (B : InB), bs[i]? = some B → BOk w (inRen n0 all) B) ∧ Reps (inMem n0 all) shs ess ds
theorem Put.left {all bs cs : List InB} {s : Nat} (h : Put all s (bs ++ cs)) : Put all s bs := fun i hi => by
  rw [h i (by simp; omega), List.getElem?_append_left hi]
theorem Put.right {all bs cs : List InB} {s : Nat} (h : Put all s (bs ++ cs)) : Put all (s + bs.length) cs := fun i hi => by
  have := h (bs.length + i) (by simp; omega)
  rw [Nat.add_assoc, this, List.getElem?_append_right (by omega)]; congr 1; omega
theorem Decs.nil : Decs w n0 [] [] := ⟨0, [], rfl, fun s => ⟨[], [], rfl, rfl, fun all _ => ⟨.nil, by simp, by simp, .nil⟩⟩⟩
theorem Decs.cons {sh : Sh} {cs : List Value} {shs : List Sh} {css : List (List Value)} (h : Dec w n0 sh cs) (hs : Decs w n0 shs css) : Decs w n0 (sh :: shs) (cs :: css) := by
  obtain ⟨k, d, h⟩ := h
  obtain ⟨k2, ds, hl, hs⟩ := hs
  refine ⟨k + k2, d :: ds, by simp [hl], fun s => ?_⟩
  obtain ⟨es, bs, h1, h2, h3⟩ := h s
  obtain ⟨ess, bs2, g1, g2, g3⟩ := hs (s + k)
  refine ⟨es :: ess, bs ++ bs2, by simp [h1, g1], by simp [h2, g2], fun all hp => ?_⟩
  obtain ⟨a1, a2, a3, a4⟩ := h3 all hp.left
  obtain ⟨b1, b2, b3, b4⟩ := g3 all (by rw [← h1]; exact hp.right)
  refine ⟨?_, ?_, ?_, .cons a4 b4⟩
  · rw [List.flatten_cons, List.flatten_cons]; exact a1.append b1
  · intro c hc
    rw [List.flatten_cons, List.mem_append] at hc
    rcases hc with hc | hc
    · exact a2 c hc
    · exact b2 c hc
  · intro i B hB
    by_cases hi : i < bs.length
    · rw [List.getElem?_append_left hi] at hB; exact a3 i B hB
    · rw [List.getElem?_append_right (by omega)] at hB; exact b3 _ B hB

/-! ### Shapes of types -/
def fieldsOk (ok : Sh → TypeId → Bool) (size : TypeId → Nat) : List Sh → List Field → Nat → Nat → Bool
  | [], [], off, total => off.beq total
  | s :: shs, g :: gs, off, total => g.offset.beq off && (ok s g.type && fieldsOk ok size shs gs (off + size g.type) total)
  | _, _, _, _ => false
def shOk (P : Program) : Nat → Sh → TypeId → Bool
  | 0, _, _ => false
  | n + 1, sh, t => match sh, P.underlying t with
    | .int k, some (.int k') => (kindNo k).beq (kindNo k')
    | .bool, some .bool => true
    | .str, some .string => true
    | .slice e esz s, some (.slice e') => e.beq e' && ((P.cellsOf e).beq esz && (Nat.ble 1 esz && shOk P n s e))
    | .struct l, some (.struct gs) => fieldsOk (shOk P n) P.cellsOf l gs.toList 0 (P.cellsOf t)
    | _, _ => false
theorem fields_flat {ok : Sh → TypeId → Bool} {size : TypeId → Nat} {cs : List Value} : ∀ (shs : List Sh) (gs : List Field) (off : Nat), fieldsOk ok size shs gs off cs.length = true → off ≤ cs.length →
    cs.drop off = (gs.map fun g => (cs.drop g.offset).take (size g.type)).flatten
  | [], [], off, h, hl => by
    have := of_beq h
    subst this; simp
  | s :: shs, g :: gs, off, h, hl => by
    simp only [fieldsOk, Bool.and_eq_true] at h
    obtain ⟨h1, h2, h3⟩ := h
    have e := of_beq h1
    have hle : off + size g.type ≤ cs.length := by
      revert h3
      generalize off + size g.type = o
      clear h1 h2 e hl
      induction gs generalizing shs o with
      | nil => intro h3; cases shs <;> simp only [fieldsOk] at h3; exact Nat.le_of_eq (of_beq h3); cases h3
      | cons g' gs ih =>
        intro h3
        cases shs with
        | nil => simp [fieldsOk] at h3
        | cons s' shs =>
          simp only [fieldsOk, Bool.and_eq_true] at h3
          have := ih shs _ h3.2.2
          omega
    have ih := fields_flat shs gs (off + size g.type) h3 hle
    rw [List.map_cons, List.flatten_cons, ← ih, e]
    rw [← List.drop_drop, List.take_append_drop]
  | [], _ :: _, _, h, _ => by simp [fieldsOk] at h
  | _ :: _, [], _, h, _ => by simp [fieldsOk] at h
theorem decs_fields {cs : List Value} {size : TypeId → Nat} {ok : Sh → TypeId → Bool} : ∀ (shs : List Sh) (gs : List Field) (off total : Nat), fieldsOk ok size shs gs off total = true →
    (∀ (s : Sh) (g : Field), g ∈ gs → ok s g.type = true → Dec w n0 s ((cs.drop g.offset).take (size g.type))) → Decs w n0 shs (gs.map fun g => (cs.drop g.offset).take (size g.type))
  | [], [], _, _, _, _ => .nil
  | s :: shs, g :: gs, off, total, h, hd => by
    simp only [fieldsOk, Bool.and_eq_true] at h
    rw [List.map_cons]
    exact .cons (hd s g (by simp) h.2.1) (decs_fields shs gs _ total h.2.2 fun s' g' hg => hd s' g' (by simp [hg]))
  | [], _ :: _, _, _, h, _ => by simp [fieldsOk] at h
  | _ :: _, [], _, _, h, _ => by simp [fieldsOk] at h
theorem flat_len {α : Type} {sz : Nat} : ∀ {css : List (List α)}, (∀ c ∈ css, c.length = sz) → css.flatten.length = css.length * sz
  | [], _ => by simp
  | c :: css, h => by
    rw [List.flatten_cons, List.length_append, flat_len fun c hc => h c (by simp [hc]), h c (by simp), List.length_cons, Nat.add_mul]; omega
theorem flat_get {α : Type} {sz : Nat} : ∀ {css : List (List α)}, (∀ c ∈ css, c.length = sz) → ∀ (q p : Nat), p < sz → css.flatten[q * sz + p]? = (css[q]?).bind fun c => c[p]?
  | [], _, q, p, _ => by simp
  | c :: css, h, q, p, hp => by
    have hc := h c (by simp)
    rw [List.flatten_cons]
    cases q with
    | zero => rw [Nat.zero_mul, Nat.zero_add, List.getElem?_append_left (by omega)]; simp
    | succ q =>
      have ih := flat_get (css := css) (fun c hc => h c (by simp [hc])) q p hp
      rw [List.getElem?_append_right (by rw [hc, Nat.add_mul]; omega), show (q + 1) * sz + p - c.length = q * sz + p by rw [hc, Nat.add_mul]; omega, ih]
      simp
theorem lit_add (b o n : Nat) : (⟨b, o, none⟩ : Addr).add n = ⟨b, o + n, none⟩ := Addr.add_lit b o n
/-- A row's elements. -/
theorem decs_row {a : Addr} {sz len : Nat} {s : Sh} (hd : ∀ i, i < len → ∃ cs', w.cells? base (a.add (i * sz)) sz = some cs' ∧ Dec w n0 s cs') : ∀ (r i : Nat), i + r = len →
    ∃ css : List (List Value), css.length = r ∧ (∀ q, q < r → ∃ cs', css[q]? = some cs' ∧ w.cells? base (a.add ((i + q) * sz)) sz = some cs') ∧ Decs w n0 (List.replicate r s) css
  | 0, i, _ => ⟨[], rfl, fun q hq => by omega, .nil⟩
  | r + 1, i, h => by
    obtain ⟨cs', h1, h2⟩ := hd i (by omega)
    obtain ⟨css, g1, g2, g3⟩ := decs_row hd r (i + 1) (by omega)
    refine ⟨cs' :: css, by simp [g1], fun q hq => ?_, .cons h2 g3⟩
    cases q with
    | zero => exact ⟨cs', rfl, h1⟩
    | succ q =>
      obtain ⟨c, c1, c2⟩ := g2 q (by omega)
      exact ⟨c, by simpa using c1, by rw [show i + (q + 1) = i + 1 + q by omega]; exact c2⟩
theorem dec_slice {a : Addr} {e sz len cap : Nat} {s : Sh} (hsz : 1 ≤ sz) (hlc : len ≤ cap) (hcm : cap ≤ maxLen) (hc0 : cap ≠ 0) (hd : ∀ i, i < cap → ∃ cs', w.cells? base (a.add (i * sz)) sz = some cs' ∧ Dec w n0 s cs') :
    Dec w n0 (.slice e sz s) [.slice (some a) len cap] := by
  have hcell : ∀ i, i < cap → ∀ p, p < sz → ∃ v, w.cell? ((a.add (i * sz)).add p) = some v := by
    intro i hi p hp
    obtain ⟨cs', h1, _⟩ := hd i hi
    obtain ⟨_, h2, h3⟩ := World.cells?_some h1
    exact ⟨cs'[p]'(by omega), by rw [h3 p hp, List.getElem?_eq_getElem]⟩
  obtain ⟨blk, off, arr, ty, fz, rfl, harr⟩ : ∃ blk off arr ty fz, a = ⟨blk, off, none⟩ ∧ w.heap[blk]? = some (.cells arr ty fz) := by
    obtain ⟨v, hv⟩ := hcell 0 (by omega) 0 (by omega)
    rw [Nat.zero_mul] at hv
    have hv : w.cell? a = some v := hv
    obtain ⟨blk, off, spot⟩ := a
    unfold World.cell? at hv
    split at hv
    · rename_i c t z hh
      cases spot with
      | none => exact ⟨blk, off, c, t, z, rfl, hh⟩
      | some x => simp at hv
    · cases hv
  have hat : ∀ n, w.cell? ⟨blk, off + n, none⟩ = arr[off + n]? := fun n => by unfold World.cell?; simp [harr]
  obtain ⟨css, g1, g2, kin, ds, hds, g3⟩ := decs_row (w := w) (n0 := n0) (base := base) (fun i hi => hd i (Nat.lt_of_lt_of_le hi hlc)) len 0 (by omega)
  have hcl : ∀ c ∈ css, c.length = sz := by
    intro c hc
    obtain ⟨q, hq⟩ := List.getElem?_of_mem hc
    have hql : q < len := by have := (List.getElem?_eq_some_iff.1 hq).1; omega
    obtain ⟨cs', h1, h2⟩ := g2 q hql
    rw [hq] at h1; cases h1
    exact (World.cells?_some h2).2.1
  have hfl : css.flatten.length = len * sz := by rw [flat_len hcl, g1]
  have hget : ∀ j v, css.flatten[j]? = some v → arr[off + j]? = some v := by
    intro j v hj
    have hjl : j < len * sz := by have := (List.getElem?_eq_some_iff.1 hj).1; omega
    have hp : j % sz < sz := Nat.mod_lt _ (by omega)
    have hq : j / sz < len := Nat.div_lt_of_lt_mul (by rw [Nat.mul_comm]; exact hjl)
    have hj' : j / sz * sz + j % sz = j := Nat.div_add_mod' j sz
    rw [← hj', flat_get hcl _ _ hp] at hj
    obtain ⟨cs', h1, h2⟩ := g2 _ hq
    rw [h1] at hj
    obtain ⟨_, _, h3⟩ := World.cells?_some h2
    have h4 := h3 _ hp
    rw [Nat.zero_add, lit_add, lit_add, Nat.add_assoc, hj', hat] at h4
    rw [h4]; exact hj
  have hle : off + len * sz ≤ arr.size := by
    rcases Nat.eq_zero_or_pos (len * sz) with h0 | h0
    · obtain ⟨v, hv⟩ := hcell 0 (by omega) 0 (by omega)
      have h00 := hat 0
      rw [Nat.add_zero] at h00
      simp only [lit_add, Nat.zero_mul, Nat.add_zero] at hv
      rw [h00] at hv
      have := (Array.getElem?_eq_some_iff.1 hv).1
      omega
    · obtain ⟨v, hv⟩ : ∃ v, css.flatten[len * sz - 1]? = some v := ⟨_, List.getElem?_eq_getElem (by omega)⟩
      have := (Array.getElem?_eq_some_iff.1 (hget _ _ hv)).1
      omega
  rw [List.length_replicate] at hds
  refine ⟨kin + 1, .list ds, fun st => ?_⟩
  obtain ⟨ess, bs, b1, b2, b3⟩ := g3 (st + 1)
  let B : InB := ⟨blk, off, arr.size, sz, ess.flatten⟩
  refine ⟨[.slice (n0 + st) 0 len none], B :: bs, by simp [b1], rfl, fun all hp => ?_⟩
  have hB : all[st]? = some B := by have := hp 0 (by simp); simpa using this
  obtain ⟨c1, c2, c3, c4⟩ := b3 all (by have := Put.right (bs := [B]) hp; simpa using this)
  refine ⟨.cons (in_slice hB rfl rfl hlc fun _ => rfl) .nil, by simp [Value.oneCell'], fun i C hC => ?_, ?_⟩
  · cases i with
    | succ i => exact c3 i C (by simpa using hC)
    | zero =>
      simp at hC; subst hC
      refine ⟨arr, ty, fz, harr, rfl, by show off + ess.flatten.length ≤ arr.size; omega, fun j v hj => ?_⟩
      obtain ⟨v', h1, h2⟩ := c1.get j v hj
      exact ⟨v', hget j v' h1, h2, c2 v' (List.mem_of_getElem? h1)⟩
  · have h1 := inMem_at (n0 := n0) hB
    have h2 := Rep.slice (m := inMem n0 all) (e := e) (b := n0 + st) (s := s) (ds := ds) (Nat.le_trans (Nat.le_of_eq hds) (Nat.le_trans hlc hcm)) h1 (by rw [hds]; exact c4)
    rw [hds] at h2
    exact h2
theorem dec_all (n0 : Nat) : ∀ (K : Nat) (sh : Sh) (t : TypeId) (fuel : Nat) (cs : List Value) (x : DataW H × List MemPlace), shOk P K sh t = true → DataW.trod enc P w base (fun _ => true) held fuel t cs = some x → Dec w n0 sh cs
  | 0, _, _, _, _, _, h, _ => by simp [shOk] at h
  | K + 1, sh, t, fuel, cs, x, h, hx => by
    simp only [shOk] at h
    split at h
    · rename_i k k' hu
      obtain rfl := kindNo_inj h
      obtain ⟨n, rfl, _, hw⟩ := DataW.trod_int hu hx
      exact ⟨0, .int n, fun s => ⟨[.int k n], [], rfl, rfl, fun all _ => ⟨.cons (.int _ _) .nil, by simp [Value.oneCell'], by simp, .int hw⟩⟩⟩
    · rename_i hu
      obtain ⟨b, rfl, _⟩ := DataW.trod_bool hu hx
      exact ⟨0, .bool b, fun s => ⟨[.bool b], [], rfl, rfl, fun all _ => ⟨.cons (.bool _) .nil, by simp [Value.oneCell'], by simp, .bool b⟩⟩⟩
    · rename_i hu
      obtain ⟨b, rfl, _, hm⟩ := DataW.trod_string hu hx
      exact ⟨0, .str b.data.toList, fun s => ⟨[.str b.data.toList], [], rfl, rfl, fun all _ => ⟨.cons (.str _) .nil, by simp [Value.oneCell'], by simp, .str (by simpa using hm)⟩⟩⟩
    · rename_i e esz s e' hu
      simp only [Bool.and_eq_true] at h
      obtain ⟨h1, h2, h3, h4⟩ := h
      have := of_beq h1; subst this
      have := of_beq h2; subst this
      have hpos : 1 ≤ P.cellsOf e := Nat.le_of_ble_eq_true h3
      rcases open_slice hu hx with ⟨rfl, _⟩ | ⟨a, len, cap, m, n, D, Pl, rfl, hb, hlc, hcm, hm, _, hel⟩
      · exact ⟨0, .list [], fun s => ⟨[.nilslice], [], rfl, rfl, fun all _ => ⟨.cons .nilslice .nil, by simp [Value.oneCell'], by simp, .nil⟩⟩⟩
      · simp only [if_true] at hm
        subst hm
        by_cases hc0 : m = 0
        · subst hc0
          obtain rfl : len = 0 := by omega
          exact ⟨0, .list [], fun s => ⟨[.slice 0 0 0 (some 0)], [], rfl, rfl, fun all _ => ⟨.cons .sliceE .nil, by simp [Value.oneCell'], by simp, .empty⟩⟩⟩
        · exact dec_slice hpos hlc hcm hc0 fun i hi => by
            obtain ⟨cs', h5, h6⟩ := hel i hi
            exact ⟨cs', h5, dec_all n0 K s e n cs' _ h4 h6⟩
    · rename_i l gs hu
      obtain ⟨xs, n, _, _, hlen, hxl, hf⟩ := DataW.trod_struct hu hx
      rw [← hlen] at h
      have hD := decs_fields (w := w) (n0 := n0) (cs := cs) l gs.toList 0 cs.length h fun s g hg hok => by
        obtain ⟨i, hi⟩ := List.getElem?_of_mem hg
        have hi' : gs[i]? = some g := by simpa using hi
        have hlt : i < xs.length := by have := (Array.getElem?_eq_some_iff.1 hi').1; omega
        have h1 := hf i g hi'
        rw [List.getElem?_eq_getElem hlt] at h1
        exact dec_all n0 K s g.type n _ _ hok h1
      have hfl := fields_flat l gs.toList 0 h (Nat.zero_le _)
      rw [List.drop_zero] at hfl
      obtain ⟨k, ds, _, hs⟩ := hD
      refine ⟨k, .tup ds, fun s => ?_⟩
      obtain ⟨ess, bs, h1, h2, h3⟩ := hs s
      rw [← hfl] at h2 h3
      refine ⟨ess.flatten, bs, h1, h2, fun all hp => ?_⟩
      obtain ⟨c1, c2, c3, c4⟩ := h3 all hp
      exact ⟨c1, c2, c3, .struct c4⟩
    · cases h

/-! ### Arguments -/
/-- An argument: a struct's cells together. -/
def RepV (m : Mem) (sh : Sh) (e : EV) (d : Dt) : Prop := match sh with
  | .struct l => ∃ cs, e = .agg cs ∧ Rep m (.struct l) cs d
  | sh => Rep m sh [e] d
inductive RepVs (m : Mem) : List Sh → List EV → List Dt → Prop
  | nil : RepVs m [] [] []
  | cons {s : Sh} {e : EV} {d : Dt} {shs : List Sh} {es : List EV} {ds : List Dt} (h : RepV m s e d) (hs : RepVs m shs es ds) : RepVs m (s :: shs) (e :: es) (d :: ds)
def DecV (w : World) (n0 : Nat) (sh : Sh) (v : Value) : Prop :=
  ∃ (k : Nat) (d : Dt), ∀ s, ∃ (e : EV) (bs : List InB), bs.length = k ∧ ∀ all, Put all s bs →
    VR (inRen n0 all) e v ∧ (∀ (i : Nat) (B : InB), bs[i]? = some B → BOk w (inRen n0 all) B) ∧ RepV (inMem n0 all) sh e d
def DecVs (w : World) (n0 : Nat) (shs : List Sh) (vs : List Value) : Prop :=
  ∃ (k : Nat) (ds : List Dt), ∀ s, ∃ (es : List EV) (bs : List InB), bs.length = k ∧ ∀ all, Put all s bs →
    VRs (inRen n0 all) es vs ∧ (∀ (i : Nat) (B : InB), bs[i]? = some B → BOk w (inRen n0 all) B) ∧ RepVs (inMem n0 all) shs es ds
theorem DecVs.nil : DecVs w n0 [] [] := ⟨0, [], fun s => ⟨[], [], rfl, fun all _ => ⟨.nil, by simp, .nil⟩⟩⟩
theorem DecVs.cons {sh : Sh} {v : Value} {shs : List Sh} {vs : List Value} (h : DecV w n0 sh v) (hs : DecVs w n0 shs vs) : DecVs w n0 (sh :: shs) (v :: vs) := by
  obtain ⟨k, d, h⟩ := h
  obtain ⟨k2, ds, hs⟩ := hs
  refine ⟨k + k2, d :: ds, fun s => ?_⟩
  obtain ⟨e, bs, h1, h3⟩ := h s
  obtain ⟨es, bs2, g1, g3⟩ := hs (s + k)
  refine ⟨e :: es, bs ++ bs2, by simp [h1, g1], fun all hp => ?_⟩
  obtain ⟨a1, a3, a4⟩ := h3 all hp.left
  obtain ⟨b1, b3, b4⟩ := g3 all (by rw [← h1]; exact hp.right)
  refine ⟨.cons a1 b1, ?_, .cons a4 b4⟩
  intro i B hB
  by_cases hi : i < bs.length
  · rw [List.getElem?_append_left hi] at hB; exact a3 i B hB
  · rw [List.getElem?_append_right (by omega)] at hB; exact b3 _ B hB
theorem Dec.one {sh : Sh} {v : Value} (hn : ∀ l, sh ≠ .struct l) (h : Dec w n0 sh [v]) : DecV w n0 sh v := by
  obtain ⟨k, d, h⟩ := h
  refine ⟨k, d, fun s => ?_⟩
  obtain ⟨es, bs, h1, h2, h3⟩ := h s
  obtain ⟨e, rfl⟩ : ∃ e, es = [e] := by
    match es, h2 with
    | [e], _ => exact ⟨e, rfl⟩
  refine ⟨e, bs, h1, fun all hp => ?_⟩
  obtain ⟨c1, c2, c3, c4⟩ := h3 all hp
  cases c1 with
  | cons hv _ =>
  refine ⟨hv, c3, ?_⟩
  unfold RepV
  cases sh with
  | struct l => exact absurd rfl (hn l)
  | _ => exact c4
theorem Dec.agg {l : List Sh} {cs : Array Value} (h : Dec w n0 (.struct l) cs.toList) : DecV w n0 (.struct l) (.agg cs) := by
  obtain ⟨k, d, h⟩ := h
  refine ⟨k, d, fun s => ?_⟩
  obtain ⟨es, bs, h1, h2, h3⟩ := h s
  refine ⟨.agg es, bs, h1, fun all hp => ?_⟩
  obtain ⟨c1, c2, c3, c4⟩ := h3 all hp
  exact ⟨.agg c1 c2, c3, es, rfl, c4⟩
theorem dec_val {K : Nat} {sh : Sh} {t : TypeId} {v : Value} {r : Go.Reach} {b0 : Nat} {d : DataW H} {p : List MemPlace} (h : shOk P K sh t = true) (hval : Value.okWide P w r b0 t v) (hx : DataW.Trod enc P w base (fun _ => true) held t v d p) : DecV w n0 sh v := by
  obtain ⟨fuel, hf⟩ := hx
  have hD := dec_all (w := w) n0 K sh t fuel _ _ h hf
  cases K with
  | zero => simp [shOk] at h
  | succ K =>
  simp only [shOk] at h
  split at h
  · rename_i k k' hu
    refine Dec.one (by intro l e; cases e) ?_
    simp only [Value.okWide, hu, Cell.okWide] at hval
    cases v <;> simp only [Cell.ok, hu] at hval
    exact hD
  · rename_i hu
    refine Dec.one (by intro l e; cases e) ?_
    simp only [Value.okWide, hu, Cell.okWide] at hval
    cases v <;> simp only [Cell.ok, hu] at hval
    exact hD
  · rename_i hu
    refine Dec.one (by intro l e; cases e) ?_
    simp only [Value.okWide, hu, Cell.okWide] at hval
    cases v <;> simp only [Cell.ok, hu] at hval
    exact hD
  · rename_i e esz s e' hu
    refine Dec.one (by intro l e; cases e) ?_
    simp only [Value.okWide, hu, Cell.okWide] at hval
    cases v <;> simp only [Cell.ok, hu] at hval
    exact hD
  · rename_i l gs hu
    simp only [Value.okWide, hu] at hval
    obtain ⟨cs, rfl, _, _⟩ := hval
    exact Dec.agg hD
  · cases h
/-- All arguments, in a memory that is only read. -/
theorem args_in {shs : List Sh} {vs : List Value} (h : DecVs w n0 shs vs) : ∃ (bs : List InB) (es : List EV) (ds : List Dt), InOk w n0 bs ∧ VRs (inRen n0 bs) es vs ∧ RepVs (inMem n0 bs) shs es ds := by
  obtain ⟨k, ds, h⟩ := h
  obtain ⟨es, bs, h1, h2⟩ := h 0
  obtain ⟨c1, c2, c3⟩ := h2 bs (fun i _ => by rw [Nat.zero_add])
  exact ⟨bs, es, ds, c2, c1, c3⟩
theorem in_int {m : Mem} {k : IntKind} {e : EV} {d : Dt} (h : RepV m (.int k) e d) : ∃ n, e = .int k n ∧ d = .int n ∧ (Lit.int k n).wf = true := by
  unfold RepV at h; cases h with | int hw => exact ⟨_, rfl, rfl, hw⟩
theorem RepVs.one {m : Mem} {s : Sh} {shs : List Sh} {es : List EV} {ds : List Dt} (h : RepVs m (s :: shs) es ds) : ∃ e d es' ds', es = e :: es' ∧ ds = d :: ds' ∧ RepV m s e d ∧ RepVs m shs es' ds' := by
  cases h with | cons h hs => exact ⟨_, _, _, _, rfl, rfl, h, hs⟩
theorem RepVs.none {m : Mem} {es : List EV} {ds : List Dt} (h : RepVs m [] es ds) : es = [] ∧ ds = [] := by
  cases h; exact ⟨rfl, rfl⟩
end
end Go.Proofs.Ythlbifjgnhdonaa.Ev
end
section
namespace Go.Proofs.Ythlbifjgnhdonaa.Ev
open Go
set_option linter.unusedSimpArgs false
/-- A slice of n elements, of these cells, in a block of its own from 'lo' on; or none at all. -/
structure Own (m : Mem) (v : EV) (cs : List EV) (n esz lo : Nat) : Prop where
  is : (v = .nilslice ∧ n = 0 ∧ cs = []) ∨ ∃ b cap t, v = .slice b 0 n cap ∧ lo ≤ b ∧ b < m.next ∧ m.get b = .cells cs esz t false ∧ (cap = none ∨ cap = some n)
  len : cs.length = n * esz
/-- Not of this slice. -/
def Off (v : EV) (c : Nat) : Prop := ∀ b o n cap, v = .slice b o n cap → c ≠ b
theorem Off.nil {c : Nat} : Off .nilslice c := fun _ _ _ _ h => by cases h
theorem Off.of {b o n c : Nat} {cap : Option Nat} (h : c ≠ b) : Off (.slice b o n cap) c := fun _ _ _ _ e => by cases e; exact h
theorem row_all {m : Mem} {b n esz e t : Nat} {cs : List EV} {ro : Bool} (hb : m.get b = .cells cs e t ro) (hl : cs.length = n * esz) : m.row b 0 (n * esz) = some cs := by
  by_cases h : n * esz = 0
  · rw [h, Mem.row_none]; rw [h] at hl; rw [List.eq_nil_of_length_eq_zero hl]
  · rw [Mem.row_pos h]; unfold Mem.row1
    rw [hb]
    show (bif (0 + n * esz).ble cs.length then some ((cs.drop 0).take (n * esz)) else none) = _
    rw [Nat.ble_eq_true_of_le (by omega)]
    simp [← hl]
theorem Own.source {m : Mem} {v : EV} {cs : List EV} {n esz lo : Nat} (h : Own m v cs n esz lo) : m.source esz v = some (n, cs) := by
  rcases h.is with ⟨rfl, rfl, rfl⟩ | ⟨b, cap, t, rfl, h1, h2, h3, h4⟩
  · rfl
  · show (m.row b 0 (n * esz)).map (fun cs => (n, cs)) = _
    rw [row_all h3 h.len]; rfl
theorem append_own {m : Mem} {v x : EV} {cs xs : List EV} {n k esz e lo : Nat} (h : Own m v cs n esz lo) (hlo : lo ≤ m.next) (hx : m.source esz x = some (k, xs)) (hxl : xs.length = k * esz) (hk : k ≠ 0) (hr : n + k ≤ room) :
    ∃ v' m', evAppend m e esz v x = some (v', m') ∧ Own m' v' (cs ++ xs) (n + k) esz lo ∧ (∀ c, c < m.next → Off v c → m'.get c = m.get c) ∧ m'.next = m.next + 1 ∧ (∃ cap, v' = .slice m.next 0 (n + k) cap) := by
  have hlen : (cs ++ xs).length = (n + k) * esz := by rw [List.length_append, h.len, hxl, Nat.add_mul]
  rcases h.is with ⟨rfl, rfl, rfl⟩ | ⟨b, cap, t, rfl, h1, h2, h3, h4⟩
  · refine ⟨.slice m.next 0 k none, m.new (.cells xs esz e false), ?_, ⟨.inr ⟨m.next, none, e, by rw [Nat.zero_add], hlo, by rw [next_new]; omega, by rw [get_new, if_pos rfl]; rfl, .inl rfl⟩, hlen⟩, fun c hc _ => by rw [get_new, if_neg (by omega)], rfl, none, by rw [Nat.zero_add]⟩
    unfold evAppend
    rw [hx]
    simp only [beq_ff hk, cond_false, Nat.ble_eq_true_of_le (show k ≤ room by omega), cond_true]
  · have hrow := row_all h3 h.len
    rcases h4 with rfl | rfl
    · refine ⟨.slice m.next 0 (n + k) none, (m.new (.cells (cs ++ xs) esz e false)).set b .dead, ?_, ⟨.inr ⟨m.next, none, e, rfl, hlo, by rw [next_set, next_new]; omega, by rw [get_set_ne (by omega), get_new, if_pos rfl], .inl rfl⟩, hlen⟩, fun c hc ho => ?_, by rw [next_set, next_new], none, rfl⟩
      · unfold evAppend
        rw [hx]
        simp only [beq_ff hk, cond_false, Nat.ble_eq_true_of_le hr, cond_true, hrow, h3, beq_self]
      · rw [get_set_ne (ho b 0 n none rfl), get_new, if_neg (by omega)]
    · refine ⟨.slice m.next 0 (n + k) none, m.new (.cells (cs ++ xs) esz e false), ?_, ⟨.inr ⟨m.next, none, e, rfl, hlo, by rw [next_new]; omega, by rw [get_new, if_pos rfl], .inl rfl⟩, hlen⟩, fun c hc ho => by rw [get_new, if_neg (by omega)], by rw [next_new], none, rfl⟩
      have hf : (n + k).ble n = false := by
        cases hb : (n + k).ble n with
        | false => rfl
        | true => have := Nat.le_of_ble_eq_true hb; omega
      unfold evAppend
      rw [hx]
      simp only [beq_ff hk, cond_false, Nat.ble_eq_true_of_le hr, cond_true, hrow, hf]
theorem Own.mono {m m' : Mem} {v : EV} {cs : List EV} {n esz lo : Nat} (h : Own m v cs n esz lo) (hn : m.next ≤ m'.next) (hk : ∀ c, c < m.next → m'.get c = m.get c) : Own m' v cs n esz lo := by
  refine ⟨?_, h.len⟩
  rcases h.is with h | ⟨b, cap, t, rfl, h1, h2, h3, h4⟩
  · exact .inl h
  · exact .inr ⟨b, cap, t, rfl, h1, by omega, by rw [hk b h2]; exact h3, h4⟩
theorem Own.ext {m : Mem} {v : EV} {cs : List EV} {n esz lo : Nat} (h : Own m v cs n esz lo) (xs : List Blk) : Own (ext m xs) v cs n esz lo := h.mono (by rw [next_ext]; exact le_nb) fun c hc => get_ext_old hc
/-- What was just made, asx what is appended. -/
theorem source_new {m : Mem} {vs : List EV} {e esz : Nat} (h : vs.length = esz) : (Ev.ext m [.cells vs esz e false]).source esz (.slice (nb m.next 0) 0 1 (some 1)) = some (1, vs) := by
  have hg : (Ev.ext m [.cells vs esz e false]).get (nb m.next 0) = .cells vs esz e false := by rw [get_ext_nb rfl (by simp)]; rfl
  show ((Ev.ext m [.cells vs esz e false]).row (nb m.next 0) 0 (1 * esz)).map (fun cs => (1, cs)) = _
  rw [row_all hg (by omega)]; rfl
end Go.Proofs.Ythlbifjgnhdonaa.Ev
end
section
namespace Go.Proofs.Ythlbifjgnhdonaa.Ev
open Go
/-- Cells put in the place of others. -/
def putAt (cs : List EV) (p : Nat) (vs : List EV) : List EV := cs.take p ++ vs ++ cs.drop (p + vs.length)
theorem putAt_len {cs vs : List EV} {p : Nat} (h : p + vs.length ≤ cs.length) : (putAt cs p vs).length = cs.length := by
  simp only [putAt, List.length_append, List.length_take, List.length_drop]; omega
theorem putAt_get {cs vs : List EV} {p i : Nat} (h : p + vs.length ≤ cs.length) : (putAt cs p vs)[i]? = if p ≤ i ∧ i < p + vs.length then vs[i - p]? else cs[i]? := by
  unfold putAt
  have hl : (cs.take p).length = p := by rw [List.length_take]; omega
  by_cases h1 : i < p
  · rw [if_neg (by omega), List.append_assoc, List.getElem?_append_left (by omega), List.getElem?_take, if_pos h1]
  · by_cases h2 : i < p + vs.length
    · rw [if_pos ⟨by omega, h2⟩, List.append_assoc, List.getElem?_append_right (by omega), List.getElem?_append_left (by omega), hl]
    · rw [if_neg (by omega), List.getElem?_append_right (by rw [List.length_append, hl]; omega), List.getElem?_drop, List.length_append, hl]
      congr 1; omega
/-- A part of cells. -/
def part (cs : List EV) (o n : Nat) : List EV := (cs.drop o).take n
theorem part_get {cs : List EV} {o n i : Nat} : (part cs o n)[i]? = if i < n then cs[o + i]? else none := by
  unfold part; rw [List.getElem?_take]; split
  · rw [List.getElem?_drop]
  · rfl
theorem part_len {cs : List EV} {o n : Nat} (h : o + n ≤ cs.length) : (part cs o n).length = n := by
  simp only [part, List.length_take, List.length_drop]; omega
theorem putAt_apart {cs vs : List EV} {p o n : Nat} (h : p + vs.length ≤ cs.length) (hd : n = 0 ∨ vs.length = 0 ∨ o + n ≤ p ∨ p + vs.length ≤ o) : part (putAt cs p vs) o n = part cs o n := by
  refine List.ext_getElem? fun i => ?_
  rw [part_get, part_get]
  by_cases hi : i < n
  · rw [if_pos hi, if_pos hi, putAt_get h, if_neg (by omega)]
  · rw [if_neg hi, if_neg hi]
theorem putAt_in {cs vs : List EV} {p o n : Nat} (h1 : p + vs.length ≤ n) (h2 : o + n ≤ cs.length) : part (putAt cs (o + p) vs) o n = putAt (part cs o n) p vs := by
  refine List.ext_getElem? fun i => ?_
  rw [part_get, putAt_get (by omega), putAt_get (by rw [part_len h2]; exact h1), part_get]
  by_cases hi : i < n
  · rw [if_pos hi]
    by_cases hp : p ≤ i ∧ i < p + vs.length
    · rw [if_pos (by omega), if_pos hp]; congr 1; omega
    · rw [if_neg (by omega), if_neg hp, if_pos hi]
  · rw [if_neg hi, if_neg (by omega), if_neg hi]
theorem putAt_all {cs vs : List EV} (h : vs.length = cs.length) : putAt cs 0 vs = vs := by
  unfold putAt; rw [List.take_zero, List.nil_append, List.drop_eq_nil_of_le (by omega), List.append_nil]
theorem write_putAt {m : Mem} {b p e t : Nat} {cs vs : List EV} (hg : m.get b = .cells cs e t false) (h : p + vs.length ≤ cs.length) : m.write b p vs = some (m.set b (.cells (putAt cs p vs) e t false)) := by
  rw [write_eq, hg, wrB_cells h]; rfl
end Go.Proofs.Ythlbifjgnhdonaa.Ev
end
section
namespace Go.Proofs.Ythlbifjgnhdonaa.Ev
open Go
set_option linter.unusedSimpArgs false
set_option linter.unusedSectionVars false
set_option maxRecDepth 10000
set_option maxHeartbeats 4000000
/-- An array: its block, where it begins there, its cells. -/
structure Arr where
  b : Nat
  o : Nat
  l : List EV
  nl : Bool
def Arr.v (a : Arr) : EV := bif a.nl then .nilslice else .slice a.b a.o a.l.length (some a.l.length)
def Disj (a a' : Arr) : Prop := a.b = a'.b → a.l.length = 0 ∨ a'.l.length = 0 ∨ a.o + a.l.length ≤ a'.o ∨ a'.o + a'.l.length ≤ a.o
def ArrAt (m : Mem) (a : Arr) : Prop := ∃ cs t, m.get a.b = .cells cs 1 t false ∧ a.o + a.l.length ≤ cs.length ∧ part cs a.o a.l.length = a.l
def CurAt (m : Mem) (cv : EV) (ib : Nat → Prop) (A : List Arr) : Prop := cv = .nilslice ∨ ∃ cb cn cs t, cv = .slice cb 0 cn (some cs.length) ∧ ib cb ∧ m.get cb = .cells cs 1 t false ∧ (cn ≤ cs.length ∧ cs.length < 1000000000) ∧ (∀ i, cn ≤ i → i < cs.length → cs[i]? = some (.int .i64 0)) ∧ ∀ (i : Nat) (a : Arr), A[i]? = some a → a.b = cb → a.l.length = 0 ∨ a.o + a.l.length ≤ cn
def usedOf (A : List Arr) : Int := ((A.map fun a => a.l.length + 1).sum : Nat)
structure HeapRep (m : Mem) (hb : Nat) (most : Int) (A : List Arr) (cv av : EV) (ib : Nat → Prop) : Prop where
  get : m.get hb = .cells [cv, av, .int .i64 most, .int .i64 (usedOf A), .bool true] 5 36 false
  lt : hb < m.next
  ibok : ∀ c, ib c → c < m.next ∧ c ≠ hb ∧ Off av c
  own : Own m av (A.map Arr.v) A.length 1 0
  offh : Off av hb
  arr : ∀ (i : Nat) (a : Arr), A[i]? = some a → a.nl = true ∧ a.l = [] ∨ a.nl = false ∧ ArrAt m a ∧ ib a.b
  dis : ∀ (i j : Nat) (a a' : Arr), i ≠ j → A[i]? = some a → A[j]? = some a' → Disj a a'
  cur : CurAt m cv ib A
theorem Own.len_eq {m : Mem} {v : EV} {cs : List EV} {n esz lo : Nat} (h : Own m v cs n esz lo) : v = .nilslice ∧ n = 0 ∨ ∃ b cap, v = .slice b 0 n cap := by
  rcases h.is with ⟨h1, h2, _⟩ | ⟨b, cap, t, h1, _⟩
  · exact .inl ⟨h1, h2⟩
  · exact .inr ⟨b, cap, h1⟩
theorem Own.keep {m m' : Mem} {v : EV} {cs : List EV} {n esz lo : Nat} (h : Own m v cs n esz lo) (hn : m.next ≤ m'.next) (hk : ∀ c, c < m.next → ¬ Off v c → m'.get c = m.get c) : Own m' v cs n esz lo := by
  refine ⟨?_, h.len⟩
  rcases h.is with h | ⟨b, cap, t, rfl, h1, h2, h3, h4⟩
  · exact .inl h
  · exact .inr ⟨b, cap, t, rfl, h1, by omega, by rw [hk b h2 (fun ho => ho b 0 n cap rfl rfl)]; exact h3, h4⟩
section
variable {m : Mem} {hb : Nat} {most : Int} {A : List Arr} {cv av : EV} {ib : Nat → Prop}
theorem of_in (h : HeapRep m hb most A cv av ib) {k : Nat} {a : Arr} (hk : A[k]? = some a) (hl : A.length < 1000000000) : run T 20 [.ptr hb 0, .int .i64 ((k : Int) + 1)] m = some (.ret (.tuple [a.v, .bool true]) m) := by
  have hg := h.get
  have hlt : k < A.length := (List.getElem?_eq_some_iff.1 hk).1
  rcases h.own.is with ⟨_, h0, _⟩ | ⟨b, cap, t, hv, _, _, hb3, _⟩
  · omega
  subst hv
  have n1 : ¬ ((k : Int) + 1 < 1) := by omega
  have n2 : ¬ ((A.length : Int) < (k : Int) + 1) := by omega
  have hw : IntKind.i64.wrap ((k : Int) + 1 - 1) = (k : Int) := by rw [wrap_i64 (by omega) (by omega)]; omega
  rw [run_at (by simp [F20])]
  simp +contextual -implicitDefEqProofs (maxSteps := 1000000) only [F20, hg, n1, n2, hw, idx_cast, hlt, hb3, List.getElem?_map, hk, Nat.mul_one, Option.map_some, argsF, fr00_get, fr00_defers, put_some, put_none, set_defers, eval_tmp, eval_const, reduceIte, reduceCtorEq, Nat.reduceEqDiff, Nat.reduceBEq, Nat.reduceAdd, ofEV_some, ofEM_some, ofM_some, thenV_some, thenC_ret, thenE_norm, thenE_ret, thenE_exit, leave_norm, leave_ret, leave_exit, selO_t, selO_f, resR_ret, resR_norm, resR_pan, eq_self, res_nil, res_tmp, one_one, one_two, one_nil, bin_add, bin_sub, bin_mul, bin_quo, bin_rem, bin_and, bin_or, bin_xor, bin_andNot, bin_lss, bin_leq, bin_gtr, bin_geq, bin_shl_i64, bin_shr_i64, bin_shl_u64, bin_shr_u64, eq_int, un_neg, cv_int, exec_seq, exec_region, exec_skip, exec_ret, exec_exit, exec_block, exec_cond', oprs_nil, oprs_val, oprs_callv, Option.map_some, Option.map_none, List.map_cons, List.map_nil, Int.reduceLT, Int.reduceLE, Int.reduceEq, Int.reduceToNat, Int.reduceNeg, Nat.reduceLeDiff, Int.reducePow, bo_decide, bo_not_decide, bo_tt, bo_ff, gv_true, gv_false, cE_bo, thenG_val, thenH_ret, gV_undef, gV_bo_t, gV_bo_f, gV_gv_t, gV_gv_f, gC_undef, gC_bo_t, gC_bo_f, gC_gv_t, gC_gv_f, oprs_gval, oprs_gcallv, runV_func, List.nil_append, List.append_nil, List.cons_append, evOp_pick', pick_and, pick_or, pick_and0, pick_or0, pick_t, pick_f, un_not_bo, eq_boo, eq_str, thenE_iF, leave_iF, thenV_iF, thenC_iF, resR_iF, not_true_eq_false, not_false_eq_true, and_true, true_and, and_false, false_and, or_true, true_or, or_false, false_or, Classical.not_not, Bool.false_bne, Bool.true_bne, Bool.false_xor, Bool.true_xor, evOp_mov, evOp_build, evOp_load, evOp_store, evOp_nilck, evOp_bin, evOp_eq, evOp_un, evOp_conv, evOp_iface, evOp_mkfn, evOp_mkslice, evOp_slstr, evOp_slsl, evOp_slarr, evOp_faddr, evOp_fld, evOp_iaddr, evOp_iaddrArr, evOp_idxstr, evOp_idxagg, evOp_lookup, evOp_mapupd, evOp_delete, evOp_lenmap, evOp_tassert, evOp_extract, evOp_lenstr, evOp_len, evOp_lenarr, evOp_cap, evOp_max, evOp_min, evOp_append, evOp_copy, cE_t, cE_f, gV_tt, gV_tf, gV_ft, gV_ff, gV_gt_t, gV_gt_f, gV_gf_t, gV_gf_f, gC_tt, gC_tf, gC_ft, gC_ff, gC_gt_t, gC_gt_f, gC_gf_t, gC_gf_f, pick_and_t, pick_and_f, pick_or_t, pick_or_f, eq_bo_t, eq_bo_f, eq_t_bo, eq_f_bo, eq_tt, eq_ff, eq_tf, eq_ft, un_not_t, un_not_f, selE_t, selE_f, get_set', decide_true, decide_false, Bool.not_true, Bool.not_false, cond_true, cond_false, implies_true, Int.cast_ofNat_Int, UInt8.reduceToNat, Int.reduceSub, Int.reduceAdd , new_eq, ext_ext, nb_nb, next_ext, next_set, get_set_eq, get_set_ne, get_ext_old, get_ext_nb, get_ext_nb', load_ptr', ldB_cells, part_none, part_some, store_ptr', stB_some, write_eq, wrB_cells, set_ext_nb, set_ext_nb', set_ext_old, cells_int, cells_bool, cells_bo, cells_str, cells_nilptr, cells_ptr, cells_nilslice, cells_slice, cells_nilmap, cells_map, cells_nilfunc, cells_func, cells_niliface, cells_iface, cells_agg, fill_nil, fill_cons, fillB_some, evOp_box', boxE_some, evOp_alloc', evOp_mkmap', get_bump, next_bump, set_bump, load_bump, nb_lt, nb_inj, lt_nb, eq_agg, eqs_nil, eqs_cons, eqsE_some, andO_true, andO_false, andO_t, andO_f, andO_dec, res_cell, rcE_some, List.length_cons, List.length_nil, Nat.zero_add, Nat.add_zero, List.take_succ_cons, List.take_zero, List.take_nil, List.drop_succ_cons, List.drop_zero, List.drop_nil, List.getElem?_cons_zero, List.getElem?_cons_succ, List.getElem?_nil, Option.getD_some, List.set_cons_zero, List.set_cons_succ, Nat.reduceLT, Nat.reduceMul, Nat.reduceSub, Nat.reduceAdd, Nat.reduceEqDiff, Nat.reduceLeDiff, Nat.le_refl, ne_eq, Bool.or_true, Bool.or_false, Bool.true_or, Bool.false_or, Bool.and_true, Bool.true_and, Bool.and_false, Bool.false_and, eq_pn, eq_np, eq_nn, eq_sn, eq_ns, eq_nsns, evOp_bslice1, evOp_bslice0, bsE_some , srt_mov, srt_alloc, srt_box, srt_build, srt_bslice, srt_store, srt_nilck, srt_bin, srt_eq, srt_un, srt_iface, srt_mkfn, srt_mkmap, srt_mkslice, srt_slstr, srt_slsl, srt_slarr, srt_faddr, srt_fld, srt_iaddr, srt_iaddrArr, srt_idxstr, srt_idxagg, srt_lookup, srt_mapupd, srt_delete, srt_lenmap, srt_tassert, srt_extract, srt_len, srt_lenstr, srt_lenarr, srt_cap, srt_max, srt_min, srt_append, srt_copy, srt_pick, srt_cv_int, srt_cv_same, srt_cv_bytes, srt_cv_text, exec_draw', drw_nil, thenL_some, ifB_true, drw_v0, drw_v1, thenD_ret, chk_nil, chk_cons, snap_nil, snap_cons, pair_nil, pair_cons, stands_eq, standE_self, noL_nil, noL_cons, noA_nil, noA_cons, drw_load0, drw_load1, drw_v30, drw_v31, drw_call0, drw_call1, retO_ret, drw_gv0, drw_gv1, drw_gld0, drw_gld1, drw_gv30, drw_gv31, drw_gcall0, drw_gcall1, gE_bo_t, gE_bo_f, gE_tt, gE_tf, gE_ft, gE_ff, gE_undef, gE_gv_t, gE_gv_f, gE_gt_t, gE_gt_f, gE_gf_t, gE_gf_f, Nat.reduceBNe ]
theorem of_out (h : HeapRep m hb most A cv av ib) {n : Int} (hn : n < 1 ∨ (A.length : Int) < n) : run T 20 [.ptr hb 0, .int .i64 n] m = some (.ret (.tuple [.nilslice, .bool false]) m) := by
  have hg := h.get
  rw [run_at (by simp [F20])]
  by_cases n1 : n < 1
  · simp +contextual -implicitDefEqProofs (maxSteps := 1000000) only [F20, hg, n1, argsF, fr00_get, fr00_defers, put_some, put_none, set_defers, eval_tmp, eval_const, reduceIte, reduceCtorEq, Nat.reduceEqDiff, Nat.reduceBEq, Nat.reduceAdd, ofEV_some, ofEM_some, ofM_some, thenV_some, thenC_ret, thenE_norm, thenE_ret, thenE_exit, leave_norm, leave_ret, leave_exit, selO_t, selO_f, resR_ret, resR_norm, resR_pan, eq_self, res_nil, res_tmp, one_one, one_two, one_nil, bin_add, bin_sub, bin_mul, bin_quo, bin_rem, bin_and, bin_or, bin_xor, bin_andNot, bin_lss, bin_leq, bin_gtr, bin_geq, bin_shl_i64, bin_shr_i64, bin_shl_u64, bin_shr_u64, eq_int, un_neg, cv_int, exec_seq, exec_region, exec_skip, exec_ret, exec_exit, exec_block, exec_cond', oprs_nil, oprs_val, oprs_callv, Option.map_some, Option.map_none, List.map_cons, List.map_nil, Int.reduceLT, Int.reduceLE, Int.reduceEq, Int.reduceToNat, Int.reduceNeg, Nat.reduceLeDiff, Int.reducePow, bo_decide, bo_not_decide, bo_tt, bo_ff, gv_true, gv_false, cE_bo, thenG_val, thenH_ret, gV_undef, gV_bo_t, gV_bo_f, gV_gv_t, gV_gv_f, gC_undef, gC_bo_t, gC_bo_f, gC_gv_t, gC_gv_f, oprs_gval, oprs_gcallv, runV_func, List.nil_append, List.append_nil, List.cons_append, evOp_pick', pick_and, pick_or, pick_and0, pick_or0, pick_t, pick_f, un_not_bo, eq_boo, eq_str, thenE_iF, leave_iF, thenV_iF, thenC_iF, resR_iF, not_true_eq_false, not_false_eq_true, and_true, true_and, and_false, false_and, or_true, true_or, or_false, false_or, Classical.not_not, Bool.false_bne, Bool.true_bne, Bool.false_xor, Bool.true_xor, evOp_mov, evOp_build, evOp_load, evOp_store, evOp_nilck, evOp_bin, evOp_eq, evOp_un, evOp_conv, evOp_iface, evOp_mkfn, evOp_mkslice, evOp_slstr, evOp_slsl, evOp_slarr, evOp_faddr, evOp_fld, evOp_iaddr, evOp_iaddrArr, evOp_idxstr, evOp_idxagg, evOp_lookup, evOp_mapupd, evOp_delete, evOp_lenmap, evOp_tassert, evOp_extract, evOp_lenstr, evOp_len, evOp_lenarr, evOp_cap, evOp_max, evOp_min, evOp_append, evOp_copy, cE_t, cE_f, gV_tt, gV_tf, gV_ft, gV_ff, gV_gt_t, gV_gt_f, gV_gf_t, gV_gf_f, gC_tt, gC_tf, gC_ft, gC_ff, gC_gt_t, gC_gt_f, gC_gf_t, gC_gf_f, pick_and_t, pick_and_f, pick_or_t, pick_or_f, eq_bo_t, eq_bo_f, eq_t_bo, eq_f_bo, eq_tt, eq_ff, eq_tf, eq_ft, un_not_t, un_not_f, selE_t, selE_f, get_set', decide_true, decide_false, Bool.not_true, Bool.not_false, cond_true, cond_false, implies_true, Int.cast_ofNat_Int, UInt8.reduceToNat, Int.reduceSub, Int.reduceAdd , new_eq, ext_ext, nb_nb, next_ext, next_set, get_set_eq, get_set_ne, get_ext_old, get_ext_nb, get_ext_nb', load_ptr', ldB_cells, part_none, part_some, store_ptr', stB_some, write_eq, wrB_cells, set_ext_nb, set_ext_nb', set_ext_old, cells_int, cells_bool, cells_bo, cells_str, cells_nilptr, cells_ptr, cells_nilslice, cells_slice, cells_nilmap, cells_map, cells_nilfunc, cells_func, cells_niliface, cells_iface, cells_agg, fill_nil, fill_cons, fillB_some, evOp_box', boxE_some, evOp_alloc', evOp_mkmap', get_bump, next_bump, set_bump, load_bump, nb_lt, nb_inj, lt_nb, eq_agg, eqs_nil, eqs_cons, eqsE_some, andO_true, andO_false, andO_t, andO_f, andO_dec, res_cell, rcE_some, List.length_cons, List.length_nil, Nat.zero_add, Nat.add_zero, List.take_succ_cons, List.take_zero, List.take_nil, List.drop_succ_cons, List.drop_zero, List.drop_nil, List.getElem?_cons_zero, List.getElem?_cons_succ, List.getElem?_nil, Option.getD_some, List.set_cons_zero, List.set_cons_succ, Nat.reduceLT, Nat.reduceMul, Nat.reduceSub, Nat.reduceAdd, Nat.reduceEqDiff, Nat.reduceLeDiff, Nat.le_refl, ne_eq, Bool.or_true, Bool.or_false, Bool.true_or, Bool.false_or, Bool.and_true, Bool.true_and, Bool.and_false, Bool.false_and, eq_pn, eq_np, eq_nn, eq_sn, eq_ns, eq_nsns, evOp_bslice1, evOp_bslice0, bsE_some , srt_mov, srt_alloc, srt_box, srt_build, srt_bslice, srt_store, srt_nilck, srt_bin, srt_eq, srt_un, srt_iface, srt_mkfn, srt_mkmap, srt_mkslice, srt_slstr, srt_slsl, srt_slarr, srt_faddr, srt_fld, srt_iaddr, srt_iaddrArr, srt_idxstr, srt_idxagg, srt_lookup, srt_mapupd, srt_delete, srt_lenmap, srt_tassert, srt_extract, srt_len, srt_lenstr, srt_lenarr, srt_cap, srt_max, srt_min, srt_append, srt_copy, srt_pick, srt_cv_int, srt_cv_same, srt_cv_bytes, srt_cv_text, exec_draw', drw_nil, thenL_some, ifB_true, drw_v0, drw_v1, thenD_ret, chk_nil, chk_cons, snap_nil, snap_cons, pair_nil, pair_cons, stands_eq, standE_self, noL_nil, noL_cons, noA_nil, noA_cons, drw_load0, drw_load1, drw_v30, drw_v31, drw_call0, drw_call1, retO_ret, drw_gv0, drw_gv1, drw_gld0, drw_gld1, drw_gv30, drw_gv31, drw_gcall0, drw_gcall1, gE_bo_t, gE_bo_f, gE_tt, gE_tf, gE_ft, gE_ff, gE_undef, gE_gv_t, gE_gv_f, gE_gt_t, gE_gt_f, gE_gf_t, gE_gf_f, Nat.reduceBNe ]
  have n2 : (A.length : Int) < n := by omega
  rcases h.own.len_eq with ⟨rfl, h0⟩ | ⟨b, cap, rfl⟩
  · have n3 : (0 : Int) < n := by omega
    simp +contextual -implicitDefEqProofs (maxSteps := 1000000) only [F20, hg, n1, n3, argsF, fr00_get, fr00_defers, put_some, put_none, set_defers, eval_tmp, eval_const, reduceIte, reduceCtorEq, Nat.reduceEqDiff, Nat.reduceBEq, Nat.reduceAdd, ofEV_some, ofEM_some, ofM_some, thenV_some, thenC_ret, thenE_norm, thenE_ret, thenE_exit, leave_norm, leave_ret, leave_exit, selO_t, selO_f, resR_ret, resR_norm, resR_pan, eq_self, res_nil, res_tmp, one_one, one_two, one_nil, bin_add, bin_sub, bin_mul, bin_quo, bin_rem, bin_and, bin_or, bin_xor, bin_andNot, bin_lss, bin_leq, bin_gtr, bin_geq, bin_shl_i64, bin_shr_i64, bin_shl_u64, bin_shr_u64, eq_int, un_neg, cv_int, exec_seq, exec_region, exec_skip, exec_ret, exec_exit, exec_block, exec_cond', oprs_nil, oprs_val, oprs_callv, Option.map_some, Option.map_none, List.map_cons, List.map_nil, Int.reduceLT, Int.reduceLE, Int.reduceEq, Int.reduceToNat, Int.reduceNeg, Nat.reduceLeDiff, Int.reducePow, bo_decide, bo_not_decide, bo_tt, bo_ff, gv_true, gv_false, cE_bo, thenG_val, thenH_ret, gV_undef, gV_bo_t, gV_bo_f, gV_gv_t, gV_gv_f, gC_undef, gC_bo_t, gC_bo_f, gC_gv_t, gC_gv_f, oprs_gval, oprs_gcallv, runV_func, List.nil_append, List.append_nil, List.cons_append, evOp_pick', pick_and, pick_or, pick_and0, pick_or0, pick_t, pick_f, un_not_bo, eq_boo, eq_str, thenE_iF, leave_iF, thenV_iF, thenC_iF, resR_iF, not_true_eq_false, not_false_eq_true, and_true, true_and, and_false, false_and, or_true, true_or, or_false, false_or, Classical.not_not, Bool.false_bne, Bool.true_bne, Bool.false_xor, Bool.true_xor, evOp_mov, evOp_build, evOp_load, evOp_store, evOp_nilck, evOp_bin, evOp_eq, evOp_un, evOp_conv, evOp_iface, evOp_mkfn, evOp_mkslice, evOp_slstr, evOp_slsl, evOp_slarr, evOp_faddr, evOp_fld, evOp_iaddr, evOp_iaddrArr, evOp_idxstr, evOp_idxagg, evOp_lookup, evOp_mapupd, evOp_delete, evOp_lenmap, evOp_tassert, evOp_extract, evOp_lenstr, evOp_len, evOp_lenarr, evOp_cap, evOp_max, evOp_min, evOp_append, evOp_copy, cE_t, cE_f, gV_tt, gV_tf, gV_ft, gV_ff, gV_gt_t, gV_gt_f, gV_gf_t, gV_gf_f, gC_tt, gC_tf, gC_ft, gC_ff, gC_gt_t, gC_gt_f, gC_gf_t, gC_gf_f, pick_and_t, pick_and_f, pick_or_t, pick_or_f, eq_bo_t, eq_bo_f, eq_t_bo, eq_f_bo, eq_tt, eq_ff, eq_tf, eq_ft, un_not_t, un_not_f, selE_t, selE_f, get_set', decide_true, decide_false, Bool.not_true, Bool.not_false, cond_true, cond_false, implies_true, Int.cast_ofNat_Int, UInt8.reduceToNat, Int.reduceSub, Int.reduceAdd , new_eq, ext_ext, nb_nb, next_ext, next_set, get_set_eq, get_set_ne, get_ext_old, get_ext_nb, get_ext_nb', load_ptr', ldB_cells, part_none, part_some, store_ptr', stB_some, write_eq, wrB_cells, set_ext_nb, set_ext_nb', set_ext_old, cells_int, cells_bool, cells_bo, cells_str, cells_nilptr, cells_ptr, cells_nilslice, cells_slice, cells_nilmap, cells_map, cells_nilfunc, cells_func, cells_niliface, cells_iface, cells_agg, fill_nil, fill_cons, fillB_some, evOp_box', boxE_some, evOp_alloc', evOp_mkmap', get_bump, next_bump, set_bump, load_bump, nb_lt, nb_inj, lt_nb, eq_agg, eqs_nil, eqs_cons, eqsE_some, andO_true, andO_false, andO_t, andO_f, andO_dec, res_cell, rcE_some, List.length_cons, List.length_nil, Nat.zero_add, Nat.add_zero, List.take_succ_cons, List.take_zero, List.take_nil, List.drop_succ_cons, List.drop_zero, List.drop_nil, List.getElem?_cons_zero, List.getElem?_cons_succ, List.getElem?_nil, Option.getD_some, List.set_cons_zero, List.set_cons_succ, Nat.reduceLT, Nat.reduceMul, Nat.reduceSub, Nat.reduceAdd, Nat.reduceEqDiff, Nat.reduceLeDiff, Nat.le_refl, ne_eq, Bool.or_true, Bool.or_false, Bool.true_or, Bool.false_or, Bool.and_true, Bool.true_and, Bool.and_false, Bool.false_and, eq_pn, eq_np, eq_nn, eq_sn, eq_ns, eq_nsns, evOp_bslice1, evOp_bslice0, bsE_some , srt_mov, srt_alloc, srt_box, srt_build, srt_bslice, srt_store, srt_nilck, srt_bin, srt_eq, srt_un, srt_iface, srt_mkfn, srt_mkmap, srt_mkslice, srt_slstr, srt_slsl, srt_slarr, srt_faddr, srt_fld, srt_iaddr, srt_iaddrArr, srt_idxstr, srt_idxagg, srt_lookup, srt_mapupd, srt_delete, srt_lenmap, srt_tassert, srt_extract, srt_len, srt_lenstr, srt_lenarr, srt_cap, srt_max, srt_min, srt_append, srt_copy, srt_pick, srt_cv_int, srt_cv_same, srt_cv_bytes, srt_cv_text, exec_draw', drw_nil, thenL_some, ifB_true, drw_v0, drw_v1, thenD_ret, chk_nil, chk_cons, snap_nil, snap_cons, pair_nil, pair_cons, stands_eq, standE_self, noL_nil, noL_cons, noA_nil, noA_cons, drw_load0, drw_load1, drw_v30, drw_v31, drw_call0, drw_call1, retO_ret, drw_gv0, drw_gv1, drw_gld0, drw_gld1, drw_gv30, drw_gv31, drw_gcall0, drw_gcall1, gE_bo_t, gE_bo_f, gE_tt, gE_tf, gE_ft, gE_ff, gE_undef, gE_gv_t, gE_gv_f, gE_gt_t, gE_gt_f, gE_gf_t, gE_gf_f, Nat.reduceBNe ]
  · simp +contextual -implicitDefEqProofs (maxSteps := 1000000) only [F20, hg, n1, n2, argsF, fr00_get, fr00_defers, put_some, put_none, set_defers, eval_tmp, eval_const, reduceIte, reduceCtorEq, Nat.reduceEqDiff, Nat.reduceBEq, Nat.reduceAdd, ofEV_some, ofEM_some, ofM_some, thenV_some, thenC_ret, thenE_norm, thenE_ret, thenE_exit, leave_norm, leave_ret, leave_exit, selO_t, selO_f, resR_ret, resR_norm, resR_pan, eq_self, res_nil, res_tmp, one_one, one_two, one_nil, bin_add, bin_sub, bin_mul, bin_quo, bin_rem, bin_and, bin_or, bin_xor, bin_andNot, bin_lss, bin_leq, bin_gtr, bin_geq, bin_shl_i64, bin_shr_i64, bin_shl_u64, bin_shr_u64, eq_int, un_neg, cv_int, exec_seq, exec_region, exec_skip, exec_ret, exec_exit, exec_block, exec_cond', oprs_nil, oprs_val, oprs_callv, Option.map_some, Option.map_none, List.map_cons, List.map_nil, Int.reduceLT, Int.reduceLE, Int.reduceEq, Int.reduceToNat, Int.reduceNeg, Nat.reduceLeDiff, Int.reducePow, bo_decide, bo_not_decide, bo_tt, bo_ff, gv_true, gv_false, cE_bo, thenG_val, thenH_ret, gV_undef, gV_bo_t, gV_bo_f, gV_gv_t, gV_gv_f, gC_undef, gC_bo_t, gC_bo_f, gC_gv_t, gC_gv_f, oprs_gval, oprs_gcallv, runV_func, List.nil_append, List.append_nil, List.cons_append, evOp_pick', pick_and, pick_or, pick_and0, pick_or0, pick_t, pick_f, un_not_bo, eq_boo, eq_str, thenE_iF, leave_iF, thenV_iF, thenC_iF, resR_iF, not_true_eq_false, not_false_eq_true, and_true, true_and, and_false, false_and, or_true, true_or, or_false, false_or, Classical.not_not, Bool.false_bne, Bool.true_bne, Bool.false_xor, Bool.true_xor, evOp_mov, evOp_build, evOp_load, evOp_store, evOp_nilck, evOp_bin, evOp_eq, evOp_un, evOp_conv, evOp_iface, evOp_mkfn, evOp_mkslice, evOp_slstr, evOp_slsl, evOp_slarr, evOp_faddr, evOp_fld, evOp_iaddr, evOp_iaddrArr, evOp_idxstr, evOp_idxagg, evOp_lookup, evOp_mapupd, evOp_delete, evOp_lenmap, evOp_tassert, evOp_extract, evOp_lenstr, evOp_len, evOp_lenarr, evOp_cap, evOp_max, evOp_min, evOp_append, evOp_copy, cE_t, cE_f, gV_tt, gV_tf, gV_ft, gV_ff, gV_gt_t, gV_gt_f, gV_gf_t, gV_gf_f, gC_tt, gC_tf, gC_ft, gC_ff, gC_gt_t, gC_gt_f, gC_gf_t, gC_gf_f, pick_and_t, pick_and_f, pick_or_t, pick_or_f, eq_bo_t, eq_bo_f, eq_t_bo, eq_f_bo, eq_tt, eq_ff, eq_tf, eq_ft, un_not_t, un_not_f, selE_t, selE_f, get_set', decide_true, decide_false, Bool.not_true, Bool.not_false, cond_true, cond_false, implies_true, Int.cast_ofNat_Int, UInt8.reduceToNat, Int.reduceSub, Int.reduceAdd , new_eq, ext_ext, nb_nb, next_ext, next_set, get_set_eq, get_set_ne, get_ext_old, get_ext_nb, get_ext_nb', load_ptr', ldB_cells, part_none, part_some, store_ptr', stB_some, write_eq, wrB_cells, set_ext_nb, set_ext_nb', set_ext_old, cells_int, cells_bool, cells_bo, cells_str, cells_nilptr, cells_ptr, cells_nilslice, cells_slice, cells_nilmap, cells_map, cells_nilfunc, cells_func, cells_niliface, cells_iface, cells_agg, fill_nil, fill_cons, fillB_some, evOp_box', boxE_some, evOp_alloc', evOp_mkmap', get_bump, next_bump, set_bump, load_bump, nb_lt, nb_inj, lt_nb, eq_agg, eqs_nil, eqs_cons, eqsE_some, andO_true, andO_false, andO_t, andO_f, andO_dec, res_cell, rcE_some, List.length_cons, List.length_nil, Nat.zero_add, Nat.add_zero, List.take_succ_cons, List.take_zero, List.take_nil, List.drop_succ_cons, List.drop_zero, List.drop_nil, List.getElem?_cons_zero, List.getElem?_cons_succ, List.getElem?_nil, Option.getD_some, List.set_cons_zero, List.set_cons_succ, Nat.reduceLT, Nat.reduceMul, Nat.reduceSub, Nat.reduceAdd, Nat.reduceEqDiff, Nat.reduceLeDiff, Nat.le_refl, ne_eq, Bool.or_true, Bool.or_false, Bool.true_or, Bool.false_or, Bool.and_true, Bool.true_and, Bool.and_false, Bool.false_and, eq_pn, eq_np, eq_nn, eq_sn, eq_ns, eq_nsns, evOp_bslice1, evOp_bslice0, bsE_some , srt_mov, srt_alloc, srt_box, srt_build, srt_bslice, srt_store, srt_nilck, srt_bin, srt_eq, srt_un, srt_iface, srt_mkfn, srt_mkmap, srt_mkslice, srt_slstr, srt_slsl, srt_slarr, srt_faddr, srt_fld, srt_iaddr, srt_iaddrArr, srt_idxstr, srt_idxagg, srt_lookup, srt_mapupd, srt_delete, srt_lenmap, srt_tassert, srt_extract, srt_len, srt_lenstr, srt_lenarr, srt_cap, srt_max, srt_min, srt_append, srt_copy, srt_pick, srt_cv_int, srt_cv_same, srt_cv_bytes, srt_cv_text, exec_draw', drw_nil, thenL_some, ifB_true, drw_v0, drw_v1, thenD_ret, chk_nil, chk_cons, snap_nil, snap_cons, pair_nil, pair_cons, stands_eq, standE_self, noL_nil, noL_cons, noA_nil, noA_cons, drw_load0, drw_load1, drw_v30, drw_v31, drw_call0, drw_call1, retO_ret, drw_gv0, drw_gv1, drw_gld0, drw_gld1, drw_gv30, drw_gv31, drw_gcall0, drw_gcall1, gE_bo_t, gE_bo_f, gE_tt, gE_tf, gE_ft, gE_ff, gE_undef, gE_gv_t, gE_gv_f, gE_gt_t, gE_gt_f, gE_gf_t, gE_gf_f, Nat.reduceBNe ]
/-- Cells of an array are written anew. -/
theorem HeapRep.write (h : HeapRep m hb most A cv av ib) {k : Nat} {a : Arr} (hk : A[k]? = some a) (hnl : a.nl = false) {i : Nat} {vs : List EV} (hi : i + vs.length ≤ a.l.length) :
    ∃ m', m.write a.b (a.o + i) vs = some m' ∧ m'.next = m.next ∧ (∀ c, c ≠ a.b → m'.get c = m.get c) ∧ HeapRep m' hb most (A.set k ⟨a.b, a.o, putAt a.l i vs, false⟩) cv av ib := by
  obtain ⟨⟨cs, t, h1, h2, h3⟩, h4⟩ : ArrAt m a ∧ ib a.b := by
    rcases h.arr k a hk with h | h
    · rw [hnl] at h; exact absurd h.1 (by simp)
    · exact h.2
  have hlt : k < A.length := (List.getElem?_eq_some_iff.1 hk).1
  have hov : (putAt a.l i vs).length = a.l.length := putAt_len hi
  have hfit : a.o + i + vs.length ≤ cs.length := by omega
  obtain ⟨g1, g2, g3⟩ := h.ibok a.b h4
  have hkeep : ∀ c, c ≠ a.b → (m.set a.b (.cells (putAt cs (a.o + i) vs) 1 t false)).get c = m.get c := fun c hc => get_set_ne hc
  have hset : ∀ (j : Nat) (x : Arr), (A.set k ⟨a.b, a.o, putAt a.l i vs, false⟩)[j]? = some x → (j = k ∧ x = ⟨a.b, a.o, putAt a.l i vs, false⟩) ∨ (j ≠ k ∧ A[j]? = some x) := by
    intro j x hx
    rw [List.getElem?_set] at hx
    by_cases hj : k = j
    · rw [if_pos hj, if_pos hlt] at hx; cases hx; exact .inl ⟨hj.symm, rfl⟩
    · rw [if_neg hj] at hx; exact .inr ⟨fun e => hj e.symm, hx⟩
  have hmap : (A.set k ⟨a.b, a.o, putAt a.l i vs, false⟩).map Arr.v = A.map Arr.v := by
    refine List.ext_getElem? fun j => ?_
    rw [List.getElem?_map, List.getElem?_map, List.getElem?_set]
    by_cases hj : k = j
    · subst hj; rw [if_pos rfl, if_pos hlt, hk]; simp only [Option.map_some, Arr.v, hov, hnl]
    · rw [if_neg hj]
  have hused : usedOf (A.set k ⟨a.b, a.o, putAt a.l i vs, false⟩) = usedOf A := by
    unfold usedOf
    congr 2
    refine List.ext_getElem? fun j => ?_
    rw [List.getElem?_map, List.getElem?_map, List.getElem?_set]
    by_cases hj : k = j
    · subst hj; rw [if_pos rfl, if_pos hlt, hk]; simp only [Option.map_some, hov]
    · rw [if_neg hj]
  refine ⟨_, write_putAt h1 hfit, next_set, hkeep, ⟨?_, h.lt, h.ibok, ?_, h.offh, ?_, ?_, ?_⟩⟩
  · rw [hkeep hb (Ne.symm g2), hused]; exact h.get
  · rw [hmap, List.length_set]
    exact h.own.keep (Nat.le_refl _) fun c _ hc => hkeep c fun e => hc (e ▸ g3)
  · intro j x hx
    rcases hset j x hx with ⟨rfl, rfl⟩ | ⟨hj, hx⟩
    · refine .inr ⟨rfl, ⟨_, _, get_set_eq, ?_, ?_⟩, h4⟩
      · simp only [hov]; rw [putAt_len hfit]; exact h2
      · simp only [hov]; rw [putAt_in hi h2, h3]
    · rcases h.arr j x hx with q | ⟨q0, ⟨cs', t', q1, q2, q3⟩, q4⟩
      · exact .inl q
      refine .inr ⟨q0, ?_, q4⟩
      by_cases hb' : x.b = a.b
      · rw [hb'] at q1
        rw [h1] at q1
        cases q1
        refine ⟨_, _, by rw [hb']; exact get_set_eq, by rw [putAt_len hfit]; exact q2, ?_⟩
        rw [putAt_apart hfit, q3]
        have := h.dis j k x a hj hx hk hb'
        omega
      · exact ⟨cs', t', by rw [hkeep _ hb']; exact q1, q2, q3⟩
  · intro j j' x x' hjj hx hx'
    rcases hset j x hx with ⟨e1, e2⟩ | ⟨hj, y⟩ <;> rcases hset j' x' hx' with ⟨e3, e4⟩ | ⟨hj', y'⟩
    · exact absurd (e1.trans e3.symm) hjj
    · have := h.dis k j' a x' (Ne.symm hj') hk y'
      subst e2
      unfold Disj at this ⊢; simp only [hov]; exact this
    · have := h.dis j k x a hj y hk
      subst e4
      unfold Disj at this ⊢; simp only [hov]; exact this
    · exact h.dis j j' x x' hjj y y'
  · rcases h.cur with hc | ⟨cb, cn, cs', t', c1, c2, c3, c4, c5, c6⟩
    · exact .inl hc
    · have hall : ∀ (j : Nat) (x : Arr), (A.set k ⟨a.b, a.o, putAt a.l i vs, false⟩)[j]? = some x → x.b = cb → x.l.length = 0 ∨ x.o + x.l.length ≤ cn := by
        intro j x hx hb'
        rcases hset j x hx with ⟨rfl, rfl⟩ | ⟨hj, hx⟩
        · have := c6 j a hk hb'; simp only [hov]; exact this
        · exact c6 j x hx hb'
      by_cases hb' : cb = a.b
      · rw [hb', h1] at c3
        cases c3
        refine .inr ⟨cb, cn, putAt cs (a.o + i) vs, t, by rw [putAt_len hfit]; exact c1, c2, by rw [hb']; exact get_set_eq, by rw [putAt_len hfit]; exact c4, ?_, hall⟩
        intro j hj1 hj2
        rw [putAt_len hfit] at hj2
        have := c6 k a hk hb'.symm
        rw [putAt_get hfit, if_neg (by omega)]
        exact c5 j hj1 hj2
      · exact .inr ⟨cb, cn, cs', t', c1, c2, by rw [hkeep _ hb']; exact c3, c4, c5, hall⟩
end
end Go.Proofs.Ythlbifjgnhdonaa.Ev
end
section
namespace Go.Proofs.Ythlbifjgnhdonaa.Ev
open Go
set_option linter.unusedSimpArgs false
set_option linter.unusedSectionVars false
set_option maxRecDepth 10000
set_option maxHeartbeats 4000000
/-- Memory in which a block was taken that was set aside. -/
def drawn (n k : Nat) (m : Mem) (x : Blk) : Mem := ⟨n, (m.set k x).tbl⟩
theorem tbl_drawn {n k : Nat} {m : Mem} {x : Blk} : (⟨n, (ext ⟨k, m.tbl⟩ [x]).tbl⟩ : Mem) = drawn n k m x := rfl
theorem drawn_get {n k b : Nat} {m : Mem} {x : Blk} : (drawn n k m x).get b = if b = k then x else m.get b := get_set
theorem slice_hi {b len c h : Nat} (hh : h ≤ c) : evSlice 1 b 0 len (some c) none (some (.int .i64 (h : Int))) none = some (.slice b 0 h (some c)) := by
  simp only [evSlice, bound_none, bound_cast hh, bound_cast (Nat.zero_le h), Nat.sub_zero]
  cases c.beq 0 <;> simp
theorem slice_3 {b len c l n : Nat} (hh : l + n ≤ c) : evSlice 1 b 0 len (some c) (some (.int .i64 (l : Int))) (some (.int .i64 ((l + n : Nat) : Int))) (some (.int .i64 ((l + n : Nat) : Int))) = some (.slice b (if n = 0 then 0 else l) n (some n)) := by
  simp only [evSlice, bound_cast hh, bound_cast (Nat.le_refl (l + n)), bound_cast (Nat.le_add_right l n), Nat.add_sub_cancel_left]
  by_cases h : n = 0
  · subst h; simp
  · rw [beq_ff (by omega), if_neg h]; simp
section
variable {m : Mem} {hb : Nat} {most : Int} {A : List Arr} {av : EV} {ib : Nat → Prop}
theorem used_nonneg : 0 ≤ usedOf A := by unfold usedOf; omega
theorem used_snoc {a : Arr} : usedOf (A ++ [a]) = usedOf A + ((a.l.length : Int) + 1) := by
  unfold usedOf; rw [List.map_append, List.sum_append]; simp
theorem snoc_get {a x : Arr} {i : Nat} (h : (A ++ [a])[i]? = some x) : (i = A.length ∧ x = a) ∨ A[i]? = some x := by
  by_cases hi : i < A.length
  · rw [List.getElem?_append_left hi] at h; exact .inr h
  · rw [List.getElem?_append_right (by omega)] at h
    by_cases h0 : i - A.length = 0
    · rw [h0] at h; simp at h; exact .inl ⟨by omega, h.symm⟩
    · rw [List.getElem?_eq_none (by simp; omega)] at h; cases h
theorem len_used : (A.length : Int) ≤ usedOf A := by
  unfold usedOf
  have : ∀ A : List Arr, A.length ≤ (A.map fun a => a.l.length + 1).sum := by
    intro A
    induction A with
    | nil => simp
    | cons a t ih => simp only [List.length_cons, List.map_cons, List.sum_cons]; omega
  exact Int.ofNat_le.2 (this A)
/-- What a new array leaves. -/
def NewArr (m : Mem) (hb : Nat) (most : Int) (A : List Arr) (av : EV) (ib : Nat → Prop) (n : Nat) (o : Option Fin) : Prop :=
  ∃ m' cv' av' cb a, o = some (.ret (.tuple [.int .i64 ((A.length + 1 : Nat) : Int), .bool true]) m') ∧ HeapRep m' hb most (A ++ [a]) cv' av' (fun c => ib c ∨ c = cb) ∧ a.l = List.replicate n (.int .i64 0) ∧ m.next ≤ m'.next ∧
    (∀ c, c < m.next → c ≠ hb → Off av c → m'.get c = m.get c) ∧ (ib cb ∨ m.next ≤ cb) ∧ (∀ c, c < m.next → Off av' c)
/-- A heap with one array more. -/
theorem rep_make {m2 : Mem} {cv cv' : EV} {vb cb n : Nat} {vcap : Option Nat} {a : Arr} (h : HeapRep m hb most A cv av ib)
    (hget : m2.get hb = .cells [cv', .slice vb 0 (A.length + 1) vcap, .int .i64 most, .int .i64 (usedOf A + ((n : Int) + 1)), .bool true] 5 36 false)
    (hn : a.l.length = n) (hnext : m.next ≤ m2.next) (hkeep : ∀ c, c < m.next → c ≠ hb → Off av c → m2.get c = m.get c)
    (hown : Own m2 (.slice vb 0 (A.length + 1) vcap) (A.map Arr.v ++ [a.v]) (A.length + 1) 1 0) (hvb : m.next ≤ vb)
    (hcb : cb ≠ hb ∧ cb ≠ vb ∧ cb < m2.next)
    (ha : a.nl = true ∧ a.l = [] ∨ a.nl = false ∧ ArrAt m2 a ∧ a.b = cb) (hdis : ∀ (i : Nat) (x : Arr), A[i]? = some x → Disj x a)
    (hcur : CurAt m2 cv' (fun c => ib c ∨ c = cb) (A ++ [a])) : HeapRep m2 hb most (A ++ [a]) cv' (.slice vb 0 (A.length + 1) vcap) (fun c => ib c ∨ c = cb) := by
  refine ⟨by rw [hget, used_snoc, hn], by have := h.lt; omega, ?_, ?_, ?_, ?_, ?_, hcur⟩
  · rintro c (hc | rfl)
    · obtain ⟨q1, q2, q3⟩ := h.ibok c hc
      exact ⟨by omega, q2, Off.of (by omega)⟩
    · exact ⟨hcb.2.2, hcb.1, Off.of hcb.2.1⟩
  · rw [List.map_append, List.length_append]; exact hown
  · exact Off.of (by have := h.lt; omega)
  · intro i x hx
    rcases snoc_get hx with ⟨_, rfl⟩ | hx
    · rcases ha with q | ⟨q1, q2, q3⟩
      · exact .inl q
      · exact .inr ⟨q1, q2, .inr q3⟩
    · rcases h.arr i x hx with q | ⟨q0, ⟨cs, t, q1, q2, q3⟩, q4⟩
      · exact .inl q
      · obtain ⟨r1, r2, r3⟩ := h.ibok x.b q4
        exact .inr ⟨q0, ⟨cs, t, by rw [hkeep _ r1 r2 r3]; exact q1, q2, q3⟩, .inl q4⟩
  · intro i j x y hij hx hy
    rcases snoc_get hx with ⟨e1, e2⟩ | hx' <;> rcases snoc_get hy with ⟨e3, e4⟩ | hy'
    · omega
    · have := hdis j y hy'
      subst e2
      intro hb'
      have := this hb'.symm
      omega
    · subst e4; exact hdis i x hx'
    · exact h.dis i j x y hij hx' hy'
theorem make_1 {cb cn : Nat} {cs : List EV} {n : Nat} (h : HeapRep m hb most A (.slice cb 0 cn (some cs.length)) av ib) (hm : most ≤ 1048576) (h1 : (n : Int) < most - usedOf A) (h2 : n ≤ cs.length - cn) (hcl : cs.length < 1000000000) {t : Nat} (c2 : ib cb) (c3 : m.get cb = .cells cs 1 t false) (hcn : cn ≤ cs.length) (c5 : ∀ i, cn ≤ i → i < cs.length → cs[i]? = some (.int .i64 0)) (c6 : ∀ (i : Nat) (a : Arr), A[i]? = some a → a.b = cb → a.l.length = 0 ∨ a.o + a.l.length ≤ cn) : NewArr m hb most A av ib n (run T 12 [.ptr hb 0, .int .i64 (n : Int)] m) := by
  have hg := h.get
  have n1 : ¬ ((n : Int) < 0) := by omega
  have hu : 0 ≤ usedOf A := by unfold usedOf; omega
  have w1 : IntKind.i64.wrap (most - usedOf A) = most - usedOf A := by rw [wrap_i64 (by omega) (by omega)]
  have n2 : ¬ (most - usedOf A ≤ (n : Int)) := by omega
  have w2 : IntKind.i64.wrap ((cs.length : Int) - (cn : Int)) = ((cs.length - cn : Nat) : Int) := by rw [wrap_i64 (by omega) (by omega)]; omega
  have w3 : IntKind.i64.wrap ((cn : Int) + (n : Int)) = ((cn + n : Nat) : Int) := by rw [wrap_i64 (by omega) (by omega)]; omega
  have n3 : ¬ (((cs.length - cn : Nat) : Int) < (n : Int)) := by omega
  have s1 := slice_hi (b := cb) (len := cn) (c := cs.length) (h := cn + n) (by omega)
  have s2 := slice_3 (b := cb) (len := cn + n) (c := cs.length) (l := cn) (n := n) (by omega)
  generalize hX : run T 12 [.ptr hb 0, .int .i64 (n : Int)] m = X
  rw [run_at (by simp [F12])] at hX
  simp +contextual -implicitDefEqProofs (maxSteps := 1000000) only [F12, hg, n1, n2, w1, w2, w3, n3, s1, s2, tbl_drawn, argsF, fr00_get, fr00_defers, put_some, put_none, set_defers, eval_tmp, eval_const, reduceIte, reduceCtorEq, Nat.reduceEqDiff, Nat.reduceBEq, Nat.reduceAdd, ofEV_some, ofEM_some, ofM_some, thenV_some, thenC_ret, thenE_norm, thenE_ret, thenE_exit, leave_norm, leave_ret, leave_exit, selO_t, selO_f, resR_ret, resR_norm, resR_pan, eq_self, res_nil, res_tmp, one_one, one_two, one_nil, bin_add, bin_sub, bin_mul, bin_quo, bin_rem, bin_and, bin_or, bin_xor, bin_andNot, bin_lss, bin_leq, bin_gtr, bin_geq, bin_shl_i64, bin_shr_i64, bin_shl_u64, bin_shr_u64, eq_int, un_neg, cv_int, exec_seq, exec_region, exec_skip, exec_ret, exec_exit, exec_block, exec_cond', oprs_nil, oprs_val, oprs_callv, Option.map_some, Option.map_none, List.map_cons, List.map_nil, Int.reduceLT, Int.reduceLE, Int.reduceEq, Int.reduceToNat, Int.reduceNeg, Nat.reduceLeDiff, Int.reducePow, bo_decide, bo_not_decide, bo_tt, bo_ff, gv_true, gv_false, cE_bo, thenG_val, thenH_ret, gV_undef, gV_bo_t, gV_bo_f, gV_gv_t, gV_gv_f, gC_undef, gC_bo_t, gC_bo_f, gC_gv_t, gC_gv_f, oprs_gval, oprs_gcallv, runV_func, List.nil_append, List.append_nil, List.cons_append, evOp_pick', pick_and, pick_or, pick_and0, pick_or0, pick_t, pick_f, un_not_bo, eq_boo, eq_str, thenE_iF, leave_iF, thenV_iF, thenC_iF, resR_iF, not_true_eq_false, not_false_eq_true, and_true, true_and, and_false, false_and, or_true, true_or, or_false, false_or, Classical.not_not, Bool.false_bne, Bool.true_bne, Bool.false_xor, Bool.true_xor, evOp_mov, evOp_build, evOp_load, evOp_store, evOp_nilck, evOp_bin, evOp_eq, evOp_un, evOp_conv, evOp_iface, evOp_mkfn, evOp_mkslice, evOp_slstr, evOp_slsl, evOp_slarr, evOp_faddr, evOp_fld, evOp_iaddr, evOp_iaddrArr, evOp_idxstr, evOp_idxagg, evOp_lookup, evOp_mapupd, evOp_delete, evOp_lenmap, evOp_tassert, evOp_extract, evOp_lenstr, evOp_len, evOp_lenarr, evOp_cap, evOp_max, evOp_min, evOp_append, evOp_copy, cE_t, cE_f, gV_tt, gV_tf, gV_ft, gV_ff, gV_gt_t, gV_gt_f, gV_gf_t, gV_gf_f, gC_tt, gC_tf, gC_ft, gC_ff, gC_gt_t, gC_gt_f, gC_gf_t, gC_gf_f, pick_and_t, pick_and_f, pick_or_t, pick_or_f, eq_bo_t, eq_bo_f, eq_t_bo, eq_f_bo, eq_tt, eq_ff, eq_tf, eq_ft, un_not_t, un_not_f, selE_t, selE_f, get_set', decide_true, decide_false, Bool.not_true, Bool.not_false, cond_true, cond_false, implies_true, Int.cast_ofNat_Int, UInt8.reduceToNat, Int.reduceSub, Int.reduceAdd , new_eq, ext_ext, nb_nb, next_ext, next_set, get_set_eq, get_set_ne, get_ext_old, get_ext_nb, get_ext_nb', load_ptr', ldB_cells, part_none, part_some, store_ptr', stB_some, write_eq, wrB_cells, set_ext_nb, set_ext_nb', set_ext_old, cells_int, cells_bool, cells_bo, cells_str, cells_nilptr, cells_ptr, cells_nilslice, cells_slice, cells_nilmap, cells_map, cells_nilfunc, cells_func, cells_niliface, cells_iface, cells_agg, fill_nil, fill_cons, fillB_some, evOp_box', boxE_some, evOp_alloc', evOp_mkmap', get_bump, next_bump, set_bump, load_bump, nb_lt, nb_inj, lt_nb, eq_agg, eqs_nil, eqs_cons, eqsE_some, andO_true, andO_false, andO_t, andO_f, andO_dec, res_cell, rcE_some, List.length_cons, List.length_nil, Nat.zero_add, Nat.add_zero, List.take_succ_cons, List.take_zero, List.take_nil, List.drop_succ_cons, List.drop_zero, List.drop_nil, List.getElem?_cons_zero, List.getElem?_cons_succ, List.getElem?_nil, Option.getD_some, List.set_cons_zero, List.set_cons_succ, Nat.reduceLT, Nat.reduceMul, Nat.reduceSub, Nat.reduceAdd, Nat.reduceEqDiff, Nat.reduceLeDiff, Nat.le_refl, ne_eq, Bool.or_true, Bool.or_false, Bool.true_or, Bool.false_or, Bool.and_true, Bool.true_and, Bool.and_false, Bool.false_and, eq_pn, eq_np, eq_nn, eq_sn, eq_ns, eq_nsns, evOp_bslice1, evOp_bslice0, bsE_some , srt_mov, srt_alloc, srt_box, srt_build, srt_bslice, srt_store, srt_nilck, srt_bin, srt_eq, srt_un, srt_iface, srt_mkfn, srt_mkmap, srt_mkslice, srt_slstr, srt_slsl, srt_slarr, srt_faddr, srt_fld, srt_iaddr, srt_iaddrArr, srt_idxstr, srt_idxagg, srt_lookup, srt_mapupd, srt_delete, srt_lenmap, srt_tassert, srt_extract, srt_len, srt_lenstr, srt_lenarr, srt_cap, srt_max, srt_min, srt_append, srt_copy, srt_pick, srt_cv_int, srt_cv_same, srt_cv_bytes, srt_cv_text, exec_draw', drw_nil, thenL_some, ifB_true, drw_v0, drw_v1, thenD_ret, chk_nil, chk_cons, snap_nil, snap_cons, pair_nil, pair_cons, stands_eq, standE_self, noL_nil, noL_cons, noA_nil, noA_cons, drw_load0, drw_load1, drw_v30, drw_v31, drw_call0, drw_call1, retO_ret, drw_gv0, drw_gv1, drw_gld0, drw_gld1, drw_gv30, drw_gv31, drw_gcall0, drw_gcall1, gE_bo_t, gE_bo_f, gE_tt, gE_tf, gE_ft, gE_ff, gE_undef, gE_gv_t, gE_gv_f, gE_gt_t, gE_gt_f, gE_gf_t, gE_gf_f, Nat.reduceBNe ] at hX
  generalize hM1 : drawn _ _ _ _ = M1 at hX
  have g1 : M1.next = m.next + 57 := by rw [← hM1]; rfl
  have g2 : ∀ c, c < m.next → c ≠ hb → M1.get c = m.get c := by
    intro c hc hne
    rw [← hM1, drawn_get, if_neg (by unfold nb; omega)]
    simp only [get_bump]
    exact get_set_ne hne
  have hbn := h.lt
  have g3 : M1.get hb = .cells [.slice cb 0 (cn + n) (some cs.length), av, .int .i64 most, .int .i64 (usedOf A), .bool true] 5 36 false := by
    rw [← hM1, drawn_get, if_neg (by unfold nb; omega)]
    simp only [get_bump]
    exact get_set_eq
  have g4 : M1.get (nb (nb m.next 39 + 13) 0) = .cells [.slice cb (if n = 0 then 0 else cn) n (some n)] 1 27 false := by
    rw [← hM1, drawn_get]; exact if_pos rfl
  have hO : Own M1 av (A.map Arr.v) A.length 1 0 := h.own.keep (by omega) fun c hc ho => g2 c hc fun e => ho (e ▸ h.offh)
  have hsrc : M1.source 1 (.slice (nb (nb m.next 39 + 13) 0) 0 1 (some 1)) = some (1, [.slice cb (if n = 0 then 0 else cn) n (some n)]) := by
    show (M1.row _ 0 (1 * 1)).map _ = _
    rw [row_all g4 rfl]; rfl
  have hlu := len_used (A := A)
  obtain ⟨v', m', ha, hown, hkeep, hnext, vcap, rfl⟩ := append_own (e := 27) hO (Nat.zero_le _) hsrc rfl (by decide) (by unfold room; omega)
  have hg2 : m'.get hb = .cells [.slice cb 0 (cn + n) (some cs.length), av, .int .i64 most, .int .i64 (usedOf A), .bool true] 5 36 false := by rw [hkeep hb (by omega) h.offh]; exact g3
  have w4 : IntKind.i64.wrap ((n : Int) + 1) = (n : Int) + 1 := by rw [wrap_i64 (by omega) (by omega)]
  have w5 : IntKind.i64.wrap (usedOf A + ((n : Int) + 1)) = usedOf A + ((n : Int) + 1) := by rw [wrap_i64 (by omega) (by omega)]
  simp +contextual -implicitDefEqProofs (maxSteps := 1000000) only [ha, hg2, w4, w5, argsF, fr00_get, fr00_defers, put_some, put_none, set_defers, eval_tmp, eval_const, reduceIte, reduceCtorEq, Nat.reduceEqDiff, Nat.reduceBEq, Nat.reduceAdd, ofEV_some, ofEM_some, ofM_some, thenV_some, thenC_ret, thenE_norm, thenE_ret, thenE_exit, leave_norm, leave_ret, leave_exit, selO_t, selO_f, resR_ret, resR_norm, resR_pan, eq_self, res_nil, res_tmp, one_one, one_two, one_nil, bin_add, bin_sub, bin_mul, bin_quo, bin_rem, bin_and, bin_or, bin_xor, bin_andNot, bin_lss, bin_leq, bin_gtr, bin_geq, bin_shl_i64, bin_shr_i64, bin_shl_u64, bin_shr_u64, eq_int, un_neg, cv_int, exec_seq, exec_region, exec_skip, exec_ret, exec_exit, exec_block, exec_cond', oprs_nil, oprs_val, oprs_callv, Option.map_some, Option.map_none, List.map_cons, List.map_nil, Int.reduceLT, Int.reduceLE, Int.reduceEq, Int.reduceToNat, Int.reduceNeg, Nat.reduceLeDiff, Int.reducePow, bo_decide, bo_not_decide, bo_tt, bo_ff, gv_true, gv_false, cE_bo, thenG_val, thenH_ret, gV_undef, gV_bo_t, gV_bo_f, gV_gv_t, gV_gv_f, gC_undef, gC_bo_t, gC_bo_f, gC_gv_t, gC_gv_f, oprs_gval, oprs_gcallv, runV_func, List.nil_append, List.append_nil, List.cons_append, evOp_pick', pick_and, pick_or, pick_and0, pick_or0, pick_t, pick_f, un_not_bo, eq_boo, eq_str, thenE_iF, leave_iF, thenV_iF, thenC_iF, resR_iF, not_true_eq_false, not_false_eq_true, and_true, true_and, and_false, false_and, or_true, true_or, or_false, false_or, Classical.not_not, Bool.false_bne, Bool.true_bne, Bool.false_xor, Bool.true_xor, evOp_mov, evOp_build, evOp_load, evOp_store, evOp_nilck, evOp_bin, evOp_eq, evOp_un, evOp_conv, evOp_iface, evOp_mkfn, evOp_mkslice, evOp_slstr, evOp_slsl, evOp_slarr, evOp_faddr, evOp_fld, evOp_iaddr, evOp_iaddrArr, evOp_idxstr, evOp_idxagg, evOp_lookup, evOp_mapupd, evOp_delete, evOp_lenmap, evOp_tassert, evOp_extract, evOp_lenstr, evOp_len, evOp_lenarr, evOp_cap, evOp_max, evOp_min, evOp_append, evOp_copy, cE_t, cE_f, gV_tt, gV_tf, gV_ft, gV_ff, gV_gt_t, gV_gt_f, gV_gf_t, gV_gf_f, gC_tt, gC_tf, gC_ft, gC_ff, gC_gt_t, gC_gt_f, gC_gf_t, gC_gf_f, pick_and_t, pick_and_f, pick_or_t, pick_or_f, eq_bo_t, eq_bo_f, eq_t_bo, eq_f_bo, eq_tt, eq_ff, eq_tf, eq_ft, un_not_t, un_not_f, selE_t, selE_f, get_set', decide_true, decide_false, Bool.not_true, Bool.not_false, cond_true, cond_false, implies_true, Int.cast_ofNat_Int, UInt8.reduceToNat, Int.reduceSub, Int.reduceAdd , new_eq, ext_ext, nb_nb, next_ext, next_set, get_set_eq, get_set_ne, get_ext_old, get_ext_nb, get_ext_nb', load_ptr', ldB_cells, part_none, part_some, store_ptr', stB_some, write_eq, wrB_cells, set_ext_nb, set_ext_nb', set_ext_old, cells_int, cells_bool, cells_bo, cells_str, cells_nilptr, cells_ptr, cells_nilslice, cells_slice, cells_nilmap, cells_map, cells_nilfunc, cells_func, cells_niliface, cells_iface, cells_agg, fill_nil, fill_cons, fillB_some, evOp_box', boxE_some, evOp_alloc', evOp_mkmap', get_bump, next_bump, set_bump, load_bump, nb_lt, nb_inj, lt_nb, eq_agg, eqs_nil, eqs_cons, eqsE_some, andO_true, andO_false, andO_t, andO_f, andO_dec, res_cell, rcE_some, List.length_cons, List.length_nil, Nat.zero_add, Nat.add_zero, List.take_succ_cons, List.take_zero, List.take_nil, List.drop_succ_cons, List.drop_zero, List.drop_nil, List.getElem?_cons_zero, List.getElem?_cons_succ, List.getElem?_nil, Option.getD_some, List.set_cons_zero, List.set_cons_succ, Nat.reduceLT, Nat.reduceMul, Nat.reduceSub, Nat.reduceAdd, Nat.reduceEqDiff, Nat.reduceLeDiff, Nat.le_refl, ne_eq, Bool.or_true, Bool.or_false, Bool.true_or, Bool.false_or, Bool.and_true, Bool.true_and, Bool.and_false, Bool.false_and, eq_pn, eq_np, eq_nn, eq_sn, eq_ns, eq_nsns, evOp_bslice1, evOp_bslice0, bsE_some ] at hX
  obtain ⟨g5, g6, g7⟩ := h.ibok cb c2
  subst hX
  have hnx : m'.next = m.next + 58 := by omega
  have hk : ∀ c, c < m.next → c ≠ hb → Off av c → ((m'.set hb (.cells [.slice cb 0 (cn + n) (some cs.length), .slice M1.next 0 (A.length + 1) vcap, .int .i64 most, .int .i64 (usedOf A), .bool true] 5 36 false)).set hb (.cells [.slice cb 0 (cn + n) (some cs.length), .slice M1.next 0 (A.length + 1) vcap, .int .i64 most, .int .i64 (usedOf A + ((n : Int) + 1)), .bool true] 5 36 false)).get c = m.get c := by
    intro c hc hne ho
    rw [get_set_ne hne, get_set_ne hne, hkeep c (by omega) ho, g2 c hc hne]
  have hl : (List.replicate n (EV.int .i64 0)).length = n := List.length_replicate ..
  refine ⟨_, .slice cb 0 (cn + n) (some cs.length), _, cb, ⟨cb, if n = 0 then 0 else cn, List.replicate n (.int .i64 0), false⟩, rfl, rep_make h get_set_eq hl (by rw [next_set, next_set]; omega) hk ?_ (by omega) ⟨g6, by omega, by rw [next_set, next_set]; omega⟩ (.inr ⟨rfl, ⟨cs, t, ?_, ?_, ?_⟩, rfl⟩) ?_ (.inr ⟨cb, cn + n, cs, t, rfl, .inr rfl, ?_, by omega, ?_, ?_⟩), rfl, (by rw [next_set, next_set]; omega), hk, .inl c2, fun c hc => Off.of (by omega)⟩
  · have : Arr.v ⟨cb, if n = 0 then 0 else cn, List.replicate n (.int .i64 0), false⟩ = .slice cb (if n = 0 then 0 else cn) n (some n) := by simp only [Arr.v, cond_false, hl]
    rw [this]
    exact hown.keep (by rw [next_set, next_set]; omega) fun c hc ho => by
      have : c ≠ hb := fun e => ho (Off.of (by omega))
      rw [get_set_ne this, get_set_ne this]
  · exact (hk cb g5 g6 g7).trans c3
  · simp only [hl]; split <;> omega
  · simp only [hl]
    refine List.ext_getElem? fun i => ?_
    rw [part_get, List.getElem?_replicate]
    by_cases hi : i < n
    · rw [if_pos hi, if_pos hi, if_neg (show ¬ n = 0 by omega), c5 (cn + i) (by omega) (by omega)]
    · rw [if_neg hi, if_neg hi]
  · intro i x hx hb'
    have := c6 i x hx hb'
    simp only [hl]
    by_cases h0 : n = 0
    · exact .inr (.inl h0)
    · rw [if_neg h0]; omega
  · exact (hk cb g5 g6 g7).trans c3
  · intro i hi1 hi2; exact c5 i (by omega) hi2
  · intro i x hx hb'
    rcases snoc_get hx with ⟨_, rfl⟩ | hx
    · simp only [hl]; split <;> omega
    · have := c6 i x hx hb'; omega
end
end Go.Proofs.Ythlbifjgnhdonaa.Ev
end
section
namespace Go.Proofs.Ythlbifjgnhdonaa.Ev
open Go
set_option linter.unusedSimpArgs false
set_option linter.unusedSectionVars false
set_option maxRecDepth 10000
set_option maxHeartbeats 4000000
theorem max_64 {n : Nat} : evMax [.int .i64 (n : Int), .int .i64 64] = some (.int .i64 (Int.ofNat (max n 64))) := by
  show (bif (kindNo .i64).beq (kindNo .i64) then maxFrom .i64 (if (64 : Int) > (n : Int) then 64 else (n : Int)) [] else none) = _
  have : (if (64 : Int) > (n : Int) then (64 : Int) else (n : Int)) = Int.ofNat (max n 64) := by
    show _ = ((max n 64 : Nat) : Int)
    split <;> omega
  rw [this]; rfl
theorem copies_one {n : Nat} {x : EV} : copies n [x] = List.replicate n x := by
  unfold copies
  induction n with
  | zero => rfl
  | succ n ih => rw [List.replicate_succ, List.flatten_cons, ih, List.replicate_succ]; rfl
theorem ble_zero {n : Nat} : Nat.ble 0 n = true := Nat.ble_eq_true_of_le (Nat.zero_le n)
section
variable {m : Mem} {hb : Nat} {most : Int} {A : List Arr} {cv av : EV} {ib : Nat → Prop}
theorem make_2 {cc cn : Nat} {n : Nat} (h : HeapRep m hb most A cv av ib) (hcv : cv = .nilslice ∧ cc = 0 ∧ cn = 0 ∨ ∃ b, cv = .slice b 0 cn (some cc)) (hcn : cn ≤ cc) (hm : most ≤ 1048576) (h1 : (n : Int) < most - usedOf A) (h2 : cc - cn < n) (hcl : cc < 1000000000) : NewArr m hb most A av ib n (run T 12 [.ptr hb 0, .int .i64 (n : Int)] m) := by
  have hg := h.get
  have n1 : ¬ ((n : Int) < 0) := by omega
  have hu : 0 ≤ usedOf A := used_nonneg
  have w1 : IntKind.i64.wrap (most - usedOf A) = most - usedOf A := by rw [wrap_i64 (by omega) (by omega)]
  have n2 : ¬ (most - usedOf A ≤ (n : Int)) := by omega
  have w2 : IntKind.i64.wrap ((cc : Int) - (cn : Int)) = ((cc - cn : Nat) : Int) := by rw [wrap_i64 (by omega) (by omega)]; omega
  have w3 : IntKind.i64.wrap (0 + (n : Int)) = (n : Int) := by rw [wrap_i64 (by omega) (by omega)]; omega
  have w0 : IntKind.i64.wrap 0 = 0 := by decide
  have n3 : ((cc - cn : Nat) : Int) < (n : Int) := by omega
  have n4 : (0 : Int) < (n : Int) := by omega
  have k1 : (max n 64).ble room = true := Nat.ble_eq_true_of_le (by unfold room; omega)
  have s1 : evSlice 1 (nb m.next 39) 0 0 (some (max n 64)) none (some (.int .i64 (n : Int))) none = some (.slice (nb m.next 39) 0 n (some (max n 64))) := slice_hi (by omega)
  have s2 : evSlice 1 (nb m.next 39) 0 n (some (max n 64)) (some (.int .i64 0)) (some (.int .i64 (n : Int))) (some (.int .i64 (n : Int))) = some (.slice (nb m.next 39) 0 n (some n)) := by
    have := slice_3 (b := nb m.next 39) (len := n) (c := max n 64) (l := 0) (n := n) (by omega)
    simp only [Nat.zero_add, ite_self] at this
    exact this
  have hbn := h.lt
  generalize hX : run T 12 [.ptr hb 0, .int .i64 (n : Int)] m = X
  rw [run_at (by simp [F12])] at hX
  rcases hcv with ⟨rfl, rfl, rfl⟩ | ⟨b0, rfl⟩
  all_goals
    simp +contextual -implicitDefEqProofs (maxSteps := 1000000) only [F12, hg, hbn, n1, n2, w0, w1, w2, w3, n4, n3, k1, s1, s2, max_64, copies_one, ble_zero, tbl_drawn, argsF, fr00_get, fr00_defers, put_some, put_none, set_defers, eval_tmp, eval_const, reduceIte, reduceCtorEq, Nat.reduceEqDiff, Nat.reduceBEq, Nat.reduceAdd, ofEV_some, ofEM_some, ofM_some, thenV_some, thenC_ret, thenE_norm, thenE_ret, thenE_exit, leave_norm, leave_ret, leave_exit, selO_t, selO_f, resR_ret, resR_norm, resR_pan, eq_self, res_nil, res_tmp, one_one, one_two, one_nil, bin_add, bin_sub, bin_mul, bin_quo, bin_rem, bin_and, bin_or, bin_xor, bin_andNot, bin_lss, bin_leq, bin_gtr, bin_geq, bin_shl_i64, bin_shr_i64, bin_shl_u64, bin_shr_u64, eq_int, un_neg, cv_int, exec_seq, exec_region, exec_skip, exec_ret, exec_exit, exec_block, exec_cond', oprs_nil, oprs_val, oprs_callv, Option.map_some, Option.map_none, List.map_cons, List.map_nil, Int.reduceLT, Int.reduceLE, Int.reduceEq, Int.reduceToNat, Int.reduceNeg, Nat.reduceLeDiff, Int.reducePow, bo_decide, bo_not_decide, bo_tt, bo_ff, gv_true, gv_false, cE_bo, thenG_val, thenH_ret, gV_undef, gV_bo_t, gV_bo_f, gV_gv_t, gV_gv_f, gC_undef, gC_bo_t, gC_bo_f, gC_gv_t, gC_gv_f, oprs_gval, oprs_gcallv, runV_func, List.nil_append, List.append_nil, List.cons_append, evOp_pick', pick_and, pick_or, pick_and0, pick_or0, pick_t, pick_f, un_not_bo, eq_boo, eq_str, thenE_iF, leave_iF, thenV_iF, thenC_iF, resR_iF, not_true_eq_false, not_false_eq_true, and_true, true_and, and_false, false_and, or_true, true_or, or_false, false_or, Classical.not_not, Bool.false_bne, Bool.true_bne, Bool.false_xor, Bool.true_xor, evOp_mov, evOp_build, evOp_load, evOp_store, evOp_nilck, evOp_bin, evOp_eq, evOp_un, evOp_conv, evOp_iface, evOp_mkfn, evOp_mkslice, evOp_slstr, evOp_slsl, evOp_slarr, evOp_faddr, evOp_fld, evOp_iaddr, evOp_iaddrArr, evOp_idxstr, evOp_idxagg, evOp_lookup, evOp_mapupd, evOp_delete, evOp_lenmap, evOp_tassert, evOp_extract, evOp_lenstr, evOp_len, evOp_lenarr, evOp_cap, evOp_max, evOp_min, evOp_append, evOp_copy, cE_t, cE_f, gV_tt, gV_tf, gV_ft, gV_ff, gV_gt_t, gV_gt_f, gV_gf_t, gV_gf_f, gC_tt, gC_tf, gC_ft, gC_ff, gC_gt_t, gC_gt_f, gC_gf_t, gC_gf_f, pick_and_t, pick_and_f, pick_or_t, pick_or_f, eq_bo_t, eq_bo_f, eq_t_bo, eq_f_bo, eq_tt, eq_ff, eq_tf, eq_ft, un_not_t, un_not_f, selE_t, selE_f, get_set', decide_true, decide_false, Bool.not_true, Bool.not_false, cond_true, cond_false, implies_true, Int.cast_ofNat_Int, UInt8.reduceToNat, Int.reduceSub, Int.reduceAdd , new_eq, ext_ext, nb_nb, next_ext, next_set, get_set_eq, get_set_ne, get_ext_old, get_ext_nb, get_ext_nb', load_ptr', ldB_cells, part_none, part_some, store_ptr', stB_some, write_eq, wrB_cells, set_ext_nb, set_ext_nb', set_ext_old, cells_int, cells_bool, cells_bo, cells_str, cells_nilptr, cells_ptr, cells_nilslice, cells_slice, cells_nilmap, cells_map, cells_nilfunc, cells_func, cells_niliface, cells_iface, cells_agg, fill_nil, fill_cons, fillB_some, evOp_box', boxE_some, evOp_alloc', evOp_mkmap', get_bump, next_bump, set_bump, load_bump, nb_lt, nb_inj, lt_nb, eq_agg, eqs_nil, eqs_cons, eqsE_some, andO_true, andO_false, andO_t, andO_f, andO_dec, res_cell, rcE_some, List.length_cons, List.length_nil, Nat.zero_add, Nat.add_zero, List.take_succ_cons, List.take_zero, List.take_nil, List.drop_succ_cons, List.drop_zero, List.drop_nil, List.getElem?_cons_zero, List.getElem?_cons_succ, List.getElem?_nil, Option.getD_some, List.set_cons_zero, List.set_cons_succ, Nat.reduceLT, Nat.reduceMul, Nat.reduceSub, Nat.reduceAdd, Nat.reduceEqDiff, Nat.reduceLeDiff, Nat.le_refl, ne_eq, Bool.or_true, Bool.or_false, Bool.true_or, Bool.false_or, Bool.and_true, Bool.true_and, Bool.and_false, Bool.false_and, eq_pn, eq_np, eq_nn, eq_sn, eq_ns, eq_nsns, evOp_bslice1, evOp_bslice0, bsE_some , srt_mov, srt_alloc, srt_box, srt_build, srt_bslice, srt_store, srt_nilck, srt_bin, srt_eq, srt_un, srt_iface, srt_mkfn, srt_mkmap, srt_mkslice, srt_slstr, srt_slsl, srt_slarr, srt_faddr, srt_fld, srt_iaddr, srt_iaddrArr, srt_idxstr, srt_idxagg, srt_lookup, srt_mapupd, srt_delete, srt_lenmap, srt_tassert, srt_extract, srt_len, srt_lenstr, srt_lenarr, srt_cap, srt_max, srt_min, srt_append, srt_copy, srt_pick, srt_cv_int, srt_cv_same, srt_cv_bytes, srt_cv_text, exec_draw', drw_nil, thenL_some, ifB_true, drw_v0, drw_v1, thenD_ret, chk_nil, chk_cons, snap_nil, snap_cons, pair_nil, pair_cons, stands_eq, standE_self, noL_nil, noL_cons, noA_nil, noA_cons, drw_load0, drw_load1, drw_v30, drw_v31, drw_call0, drw_call1, retO_ret, drw_gv0, drw_gv1, drw_gld0, drw_gld1, drw_gv30, drw_gv31, drw_gcall0, drw_gcall1, gE_bo_t, gE_bo_f, gE_tt, gE_tf, gE_ft, gE_ff, gE_undef, gE_gv_t, gE_gv_f, gE_gt_t, gE_gt_f, gE_gf_t, gE_gf_f, Nat.reduceBNe ] at hX
    generalize hM1 : drawn _ _ _ _ = M1 at hX
    have g1 : M1.next = m.next + 58 := by rw [← hM1]; rfl
    have g2 : ∀ c, c < m.next → c ≠ hb → M1.get c = m.get c := by
      intro c hc hne
      rw [← hM1, drawn_get, if_neg (by unfold nb; omega), get_bump, get_ext_old (by show c < m.next + 26 + 13; omega), get_bump, get_bump, get_set_ne hne, get_set_ne hne]
    have g3 : M1.get hb = .cells [.slice (nb m.next 39) 0 n (some (max n 64)), av, .int .i64 most, .int .i64 (usedOf A), .bool true] 5 36 false := by
      rw [← hM1, drawn_get, if_neg (by unfold nb; omega), get_bump, get_ext_old (by show hb < m.next + 26 + 13; omega), get_bump, get_bump]
      exact get_set_eq
    have g5 : M1.get (nb m.next 39) = .cells (List.replicate (max n 64) (.int .i64 0)) 1 3 false := by
      rw [← hM1, drawn_get, if_neg (by unfold nb; omega), get_bump]
      exact get_ext_nb (n := nb m.next 39) (i := 0) rfl (by simp)
    have g4 : M1.get (nb (nb m.next 40 + 13) 0) = .cells [.slice (nb m.next 39) 0 n (some n)] 1 27 false := by
      rw [← hM1, drawn_get]; exact if_pos rfl
    have hO : Own M1 av (A.map Arr.v) A.length 1 0 := h.own.keep (by omega) fun c hc ho => g2 c hc fun e => ho (e ▸ h.offh)
    have hsrc : M1.source 1 (.slice (nb (nb m.next 40 + 13) 0) 0 1 (some 1)) = some (1, [.slice (nb m.next 39) 0 n (some n)]) := by
      show (M1.row _ 0 (1 * 1)).map _ = _
      rw [row_all g4 rfl]; rfl
    have hlu := len_used (A := A)
    obtain ⟨v', m', ha, hown, hkeep, hnext, vcap, rfl⟩ := append_own (e := 27) hO (Nat.zero_le _) hsrc rfl (by decide) (by unfold room; omega)
    have hg2 : m'.get hb = .cells [.slice (nb m.next 39) 0 n (some (max n 64)), av, .int .i64 most, .int .i64 (usedOf A), .bool true] 5 36 false := by rw [hkeep hb (by omega) h.offh]; exact g3
    have w4 : IntKind.i64.wrap ((n : Int) + 1) = (n : Int) + 1 := by rw [wrap_i64 (by omega) (by omega)]
    have w5 : IntKind.i64.wrap (usedOf A + ((n : Int) + 1)) = usedOf A + ((n : Int) + 1) := by rw [wrap_i64 (by omega) (by omega)]
    simp +contextual -implicitDefEqProofs (maxSteps := 1000000) only [ha, hg2, w4, w5, argsF, fr00_get, fr00_defers, put_some, put_none, set_defers, eval_tmp, eval_const, reduceIte, reduceCtorEq, Nat.reduceEqDiff, Nat.reduceBEq, Nat.reduceAdd, ofEV_some, ofEM_some, ofM_some, thenV_some, thenC_ret, thenE_norm, thenE_ret, thenE_exit, leave_norm, leave_ret, leave_exit, selO_t, selO_f, resR_ret, resR_norm, resR_pan, eq_self, res_nil, res_tmp, one_one, one_two, one_nil, bin_add, bin_sub, bin_mul, bin_quo, bin_rem, bin_and, bin_or, bin_xor, bin_andNot, bin_lss, bin_leq, bin_gtr, bin_geq, bin_shl_i64, bin_shr_i64, bin_shl_u64, bin_shr_u64, eq_int, un_neg, cv_int, exec_seq, exec_region, exec_skip, exec_ret, exec_exit, exec_block, exec_cond', oprs_nil, oprs_val, oprs_callv, Option.map_some, Option.map_none, List.map_cons, List.map_nil, Int.reduceLT, Int.reduceLE, Int.reduceEq, Int.reduceToNat, Int.reduceNeg, Nat.reduceLeDiff, Int.reducePow, bo_decide, bo_not_decide, bo_tt, bo_ff, gv_true, gv_false, cE_bo, thenG_val, thenH_ret, gV_undef, gV_bo_t, gV_bo_f, gV_gv_t, gV_gv_f, gC_undef, gC_bo_t, gC_bo_f, gC_gv_t, gC_gv_f, oprs_gval, oprs_gcallv, runV_func, List.nil_append, List.append_nil, List.cons_append, evOp_pick', pick_and, pick_or, pick_and0, pick_or0, pick_t, pick_f, un_not_bo, eq_boo, eq_str, thenE_iF, leave_iF, thenV_iF, thenC_iF, resR_iF, not_true_eq_false, not_false_eq_true, and_true, true_and, and_false, false_and, or_true, true_or, or_false, false_or, Classical.not_not, Bool.false_bne, Bool.true_bne, Bool.false_xor, Bool.true_xor, evOp_mov, evOp_build, evOp_load, evOp_store, evOp_nilck, evOp_bin, evOp_eq, evOp_un, evOp_conv, evOp_iface, evOp_mkfn, evOp_mkslice, evOp_slstr, evOp_slsl, evOp_slarr, evOp_faddr, evOp_fld, evOp_iaddr, evOp_iaddrArr, evOp_idxstr, evOp_idxagg, evOp_lookup, evOp_mapupd, evOp_delete, evOp_lenmap, evOp_tassert, evOp_extract, evOp_lenstr, evOp_len, evOp_lenarr, evOp_cap, evOp_max, evOp_min, evOp_append, evOp_copy, cE_t, cE_f, gV_tt, gV_tf, gV_ft, gV_ff, gV_gt_t, gV_gt_f, gV_gf_t, gV_gf_f, gC_tt, gC_tf, gC_ft, gC_ff, gC_gt_t, gC_gt_f, gC_gf_t, gC_gf_f, pick_and_t, pick_and_f, pick_or_t, pick_or_f, eq_bo_t, eq_bo_f, eq_t_bo, eq_f_bo, eq_tt, eq_ff, eq_tf, eq_ft, un_not_t, un_not_f, selE_t, selE_f, get_set', decide_true, decide_false, Bool.not_true, Bool.not_false, cond_true, cond_false, implies_true, Int.cast_ofNat_Int, UInt8.reduceToNat, Int.reduceSub, Int.reduceAdd , new_eq, ext_ext, nb_nb, next_ext, next_set, get_set_eq, get_set_ne, get_ext_old, get_ext_nb, get_ext_nb', load_ptr', ldB_cells, part_none, part_some, store_ptr', stB_some, write_eq, wrB_cells, set_ext_nb, set_ext_nb', set_ext_old, cells_int, cells_bool, cells_bo, cells_str, cells_nilptr, cells_ptr, cells_nilslice, cells_slice, cells_nilmap, cells_map, cells_nilfunc, cells_func, cells_niliface, cells_iface, cells_agg, fill_nil, fill_cons, fillB_some, evOp_box', boxE_some, evOp_alloc', evOp_mkmap', get_bump, next_bump, set_bump, load_bump, nb_lt, nb_inj, lt_nb, eq_agg, eqs_nil, eqs_cons, eqsE_some, andO_true, andO_false, andO_t, andO_f, andO_dec, res_cell, rcE_some, List.length_cons, List.length_nil, Nat.zero_add, Nat.add_zero, List.take_succ_cons, List.take_zero, List.take_nil, List.drop_succ_cons, List.drop_zero, List.drop_nil, List.getElem?_cons_zero, List.getElem?_cons_succ, List.getElem?_nil, Option.getD_some, List.set_cons_zero, List.set_cons_succ, Nat.reduceLT, Nat.reduceMul, Nat.reduceSub, Nat.reduceAdd, Nat.reduceEqDiff, Nat.reduceLeDiff, Nat.le_refl, ne_eq, Bool.or_true, Bool.or_false, Bool.true_or, Bool.false_or, Bool.and_true, Bool.true_and, Bool.and_false, Bool.false_and, eq_pn, eq_np, eq_nn, eq_sn, eq_ns, eq_nsns, evOp_bslice1, evOp_bslice0, bsE_some ] at hX
    subst hX
    have hnx : m'.next = m.next + 59 := by omega
    have hoav : Off av (nb m.next 39) := by
      rcases h.own.is with ⟨e, _⟩ | ⟨b, cap, t, e, q1, q2, _⟩
      · rw [e]; exact Off.nil
      · rw [e]; exact Off.of (by unfold nb; omega)
    have hk : ∀ c, c < m.next → c ≠ hb → Off av c → ((m'.set hb (.cells [.slice (nb m.next 39) 0 n (some (max n 64)), .slice M1.next 0 (A.length + 1) vcap, .int .i64 most, .int .i64 (usedOf A), .bool true] 5 36 false)).set hb (.cells [.slice (nb m.next 39) 0 n (some (max n 64)), .slice M1.next 0 (A.length + 1) vcap, .int .i64 most, .int .i64 (usedOf A + ((n : Int) + 1)), .bool true] 5 36 false)).get c = m.get c := by
      intro c hc hne ho
      rw [get_set_ne hne, get_set_ne hne, hkeep c (by omega) ho, g2 c hc hne]
    have hcb : ((m'.set hb (.cells [.slice (nb m.next 39) 0 n (some (max n 64)), .slice M1.next 0 (A.length + 1) vcap, .int .i64 most, .int .i64 (usedOf A), .bool true] 5 36 false)).set hb (.cells [.slice (nb m.next 39) 0 n (some (max n 64)), .slice M1.next 0 (A.length + 1) vcap, .int .i64 most, .int .i64 (usedOf A + ((n : Int) + 1)), .bool true] 5 36 false)).get (nb m.next 39) = .cells (List.replicate (max n 64) (.int .i64 0)) 1 3 false := by
      rw [get_set_ne (by unfold nb; omega), get_set_ne (by unfold nb; omega), hkeep _ (by unfold nb; omega) hoav, g5]
    have hl : (List.replicate n (EV.int .i64 0)).length = n := List.length_replicate ..
    have hl2 : (List.replicate (max n 64) (EV.int .i64 0)).length = max n 64 := List.length_replicate ..
    have hnew : ∀ (i : Nat) (x : Arr), A[i]? = some x → x.b = nb m.next 39 → x.l.length = 0 := by
      intro i x hx hb'
      rcases h.arr i x hx with ⟨_, q⟩ | ⟨_, _, q⟩
      · rw [q]; rfl
      · have := (h.ibok _ q).1
        rw [hb'] at this
        unfold nb at this
        omega
    refine ⟨_, .slice (nb m.next 39) 0 n (some (max n 64)), _, nb m.next 39, ⟨nb m.next 39, 0, List.replicate n (.int .i64 0), false⟩, rfl, rep_make h get_set_eq hl (by rw [next_set, next_set]; omega) hk ?_ (by omega) ⟨by unfold nb; omega, by unfold nb; omega, by rw [next_set, next_set]; unfold nb; omega⟩ (.inr ⟨rfl, ⟨_, _, hcb, ?_, ?_⟩, rfl⟩) ?_ (.inr ⟨nb m.next 39, n, _, _, by rw [hl2], .inr rfl, hcb, by rw [hl2]; omega, ?_, ?_⟩), rfl, (by rw [next_set, next_set]; omega), hk, .inr (by unfold nb; omega), fun c hc => Off.of (by omega)⟩
    · have : Arr.v ⟨nb m.next 39, 0, List.replicate n (.int .i64 0), false⟩ = .slice (nb m.next 39) 0 n (some n) := by simp only [Arr.v, cond_false, hl]
      rw [this]
      exact hown.keep (by rw [next_set, next_set]; omega) fun c hc ho => by
        have : c ≠ hb := fun e => ho (Off.of (by omega))
        rw [get_set_ne this, get_set_ne this]
    · simp only [hl, hl2]; omega
    · simp only [hl]
      refine List.ext_getElem? fun i => ?_
      rw [part_get, List.getElem?_replicate, List.getElem?_replicate]
      by_cases hi : i < n
      · rw [if_pos hi, if_pos hi, if_pos (by omega)]
      · rw [if_neg hi, if_neg hi]
    · intro i x hx hb'
      exact .inl (hnew i x hx hb')
    · intro i hi1 hi2
      rw [hl2] at hi2
      rw [List.getElem?_replicate, if_pos hi2]
    · intro i x hx hb'
      rcases snoc_get hx with ⟨_, rfl⟩ | hx
      · simp only [hl]; omega
      · exact .inl (hnew i x hx hb')
end
end Go.Proofs.Ythlbifjgnhdonaa.Ev
end
section
namespace Go.Proofs.Ythlbifjgnhdonaa.Ev
open Go
set_option linter.unusedSimpArgs false
set_option linter.unusedSectionVars false
set_option maxRecDepth 10000
set_option maxHeartbeats 4000000
theorem bound_lit0 {d n : Nat} {k : IntKind} : bound (some (.int k 0)) d n = some 0 := bound_cast (i := 0) (Nat.zero_le n)
section
variable {m : Mem} {hb : Nat} {most : Int} {A : List Arr} {cv av : EV} {ib : Nat → Prop}
theorem make_0 (h : HeapRep m hb most A .nilslice av ib) (hm : most ≤ 1048576) (h1 : 0 < most - usedOf A) : NewArr m hb most A av ib 0 (run T 12 [.ptr hb 0, .int .i64 0] m) := by
  have hg := h.get
  have hu : 0 ≤ usedOf A := used_nonneg
  have w1 : IntKind.i64.wrap (most - usedOf A) = most - usedOf A := by rw [wrap_i64 (by omega) (by omega)]
  have n2 : ¬ (most - usedOf A ≤ 0) := by omega
  have w0 : IntKind.i64.wrap 0 = 0 := by decide
  have w1' : IntKind.i64.wrap 1 = 1 := by decide
  have hbn := h.lt
  generalize hX : run T 12 [.ptr hb 0, .int .i64 0] m = X
  rw [run_at (by simp [F12])] at hX
  simp +contextual -implicitDefEqProofs (maxSteps := 1000000) only [F12, hg, hbn, n2, w0, w1, w1', Int.lt_irrefl, bound_lit0, bound_none, tbl_drawn, argsF, fr00_get, fr00_defers, put_some, put_none, set_defers, eval_tmp, eval_const, reduceIte, reduceCtorEq, Nat.reduceEqDiff, Nat.reduceBEq, Nat.reduceAdd, ofEV_some, ofEM_some, ofM_some, thenV_some, thenC_ret, thenE_norm, thenE_ret, thenE_exit, leave_norm, leave_ret, leave_exit, selO_t, selO_f, resR_ret, resR_norm, resR_pan, eq_self, res_nil, res_tmp, one_one, one_two, one_nil, bin_add, bin_sub, bin_mul, bin_quo, bin_rem, bin_and, bin_or, bin_xor, bin_andNot, bin_lss, bin_leq, bin_gtr, bin_geq, bin_shl_i64, bin_shr_i64, bin_shl_u64, bin_shr_u64, eq_int, un_neg, cv_int, exec_seq, exec_region, exec_skip, exec_ret, exec_exit, exec_block, exec_cond', oprs_nil, oprs_val, oprs_callv, Option.map_some, Option.map_none, List.map_cons, List.map_nil, Int.reduceLT, Int.reduceLE, Int.reduceEq, Int.reduceToNat, Int.reduceNeg, Nat.reduceLeDiff, Int.reducePow, bo_decide, bo_not_decide, bo_tt, bo_ff, gv_true, gv_false, cE_bo, thenG_val, thenH_ret, gV_undef, gV_bo_t, gV_bo_f, gV_gv_t, gV_gv_f, gC_undef, gC_bo_t, gC_bo_f, gC_gv_t, gC_gv_f, oprs_gval, oprs_gcallv, runV_func, List.nil_append, List.append_nil, List.cons_append, evOp_pick', pick_and, pick_or, pick_and0, pick_or0, pick_t, pick_f, un_not_bo, eq_boo, eq_str, thenE_iF, leave_iF, thenV_iF, thenC_iF, resR_iF, not_true_eq_false, not_false_eq_true, and_true, true_and, and_false, false_and, or_true, true_or, or_false, false_or, Classical.not_not, Bool.false_bne, Bool.true_bne, Bool.false_xor, Bool.true_xor, evOp_mov, evOp_build, evOp_load, evOp_store, evOp_nilck, evOp_bin, evOp_eq, evOp_un, evOp_conv, evOp_iface, evOp_mkfn, evOp_mkslice, evOp_slstr, evOp_slsl, evOp_slarr, evOp_faddr, evOp_fld, evOp_iaddr, evOp_iaddrArr, evOp_idxstr, evOp_idxagg, evOp_lookup, evOp_mapupd, evOp_delete, evOp_lenmap, evOp_tassert, evOp_extract, evOp_lenstr, evOp_len, evOp_lenarr, evOp_cap, evOp_max, evOp_min, evOp_append, evOp_copy, cE_t, cE_f, gV_tt, gV_tf, gV_ft, gV_ff, gV_gt_t, gV_gt_f, gV_gf_t, gV_gf_f, gC_tt, gC_tf, gC_ft, gC_ff, gC_gt_t, gC_gt_f, gC_gf_t, gC_gf_f, pick_and_t, pick_and_f, pick_or_t, pick_or_f, eq_bo_t, eq_bo_f, eq_t_bo, eq_f_bo, eq_tt, eq_ff, eq_tf, eq_ft, un_not_t, un_not_f, selE_t, selE_f, get_set', decide_true, decide_false, Bool.not_true, Bool.not_false, cond_true, cond_false, implies_true, Int.cast_ofNat_Int, UInt8.reduceToNat, Int.reduceSub, Int.reduceAdd , new_eq, ext_ext, nb_nb, next_ext, next_set, get_set_eq, get_set_ne, get_ext_old, get_ext_nb, get_ext_nb', load_ptr', ldB_cells, part_none, part_some, store_ptr', stB_some, write_eq, wrB_cells, set_ext_nb, set_ext_nb', set_ext_old, cells_int, cells_bool, cells_bo, cells_str, cells_nilptr, cells_ptr, cells_nilslice, cells_slice, cells_nilmap, cells_map, cells_nilfunc, cells_func, cells_niliface, cells_iface, cells_agg, fill_nil, fill_cons, fillB_some, evOp_box', boxE_some, evOp_alloc', evOp_mkmap', get_bump, next_bump, set_bump, load_bump, nb_lt, nb_inj, lt_nb, eq_agg, eqs_nil, eqs_cons, eqsE_some, andO_true, andO_false, andO_t, andO_f, andO_dec, res_cell, rcE_some, List.length_cons, List.length_nil, Nat.zero_add, Nat.add_zero, List.take_succ_cons, List.take_zero, List.take_nil, List.drop_succ_cons, List.drop_zero, List.drop_nil, List.getElem?_cons_zero, List.getElem?_cons_succ, List.getElem?_nil, Option.getD_some, List.set_cons_zero, List.set_cons_succ, Nat.reduceLT, Nat.reduceMul, Nat.reduceSub, Nat.reduceAdd, Nat.reduceEqDiff, Nat.reduceLeDiff, Nat.le_refl, ne_eq, Bool.or_true, Bool.or_false, Bool.true_or, Bool.false_or, Bool.and_true, Bool.true_and, Bool.and_false, Bool.false_and, eq_pn, eq_np, eq_nn, eq_sn, eq_ns, eq_nsns, evOp_bslice1, evOp_bslice0, bsE_some , srt_mov, srt_alloc, srt_box, srt_build, srt_bslice, srt_store, srt_nilck, srt_bin, srt_eq, srt_un, srt_iface, srt_mkfn, srt_mkmap, srt_mkslice, srt_slstr, srt_slsl, srt_slarr, srt_faddr, srt_fld, srt_iaddr, srt_iaddrArr, srt_idxstr, srt_idxagg, srt_lookup, srt_mapupd, srt_delete, srt_lenmap, srt_tassert, srt_extract, srt_len, srt_lenstr, srt_lenarr, srt_cap, srt_max, srt_min, srt_append, srt_copy, srt_pick, srt_cv_int, srt_cv_same, srt_cv_bytes, srt_cv_text, exec_draw', drw_nil, thenL_some, ifB_true, drw_v0, drw_v1, thenD_ret, chk_nil, chk_cons, snap_nil, snap_cons, pair_nil, pair_cons, stands_eq, standE_self, noL_nil, noL_cons, noA_nil, noA_cons, drw_load0, drw_load1, drw_v30, drw_v31, drw_call0, drw_call1, retO_ret, drw_gv0, drw_gv1, drw_gld0, drw_gld1, drw_gv30, drw_gv31, drw_gcall0, drw_gcall1, gE_bo_t, gE_bo_f, gE_tt, gE_tf, gE_ft, gE_ff, gE_undef, gE_gv_t, gE_gv_f, gE_gt_t, gE_gt_f, gE_gf_t, gE_gf_f, Nat.reduceBNe ] at hX
  generalize hM1 : drawn _ _ _ _ = M1 at hX
  have g1 : M1.next = m.next + 57 := by rw [← hM1]; rfl
  have g2 : ∀ c, c < m.next → c ≠ hb → M1.get c = m.get c := by
    intro c hc hne
    rw [← hM1, drawn_get, if_neg (by unfold nb; omega)]
    simp only [get_bump]
    exact get_set_ne hne
  have g3 : M1.get hb = .cells [.nilslice, av, .int .i64 most, .int .i64 (usedOf A), .bool true] 5 36 false := by
    rw [← hM1, drawn_get, if_neg (by unfold nb; omega)]
    simp only [get_bump]
    exact get_set_eq
  have g4 : M1.get (nb (nb m.next 39 + 13) 0) = .cells [.nilslice] 1 27 false := by
    rw [← hM1, drawn_get]; exact if_pos rfl
  have hO : Own M1 av (A.map Arr.v) A.length 1 0 := h.own.keep (by omega) fun c hc ho => g2 c hc fun e => ho (e ▸ h.offh)
  have hsrc : M1.source 1 (.slice (nb (nb m.next 39 + 13) 0) 0 1 (some 1)) = some (1, [.nilslice]) := by
    show (M1.row _ 0 (1 * 1)).map _ = _
    rw [row_all g4 rfl]; rfl
  have hlu := len_used (A := A)
  obtain ⟨v', m', ha, hown, hkeep, hnext, vcap, rfl⟩ := append_own (e := 27) hO (Nat.zero_le _) hsrc rfl (by decide) (by unfold room; omega)
  have hg2 : m'.get hb = .cells [.nilslice, av, .int .i64 most, .int .i64 (usedOf A), .bool true] 5 36 false := by rw [hkeep hb (by omega) h.offh]; exact g3
  have w5 : IntKind.i64.wrap (usedOf A + 1) = usedOf A + 1 := by rw [wrap_i64 (by omega) (by omega)]
  simp +contextual -implicitDefEqProofs (maxSteps := 1000000) only [ha, hg2, w0, w1', w5, argsF, fr00_get, fr00_defers, put_some, put_none, set_defers, eval_tmp, eval_const, reduceIte, reduceCtorEq, Nat.reduceEqDiff, Nat.reduceBEq, Nat.reduceAdd, ofEV_some, ofEM_some, ofM_some, thenV_some, thenC_ret, thenE_norm, thenE_ret, thenE_exit, leave_norm, leave_ret, leave_exit, selO_t, selO_f, resR_ret, resR_norm, resR_pan, eq_self, res_nil, res_tmp, one_one, one_two, one_nil, bin_add, bin_sub, bin_mul, bin_quo, bin_rem, bin_and, bin_or, bin_xor, bin_andNot, bin_lss, bin_leq, bin_gtr, bin_geq, bin_shl_i64, bin_shr_i64, bin_shl_u64, bin_shr_u64, eq_int, un_neg, cv_int, exec_seq, exec_region, exec_skip, exec_ret, exec_exit, exec_block, exec_cond', oprs_nil, oprs_val, oprs_callv, Option.map_some, Option.map_none, List.map_cons, List.map_nil, Int.reduceLT, Int.reduceLE, Int.reduceEq, Int.reduceToNat, Int.reduceNeg, Nat.reduceLeDiff, Int.reducePow, bo_decide, bo_not_decide, bo_tt, bo_ff, gv_true, gv_false, cE_bo, thenG_val, thenH_ret, gV_undef, gV_bo_t, gV_bo_f, gV_gv_t, gV_gv_f, gC_undef, gC_bo_t, gC_bo_f, gC_gv_t, gC_gv_f, oprs_gval, oprs_gcallv, runV_func, List.nil_append, List.append_nil, List.cons_append, evOp_pick', pick_and, pick_or, pick_and0, pick_or0, pick_t, pick_f, un_not_bo, eq_boo, eq_str, thenE_iF, leave_iF, thenV_iF, thenC_iF, resR_iF, not_true_eq_false, not_false_eq_true, and_true, true_and, and_false, false_and, or_true, true_or, or_false, false_or, Classical.not_not, Bool.false_bne, Bool.true_bne, Bool.false_xor, Bool.true_xor, evOp_mov, evOp_build, evOp_load, evOp_store, evOp_nilck, evOp_bin, evOp_eq, evOp_un, evOp_conv, evOp_iface, evOp_mkfn, evOp_mkslice, evOp_slstr, evOp_slsl, evOp_slarr, evOp_faddr, evOp_fld, evOp_iaddr, evOp_iaddrArr, evOp_idxstr, evOp_idxagg, evOp_lookup, evOp_mapupd, evOp_delete, evOp_lenmap, evOp_tassert, evOp_extract, evOp_lenstr, evOp_len, evOp_lenarr, evOp_cap, evOp_max, evOp_min, evOp_append, evOp_copy, cE_t, cE_f, gV_tt, gV_tf, gV_ft, gV_ff, gV_gt_t, gV_gt_f, gV_gf_t, gV_gf_f, gC_tt, gC_tf, gC_ft, gC_ff, gC_gt_t, gC_gt_f, gC_gf_t, gC_gf_f, pick_and_t, pick_and_f, pick_or_t, pick_or_f, eq_bo_t, eq_bo_f, eq_t_bo, eq_f_bo, eq_tt, eq_ff, eq_tf, eq_ft, un_not_t, un_not_f, selE_t, selE_f, get_set', decide_true, decide_false, Bool.not_true, Bool.not_false, cond_true, cond_false, implies_true, Int.cast_ofNat_Int, UInt8.reduceToNat, Int.reduceSub, Int.reduceAdd , new_eq, ext_ext, nb_nb, next_ext, next_set, get_set_eq, get_set_ne, get_ext_old, get_ext_nb, get_ext_nb', load_ptr', ldB_cells, part_none, part_some, store_ptr', stB_some, write_eq, wrB_cells, set_ext_nb, set_ext_nb', set_ext_old, cells_int, cells_bool, cells_bo, cells_str, cells_nilptr, cells_ptr, cells_nilslice, cells_slice, cells_nilmap, cells_map, cells_nilfunc, cells_func, cells_niliface, cells_iface, cells_agg, fill_nil, fill_cons, fillB_some, evOp_box', boxE_some, evOp_alloc', evOp_mkmap', get_bump, next_bump, set_bump, load_bump, nb_lt, nb_inj, lt_nb, eq_agg, eqs_nil, eqs_cons, eqsE_some, andO_true, andO_false, andO_t, andO_f, andO_dec, res_cell, rcE_some, List.length_cons, List.length_nil, Nat.zero_add, Nat.add_zero, List.take_succ_cons, List.take_zero, List.take_nil, List.drop_succ_cons, List.drop_zero, List.drop_nil, List.getElem?_cons_zero, List.getElem?_cons_succ, List.getElem?_nil, Option.getD_some, List.set_cons_zero, List.set_cons_succ, Nat.reduceLT, Nat.reduceMul, Nat.reduceSub, Nat.reduceAdd, Nat.reduceEqDiff, Nat.reduceLeDiff, Nat.le_refl, ne_eq, Bool.or_true, Bool.or_false, Bool.true_or, Bool.false_or, Bool.and_true, Bool.true_and, Bool.and_false, Bool.false_and, eq_pn, eq_np, eq_nn, eq_sn, eq_ns, eq_nsns, evOp_bslice1, evOp_bslice0, bsE_some ] at hX
  subst hX
  have hk : ∀ c, c < m.next → c ≠ hb → Off av c → ((m'.set hb (.cells [.nilslice, .slice M1.next 0 (A.length + 1) vcap, .int .i64 most, .int .i64 (usedOf A), .bool true] 5 36 false)).set hb (.cells [.nilslice, .slice M1.next 0 (A.length + 1) vcap, .int .i64 most, .int .i64 (usedOf A + 1), .bool true] 5 36 false)).get c = m.get c := by
    intro c hc hne ho
    rw [get_set_ne hne, get_set_ne hne, hkeep c (by omega) ho, g2 c hc hne]
  refine ⟨_, .nilslice, _, m.next + 52, ⟨0, 0, [], true⟩, rfl, rep_make (n := 0) h (by rw [get_set_eq]; rfl) rfl (by rw [next_set, next_set]; omega) hk ?_ (by omega) ⟨by omega, by omega, by rw [next_set, next_set]; omega⟩ (.inl ⟨rfl, rfl⟩) ?_ (.inl rfl), rfl, (by rw [next_set, next_set]; omega), hk, .inr (by omega), fun c hc => Off.of (by omega)⟩
  · exact hown.keep (by rw [next_set, next_set]; omega) fun c hc ho => by
      have : c ≠ hb := fun e => ho (Off.of (by omega))
      rw [get_set_ne this, get_set_ne this]
  · intro i x hx hb'
    exact .inr (.inl rfl)
/-- A new array. -/
theorem make_ok {n : Nat} (h : HeapRep m hb most A cv av ib) (hm : most ≤ 1048576) (h1 : (n : Int) < most - usedOf A) : NewArr m hb most A av ib n (run T 12 [.ptr hb 0, .int .i64 (n : Int)] m) := by
  rcases h.cur with rfl | ⟨cb, cn, cs, t, rfl, c2, c3, c4, c5, c6⟩
  · by_cases h0 : n = 0
    · subst h0; exact make_0 h hm h1
    · exact make_2 (cc := 0) (cn := 0) h (.inl ⟨rfl, rfl, rfl⟩) (Nat.le_refl _) hm h1 (by omega) (by omega)
  · have hc := c4.2
    by_cases h2 : n ≤ cs.length - cn
    · exact make_1 h hm h1 h2 hc c2 c3 c4.1 c5 c6
    · exact make_2 h (.inr ⟨cb, rfl⟩) c4.1 hm h1 (by omega) hc
/-- No new array. -/
theorem make_no {n : Int} (h : HeapRep m hb most A cv av ib) (hm : 0 ≤ most ∧ most ≤ 1048576) (hu : usedOf A ≤ most) (hn : n < 0 ∨ most - usedOf A ≤ n) : run T 12 [.ptr hb 0, .int .i64 n] m = some (.ret (.tuple [.int .i64 0, .bool false]) (bump m 26)) := by
  have hg := h.get
  have hu0 : 0 ≤ usedOf A := used_nonneg
  have w1 : IntKind.i64.wrap (most - usedOf A) = most - usedOf A := by rw [wrap_i64 (by omega) (by omega)]
  rw [run_at (by simp [F12])]
  by_cases n1 : n < 0
  · simp +contextual -implicitDefEqProofs (maxSteps := 1000000) only [F12, hg, n1, w1, argsF, fr00_get, fr00_defers, put_some, put_none, set_defers, eval_tmp, eval_const, reduceIte, reduceCtorEq, Nat.reduceEqDiff, Nat.reduceBEq, Nat.reduceAdd, ofEV_some, ofEM_some, ofM_some, thenV_some, thenC_ret, thenE_norm, thenE_ret, thenE_exit, leave_norm, leave_ret, leave_exit, selO_t, selO_f, resR_ret, resR_norm, resR_pan, eq_self, res_nil, res_tmp, one_one, one_two, one_nil, bin_add, bin_sub, bin_mul, bin_quo, bin_rem, bin_and, bin_or, bin_xor, bin_andNot, bin_lss, bin_leq, bin_gtr, bin_geq, bin_shl_i64, bin_shr_i64, bin_shl_u64, bin_shr_u64, eq_int, un_neg, cv_int, exec_seq, exec_region, exec_skip, exec_ret, exec_exit, exec_block, exec_cond', oprs_nil, oprs_val, oprs_callv, Option.map_some, Option.map_none, List.map_cons, List.map_nil, Int.reduceLT, Int.reduceLE, Int.reduceEq, Int.reduceToNat, Int.reduceNeg, Nat.reduceLeDiff, Int.reducePow, bo_decide, bo_not_decide, bo_tt, bo_ff, gv_true, gv_false, cE_bo, thenG_val, thenH_ret, gV_undef, gV_bo_t, gV_bo_f, gV_gv_t, gV_gv_f, gC_undef, gC_bo_t, gC_bo_f, gC_gv_t, gC_gv_f, oprs_gval, oprs_gcallv, runV_func, List.nil_append, List.append_nil, List.cons_append, evOp_pick', pick_and, pick_or, pick_and0, pick_or0, pick_t, pick_f, un_not_bo, eq_boo, eq_str, thenE_iF, leave_iF, thenV_iF, thenC_iF, resR_iF, not_true_eq_false, not_false_eq_true, and_true, true_and, and_false, false_and, or_true, true_or, or_false, false_or, Classical.not_not, Bool.false_bne, Bool.true_bne, Bool.false_xor, Bool.true_xor, evOp_mov, evOp_build, evOp_load, evOp_store, evOp_nilck, evOp_bin, evOp_eq, evOp_un, evOp_conv, evOp_iface, evOp_mkfn, evOp_mkslice, evOp_slstr, evOp_slsl, evOp_slarr, evOp_faddr, evOp_fld, evOp_iaddr, evOp_iaddrArr, evOp_idxstr, evOp_idxagg, evOp_lookup, evOp_mapupd, evOp_delete, evOp_lenmap, evOp_tassert, evOp_extract, evOp_lenstr, evOp_len, evOp_lenarr, evOp_cap, evOp_max, evOp_min, evOp_append, evOp_copy, cE_t, cE_f, gV_tt, gV_tf, gV_ft, gV_ff, gV_gt_t, gV_gt_f, gV_gf_t, gV_gf_f, gC_tt, gC_tf, gC_ft, gC_ff, gC_gt_t, gC_gt_f, gC_gf_t, gC_gf_f, pick_and_t, pick_and_f, pick_or_t, pick_or_f, eq_bo_t, eq_bo_f, eq_t_bo, eq_f_bo, eq_tt, eq_ff, eq_tf, eq_ft, un_not_t, un_not_f, selE_t, selE_f, get_set', decide_true, decide_false, Bool.not_true, Bool.not_false, cond_true, cond_false, implies_true, Int.cast_ofNat_Int, UInt8.reduceToNat, Int.reduceSub, Int.reduceAdd , new_eq, ext_ext, nb_nb, next_ext, next_set, get_set_eq, get_set_ne, get_ext_old, get_ext_nb, get_ext_nb', load_ptr', ldB_cells, part_none, part_some, store_ptr', stB_some, write_eq, wrB_cells, set_ext_nb, set_ext_nb', set_ext_old, cells_int, cells_bool, cells_bo, cells_str, cells_nilptr, cells_ptr, cells_nilslice, cells_slice, cells_nilmap, cells_map, cells_nilfunc, cells_func, cells_niliface, cells_iface, cells_agg, fill_nil, fill_cons, fillB_some, evOp_box', boxE_some, evOp_alloc', evOp_mkmap', get_bump, next_bump, set_bump, load_bump, nb_lt, nb_inj, lt_nb, eq_agg, eqs_nil, eqs_cons, eqsE_some, andO_true, andO_false, andO_t, andO_f, andO_dec, res_cell, rcE_some, List.length_cons, List.length_nil, Nat.zero_add, Nat.add_zero, List.take_succ_cons, List.take_zero, List.take_nil, List.drop_succ_cons, List.drop_zero, List.drop_nil, List.getElem?_cons_zero, List.getElem?_cons_succ, List.getElem?_nil, Option.getD_some, List.set_cons_zero, List.set_cons_succ, Nat.reduceLT, Nat.reduceMul, Nat.reduceSub, Nat.reduceAdd, Nat.reduceEqDiff, Nat.reduceLeDiff, Nat.le_refl, ne_eq, Bool.or_true, Bool.or_false, Bool.true_or, Bool.false_or, Bool.and_true, Bool.true_and, Bool.and_false, Bool.false_and, eq_pn, eq_np, eq_nn, eq_sn, eq_ns, eq_nsns, evOp_bslice1, evOp_bslice0, bsE_some , srt_mov, srt_alloc, srt_box, srt_build, srt_bslice, srt_store, srt_nilck, srt_bin, srt_eq, srt_un, srt_iface, srt_mkfn, srt_mkmap, srt_mkslice, srt_slstr, srt_slsl, srt_slarr, srt_faddr, srt_fld, srt_iaddr, srt_iaddrArr, srt_idxstr, srt_idxagg, srt_lookup, srt_mapupd, srt_delete, srt_lenmap, srt_tassert, srt_extract, srt_len, srt_lenstr, srt_lenarr, srt_cap, srt_max, srt_min, srt_append, srt_copy, srt_pick, srt_cv_int, srt_cv_same, srt_cv_bytes, srt_cv_text, exec_draw', drw_nil, thenL_some, ifB_true, drw_v0, drw_v1, thenD_ret, chk_nil, chk_cons, snap_nil, snap_cons, pair_nil, pair_cons, stands_eq, standE_self, noL_nil, noL_cons, noA_nil, noA_cons, drw_load0, drw_load1, drw_v30, drw_v31, drw_call0, drw_call1, retO_ret, drw_gv0, drw_gv1, drw_gld0, drw_gld1, drw_gv30, drw_gv31, drw_gcall0, drw_gcall1, gE_bo_t, gE_bo_f, gE_tt, gE_tf, gE_ft, gE_ff, gE_undef, gE_gv_t, gE_gv_f, gE_gt_t, gE_gt_f, gE_gf_t, gE_gf_f, Nat.reduceBNe ]
  · have n2 : most - usedOf A ≤ n := by omega
    simp +contextual -implicitDefEqProofs (maxSteps := 1000000) only [F12, hg, n1, n2, w1, argsF, fr00_get, fr00_defers, put_some, put_none, set_defers, eval_tmp, eval_const, reduceIte, reduceCtorEq, Nat.reduceEqDiff, Nat.reduceBEq, Nat.reduceAdd, ofEV_some, ofEM_some, ofM_some, thenV_some, thenC_ret, thenE_norm, thenE_ret, thenE_exit, leave_norm, leave_ret, leave_exit, selO_t, selO_f, resR_ret, resR_norm, resR_pan, eq_self, res_nil, res_tmp, one_one, one_two, one_nil, bin_add, bin_sub, bin_mul, bin_quo, bin_rem, bin_and, bin_or, bin_xor, bin_andNot, bin_lss, bin_leq, bin_gtr, bin_geq, bin_shl_i64, bin_shr_i64, bin_shl_u64, bin_shr_u64, eq_int, un_neg, cv_int, exec_seq, exec_region, exec_skip, exec_ret, exec_exit, exec_block, exec_cond', oprs_nil, oprs_val, oprs_callv, Option.map_some, Option.map_none, List.map_cons, List.map_nil, Int.reduceLT, Int.reduceLE, Int.reduceEq, Int.reduceToNat, Int.reduceNeg, Nat.reduceLeDiff, Int.reducePow, bo_decide, bo_not_decide, bo_tt, bo_ff, gv_true, gv_false, cE_bo, thenG_val, thenH_ret, gV_undef, gV_bo_t, gV_bo_f, gV_gv_t, gV_gv_f, gC_undef, gC_bo_t, gC_bo_f, gC_gv_t, gC_gv_f, oprs_gval, oprs_gcallv, runV_func, List.nil_append, List.append_nil, List.cons_append, evOp_pick', pick_and, pick_or, pick_and0, pick_or0, pick_t, pick_f, un_not_bo, eq_boo, eq_str, thenE_iF, leave_iF, thenV_iF, thenC_iF, resR_iF, not_true_eq_false, not_false_eq_true, and_true, true_and, and_false, false_and, or_true, true_or, or_false, false_or, Classical.not_not, Bool.false_bne, Bool.true_bne, Bool.false_xor, Bool.true_xor, evOp_mov, evOp_build, evOp_load, evOp_store, evOp_nilck, evOp_bin, evOp_eq, evOp_un, evOp_conv, evOp_iface, evOp_mkfn, evOp_mkslice, evOp_slstr, evOp_slsl, evOp_slarr, evOp_faddr, evOp_fld, evOp_iaddr, evOp_iaddrArr, evOp_idxstr, evOp_idxagg, evOp_lookup, evOp_mapupd, evOp_delete, evOp_lenmap, evOp_tassert, evOp_extract, evOp_lenstr, evOp_len, evOp_lenarr, evOp_cap, evOp_max, evOp_min, evOp_append, evOp_copy, cE_t, cE_f, gV_tt, gV_tf, gV_ft, gV_ff, gV_gt_t, gV_gt_f, gV_gf_t, gV_gf_f, gC_tt, gC_tf, gC_ft, gC_ff, gC_gt_t, gC_gt_f, gC_gf_t, gC_gf_f, pick_and_t, pick_and_f, pick_or_t, pick_or_f, eq_bo_t, eq_bo_f, eq_t_bo, eq_f_bo, eq_tt, eq_ff, eq_tf, eq_ft, un_not_t, un_not_f, selE_t, selE_f, get_set', decide_true, decide_false, Bool.not_true, Bool.not_false, cond_true, cond_false, implies_true, Int.cast_ofNat_Int, UInt8.reduceToNat, Int.reduceSub, Int.reduceAdd , new_eq, ext_ext, nb_nb, next_ext, next_set, get_set_eq, get_set_ne, get_ext_old, get_ext_nb, get_ext_nb', load_ptr', ldB_cells, part_none, part_some, store_ptr', stB_some, write_eq, wrB_cells, set_ext_nb, set_ext_nb', set_ext_old, cells_int, cells_bool, cells_bo, cells_str, cells_nilptr, cells_ptr, cells_nilslice, cells_slice, cells_nilmap, cells_map, cells_nilfunc, cells_func, cells_niliface, cells_iface, cells_agg, fill_nil, fill_cons, fillB_some, evOp_box', boxE_some, evOp_alloc', evOp_mkmap', get_bump, next_bump, set_bump, load_bump, nb_lt, nb_inj, lt_nb, eq_agg, eqs_nil, eqs_cons, eqsE_some, andO_true, andO_false, andO_t, andO_f, andO_dec, res_cell, rcE_some, List.length_cons, List.length_nil, Nat.zero_add, Nat.add_zero, List.take_succ_cons, List.take_zero, List.take_nil, List.drop_succ_cons, List.drop_zero, List.drop_nil, List.getElem?_cons_zero, List.getElem?_cons_succ, List.getElem?_nil, Option.getD_some, List.set_cons_zero, List.set_cons_succ, Nat.reduceLT, Nat.reduceMul, Nat.reduceSub, Nat.reduceAdd, Nat.reduceEqDiff, Nat.reduceLeDiff, Nat.le_refl, ne_eq, Bool.or_true, Bool.or_false, Bool.true_or, Bool.false_or, Bool.and_true, Bool.true_and, Bool.and_false, Bool.false_and, eq_pn, eq_np, eq_nn, eq_sn, eq_ns, eq_nsns, evOp_bslice1, evOp_bslice0, bsE_some , srt_mov, srt_alloc, srt_box, srt_build, srt_bslice, srt_store, srt_nilck, srt_bin, srt_eq, srt_un, srt_iface, srt_mkfn, srt_mkmap, srt_mkslice, srt_slstr, srt_slsl, srt_slarr, srt_faddr, srt_fld, srt_iaddr, srt_iaddrArr, srt_idxstr, srt_idxagg, srt_lookup, srt_mapupd, srt_delete, srt_lenmap, srt_tassert, srt_extract, srt_len, srt_lenstr, srt_lenarr, srt_cap, srt_max, srt_min, srt_append, srt_copy, srt_pick, srt_cv_int, srt_cv_same, srt_cv_bytes, srt_cv_text, exec_draw', drw_nil, thenL_some, ifB_true, drw_v0, drw_v1, thenD_ret, chk_nil, chk_cons, snap_nil, snap_cons, pair_nil, pair_cons, stands_eq, standE_self, noL_nil, noL_cons, noA_nil, noA_cons, drw_load0, drw_load1, drw_v30, drw_v31, drw_call0, drw_call1, retO_ret, drw_gv0, drw_gv1, drw_gld0, drw_gld1, drw_gv30, drw_gv31, drw_gcall0, drw_gcall1, gE_bo_t, gE_bo_f, gE_tt, gE_tf, gE_ft, gE_ff, gE_undef, gE_gv_t, gE_gv_f, gE_gt_t, gE_gt_f, gE_gf_t, gE_gf_f, Nat.reduceBNe ]
/-- An array of these numbers. -/
def PutArr (m : Mem) (hb : Nat) (most : Int) (A : List Arr) (av : EV) (ib : Nat → Prop) (vs : List EV) (o : Option Fin) : Prop :=
  ∃ m' cv' av' ib' a, o = some (.ret (.tuple [.int .i64 ((A.length + 1 : Nat) : Int), .bool true]) m') ∧ HeapRep m' hb most (A ++ [a]) cv' av' ib' ∧ a.l = vs ∧ m.next ≤ m'.next ∧
    (∀ c, c < m.next → c ≠ hb → Off av c → ¬ ib c → m'.get c = m.get c) ∧ (∀ c, ib' c → ib c ∨ m.next ≤ c) ∧ (∀ c, c < m.next → Off av' c)
theorem put_ok {v : EV} {n : Nat} {vs : List EV} (h : HeapRep m hb most A cv av ib) (hm : most ≤ 1048576) (h1 : (n : Int) < most - usedOf A)
    (hv : v = .nilslice ∧ n = 0 ∨ ∃ b o c, v = .slice b o n c) (hvs : vs.length = n) (hsrc : ∀ m' : Mem, (∀ c, c < m.next → c ≠ hb → Off av c → m'.get c = m.get c) → m'.source 1 v = some (n, vs)) :
    PutArr m hb most A av ib vs (run T 8 [.ptr hb 0, v] m) := by
  obtain ⟨m', cv', av', cb, a, e1, h', e2, e3, e4, e5, e6⟩ := make_ok (n := n) h hm h1
  have hs := hsrc m' e4
  have hg := h'.get
  have hn : a.l.length = n := by rw [e2]; exact List.length_replicate ..
  have hk : (A ++ [a])[A.length]? = some a := by rw [List.getElem?_append_right (Nat.le_refl _), Nat.sub_self]; rfl
  have hlen : (A ++ [a]).length = A.length + 1 := by simp
  have hlu := len_used (A := A)
  rcases h'.own.is with ⟨_, h0, _⟩ | ⟨b, cap, t, hav, _, _, hb3, _⟩
  · omega
  rw [hlen] at hav
  subst hav
  have w1 : IntKind.i64.wrap (((A.length + 1 : Nat) : Int) - 1) = (A.length : Int) := by rw [wrap_i64 (by omega) (by omega)]; omega
  have hlt : A.length < A.length + 1 := by omega
  have hlv : ∀ m : Mem, evOp (fun _ => v) (.len (.const v)) m = some (.val (.int .i64 (n : Int)) m) := by
    intro m
    rcases hv with ⟨rfl, rfl⟩ | ⟨b, o, c, rfl⟩ <;> rfl
  generalize hX : run T 8 [.ptr hb 0, v] m = X
  rw [run_at (by simp [F8])] at hX
  by_cases hnl : a.nl = true
  · have hav : a.v = .nilslice := by simp only [Arr.v, hnl, cond_true]
    have hn0 : n = 0 := by
      rcases h'.arr _ _ hk with ⟨_, q⟩ | ⟨q, _⟩
      · rw [← hn, q]; rfl
      · rw [hnl] at q; cases q
    subst hn0
    have hcp : evCopy m' 1 .nilslice v = some (.int .i64 0, m') := by unfold evCopy; rw [hs]; rfl
    have hvs0 : vs = [] := List.eq_nil_of_length_eq_zero hvs
    have e1z : run T 12 [.ptr hb 0, .int .i64 0] m = some (.ret (.tuple [.int .i64 ((A.length + 1 : Nat) : Int), .bool true]) m') := e1
    rcases hv with ⟨rfl, _⟩ | ⟨bv, ov, c, rfl⟩
    all_goals
      simp +contextual -implicitDefEqProofs (maxSteps := 1000000) only [F8, e1, e1z, hg, w1, idx_cast, hlt, hb3, List.getElem?_map, hk, Nat.mul_one, Option.map_some, hav, hcp, argsF, fr00_get, fr00_defers, put_some, put_none, set_defers, eval_tmp, eval_const, reduceIte, reduceCtorEq, Nat.reduceEqDiff, Nat.reduceBEq, Nat.reduceAdd, ofEV_some, ofEM_some, ofM_some, thenV_some, thenC_ret, thenE_norm, thenE_ret, thenE_exit, leave_norm, leave_ret, leave_exit, selO_t, selO_f, resR_ret, resR_norm, resR_pan, eq_self, res_nil, res_tmp, one_one, one_two, one_nil, bin_add, bin_sub, bin_mul, bin_quo, bin_rem, bin_and, bin_or, bin_xor, bin_andNot, bin_lss, bin_leq, bin_gtr, bin_geq, bin_shl_i64, bin_shr_i64, bin_shl_u64, bin_shr_u64, eq_int, un_neg, cv_int, exec_seq, exec_region, exec_skip, exec_ret, exec_exit, exec_block, exec_cond', oprs_nil, oprs_val, oprs_callv, Option.map_some, Option.map_none, List.map_cons, List.map_nil, Int.reduceLT, Int.reduceLE, Int.reduceEq, Int.reduceToNat, Int.reduceNeg, Nat.reduceLeDiff, Int.reducePow, bo_decide, bo_not_decide, bo_tt, bo_ff, gv_true, gv_false, cE_bo, thenG_val, thenH_ret, gV_undef, gV_bo_t, gV_bo_f, gV_gv_t, gV_gv_f, gC_undef, gC_bo_t, gC_bo_f, gC_gv_t, gC_gv_f, oprs_gval, oprs_gcallv, runV_func, List.nil_append, List.append_nil, List.cons_append, evOp_pick', pick_and, pick_or, pick_and0, pick_or0, pick_t, pick_f, un_not_bo, eq_boo, eq_str, thenE_iF, leave_iF, thenV_iF, thenC_iF, resR_iF, not_true_eq_false, not_false_eq_true, and_true, true_and, and_false, false_and, or_true, true_or, or_false, false_or, Classical.not_not, Bool.false_bne, Bool.true_bne, Bool.false_xor, Bool.true_xor, evOp_mov, evOp_build, evOp_load, evOp_store, evOp_nilck, evOp_bin, evOp_eq, evOp_un, evOp_conv, evOp_iface, evOp_mkfn, evOp_mkslice, evOp_slstr, evOp_slsl, evOp_slarr, evOp_faddr, evOp_fld, evOp_iaddr, evOp_iaddrArr, evOp_idxstr, evOp_idxagg, evOp_lookup, evOp_mapupd, evOp_delete, evOp_lenmap, evOp_tassert, evOp_extract, evOp_lenstr, evOp_len, evOp_lenarr, evOp_cap, evOp_max, evOp_min, evOp_append, evOp_copy, cE_t, cE_f, gV_tt, gV_tf, gV_ft, gV_ff, gV_gt_t, gV_gt_f, gV_gf_t, gV_gf_f, gC_tt, gC_tf, gC_ft, gC_ff, gC_gt_t, gC_gt_f, gC_gf_t, gC_gf_f, pick_and_t, pick_and_f, pick_or_t, pick_or_f, eq_bo_t, eq_bo_f, eq_t_bo, eq_f_bo, eq_tt, eq_ff, eq_tf, eq_ft, un_not_t, un_not_f, selE_t, selE_f, get_set', decide_true, decide_false, Bool.not_true, Bool.not_false, cond_true, cond_false, implies_true, Int.cast_ofNat_Int, UInt8.reduceToNat, Int.reduceSub, Int.reduceAdd , new_eq, ext_ext, nb_nb, next_ext, next_set, get_set_eq, get_set_ne, get_ext_old, get_ext_nb, get_ext_nb', load_ptr', ldB_cells, part_none, part_some, store_ptr', stB_some, write_eq, wrB_cells, set_ext_nb, set_ext_nb', set_ext_old, cells_int, cells_bool, cells_bo, cells_str, cells_nilptr, cells_ptr, cells_nilslice, cells_slice, cells_nilmap, cells_map, cells_nilfunc, cells_func, cells_niliface, cells_iface, cells_agg, fill_nil, fill_cons, fillB_some, evOp_box', boxE_some, evOp_alloc', evOp_mkmap', get_bump, next_bump, set_bump, load_bump, nb_lt, nb_inj, lt_nb, eq_agg, eqs_nil, eqs_cons, eqsE_some, andO_true, andO_false, andO_t, andO_f, andO_dec, res_cell, rcE_some, List.length_cons, List.length_nil, Nat.zero_add, Nat.add_zero, List.take_succ_cons, List.take_zero, List.take_nil, List.drop_succ_cons, List.drop_zero, List.drop_nil, List.getElem?_cons_zero, List.getElem?_cons_succ, List.getElem?_nil, Option.getD_some, List.set_cons_zero, List.set_cons_succ, Nat.reduceLT, Nat.reduceMul, Nat.reduceSub, Nat.reduceAdd, Nat.reduceEqDiff, Nat.reduceLeDiff, Nat.le_refl, ne_eq, Bool.or_true, Bool.or_false, Bool.true_or, Bool.false_or, Bool.and_true, Bool.true_and, Bool.and_false, Bool.false_and, eq_pn, eq_np, eq_nn, eq_sn, eq_ns, eq_nsns, evOp_bslice1, evOp_bslice0, bsE_some ] at hX
      subst hX
      exact ⟨m', cv', _, _, a, rfl, h', by rw [e2, hvs0]; rfl, e3, fun c q1 q2 q3 _ => e4 c q1 q2 q3, fun c hc => hc.elim .inl fun e => e ▸ e5, e6⟩
  · have hnl : a.nl = false := by simpa using hnl
    have hav : a.v = .slice a.b a.o n (some n) := by simp only [Arr.v, hnl, cond_false, hn]
    obtain ⟨m2, f1, f2, f3, f4⟩ := h'.write hk hnl (i := 0) (vs := vs) (by omega)
    have hcp : evCopy m' 1 (.slice a.b a.o n (some n)) v = some (.int .i64 (n : Int), m2) := by
      unfold evCopy; rw [hs]
      simp only [Nat.min_self, Nat.mul_one]
      rw [List.take_of_length_le (by omega)]
      rw [Nat.add_zero] at f1
      rw [f1]; rfl
    have hset : (A ++ [a]).set A.length ⟨a.b, a.o, putAt a.l 0 vs, false⟩ = A ++ [⟨a.b, a.o, vs, false⟩] := by
      rw [putAt_all (by omega), List.set_append_right _ _ (Nat.le_refl _), Nat.sub_self]; rfl
    rw [hset] at f4
    have hib : ib a.b ∨ m.next ≤ a.b := by
      rcases h'.arr _ _ hk with ⟨q, _⟩ | ⟨_, _, q⟩
      · rw [hnl] at q; cases q
      · exact q.elim .inl fun e => e ▸ e5
    have e1z : n = 0 → run T 12 [.ptr hb 0, .int .i64 0] m = some (.ret (.tuple [.int .i64 ((A.length + 1 : Nat) : Int), .bool true]) m') := fun hz => by rw [hz] at e1; exact e1
    have hfin : PutArr m hb most A av ib vs (some (.ret (.tuple [.int .i64 ((A.length + 1 : Nat) : Int), .bool true]) m2)) :=
      ⟨m2, _, _, _, _, rfl, f4, rfl, by omega, fun c q1 q2 q3 q4 => by rw [f3 c (fun e => hib.elim (fun q => q4 (e ▸ q)) (fun q => by omega)), e4 c q1 q2 q3], fun c hc => hc.elim .inl fun e => e ▸ e5, e6⟩
    rcases hv with ⟨rfl, hn0⟩ | ⟨bv, ov, c, rfl⟩
    · simp +contextual -implicitDefEqProofs (maxSteps := 1000000) only [F8, e1z hn0, hg, w1, idx_cast, hlt, hb3, List.getElem?_map, hk, Nat.mul_one, Option.map_some, hav, hcp, argsF, fr00_get, fr00_defers, put_some, put_none, set_defers, eval_tmp, eval_const, reduceIte, reduceCtorEq, Nat.reduceEqDiff, Nat.reduceBEq, Nat.reduceAdd, ofEV_some, ofEM_some, ofM_some, thenV_some, thenC_ret, thenE_norm, thenE_ret, thenE_exit, leave_norm, leave_ret, leave_exit, selO_t, selO_f, resR_ret, resR_norm, resR_pan, eq_self, res_nil, res_tmp, one_one, one_two, one_nil, bin_add, bin_sub, bin_mul, bin_quo, bin_rem, bin_and, bin_or, bin_xor, bin_andNot, bin_lss, bin_leq, bin_gtr, bin_geq, bin_shl_i64, bin_shr_i64, bin_shl_u64, bin_shr_u64, eq_int, un_neg, cv_int, exec_seq, exec_region, exec_skip, exec_ret, exec_exit, exec_block, exec_cond', oprs_nil, oprs_val, oprs_callv, Option.map_some, Option.map_none, List.map_cons, List.map_nil, Int.reduceLT, Int.reduceLE, Int.reduceEq, Int.reduceToNat, Int.reduceNeg, Nat.reduceLeDiff, Int.reducePow, bo_decide, bo_not_decide, bo_tt, bo_ff, gv_true, gv_false, cE_bo, thenG_val, thenH_ret, gV_undef, gV_bo_t, gV_bo_f, gV_gv_t, gV_gv_f, gC_undef, gC_bo_t, gC_bo_f, gC_gv_t, gC_gv_f, oprs_gval, oprs_gcallv, runV_func, List.nil_append, List.append_nil, List.cons_append, evOp_pick', pick_and, pick_or, pick_and0, pick_or0, pick_t, pick_f, un_not_bo, eq_boo, eq_str, thenE_iF, leave_iF, thenV_iF, thenC_iF, resR_iF, not_true_eq_false, not_false_eq_true, and_true, true_and, and_false, false_and, or_true, true_or, or_false, false_or, Classical.not_not, Bool.false_bne, Bool.true_bne, Bool.false_xor, Bool.true_xor, evOp_mov, evOp_build, evOp_load, evOp_store, evOp_nilck, evOp_bin, evOp_eq, evOp_un, evOp_conv, evOp_iface, evOp_mkfn, evOp_mkslice, evOp_slstr, evOp_slsl, evOp_slarr, evOp_faddr, evOp_fld, evOp_iaddr, evOp_iaddrArr, evOp_idxstr, evOp_idxagg, evOp_lookup, evOp_mapupd, evOp_delete, evOp_lenmap, evOp_tassert, evOp_extract, evOp_lenstr, evOp_len, evOp_lenarr, evOp_cap, evOp_max, evOp_min, evOp_append, evOp_copy, cE_t, cE_f, gV_tt, gV_tf, gV_ft, gV_ff, gV_gt_t, gV_gt_f, gV_gf_t, gV_gf_f, gC_tt, gC_tf, gC_ft, gC_ff, gC_gt_t, gC_gt_f, gC_gf_t, gC_gf_f, pick_and_t, pick_and_f, pick_or_t, pick_or_f, eq_bo_t, eq_bo_f, eq_t_bo, eq_f_bo, eq_tt, eq_ff, eq_tf, eq_ft, un_not_t, un_not_f, selE_t, selE_f, get_set', decide_true, decide_false, Bool.not_true, Bool.not_false, cond_true, cond_false, implies_true, Int.cast_ofNat_Int, UInt8.reduceToNat, Int.reduceSub, Int.reduceAdd , new_eq, ext_ext, nb_nb, next_ext, next_set, get_set_eq, get_set_ne, get_ext_old, get_ext_nb, get_ext_nb', load_ptr', ldB_cells, part_none, part_some, store_ptr', stB_some, write_eq, wrB_cells, set_ext_nb, set_ext_nb', set_ext_old, cells_int, cells_bool, cells_bo, cells_str, cells_nilptr, cells_ptr, cells_nilslice, cells_slice, cells_nilmap, cells_map, cells_nilfunc, cells_func, cells_niliface, cells_iface, cells_agg, fill_nil, fill_cons, fillB_some, evOp_box', boxE_some, evOp_alloc', evOp_mkmap', get_bump, next_bump, set_bump, load_bump, nb_lt, nb_inj, lt_nb, eq_agg, eqs_nil, eqs_cons, eqsE_some, andO_true, andO_false, andO_t, andO_f, andO_dec, res_cell, rcE_some, List.length_cons, List.length_nil, Nat.zero_add, Nat.add_zero, List.take_succ_cons, List.take_zero, List.take_nil, List.drop_succ_cons, List.drop_zero, List.drop_nil, List.getElem?_cons_zero, List.getElem?_cons_succ, List.getElem?_nil, Option.getD_some, List.set_cons_zero, List.set_cons_succ, Nat.reduceLT, Nat.reduceMul, Nat.reduceSub, Nat.reduceAdd, Nat.reduceEqDiff, Nat.reduceLeDiff, Nat.le_refl, ne_eq, Bool.or_true, Bool.or_false, Bool.true_or, Bool.false_or, Bool.and_true, Bool.true_and, Bool.and_false, Bool.false_and, eq_pn, eq_np, eq_nn, eq_sn, eq_ns, eq_nsns, evOp_bslice1, evOp_bslice0, bsE_some ] at hX
      subst hX
      exact hfin
    · simp +contextual -implicitDefEqProofs (maxSteps := 1000000) only [F8, e1, hg, w1, idx_cast, hlt, hb3, List.getElem?_map, hk, Nat.mul_one, Option.map_some, hav, hcp, argsF, fr00_get, fr00_defers, put_some, put_none, set_defers, eval_tmp, eval_const, reduceIte, reduceCtorEq, Nat.reduceEqDiff, Nat.reduceBEq, Nat.reduceAdd, ofEV_some, ofEM_some, ofM_some, thenV_some, thenC_ret, thenE_norm, thenE_ret, thenE_exit, leave_norm, leave_ret, leave_exit, selO_t, selO_f, resR_ret, resR_norm, resR_pan, eq_self, res_nil, res_tmp, one_one, one_two, one_nil, bin_add, bin_sub, bin_mul, bin_quo, bin_rem, bin_and, bin_or, bin_xor, bin_andNot, bin_lss, bin_leq, bin_gtr, bin_geq, bin_shl_i64, bin_shr_i64, bin_shl_u64, bin_shr_u64, eq_int, un_neg, cv_int, exec_seq, exec_region, exec_skip, exec_ret, exec_exit, exec_block, exec_cond', oprs_nil, oprs_val, oprs_callv, Option.map_some, Option.map_none, List.map_cons, List.map_nil, Int.reduceLT, Int.reduceLE, Int.reduceEq, Int.reduceToNat, Int.reduceNeg, Nat.reduceLeDiff, Int.reducePow, bo_decide, bo_not_decide, bo_tt, bo_ff, gv_true, gv_false, cE_bo, thenG_val, thenH_ret, gV_undef, gV_bo_t, gV_bo_f, gV_gv_t, gV_gv_f, gC_undef, gC_bo_t, gC_bo_f, gC_gv_t, gC_gv_f, oprs_gval, oprs_gcallv, runV_func, List.nil_append, List.append_nil, List.cons_append, evOp_pick', pick_and, pick_or, pick_and0, pick_or0, pick_t, pick_f, un_not_bo, eq_boo, eq_str, thenE_iF, leave_iF, thenV_iF, thenC_iF, resR_iF, not_true_eq_false, not_false_eq_true, and_true, true_and, and_false, false_and, or_true, true_or, or_false, false_or, Classical.not_not, Bool.false_bne, Bool.true_bne, Bool.false_xor, Bool.true_xor, evOp_mov, evOp_build, evOp_load, evOp_store, evOp_nilck, evOp_bin, evOp_eq, evOp_un, evOp_conv, evOp_iface, evOp_mkfn, evOp_mkslice, evOp_slstr, evOp_slsl, evOp_slarr, evOp_faddr, evOp_fld, evOp_iaddr, evOp_iaddrArr, evOp_idxstr, evOp_idxagg, evOp_lookup, evOp_mapupd, evOp_delete, evOp_lenmap, evOp_tassert, evOp_extract, evOp_lenstr, evOp_len, evOp_lenarr, evOp_cap, evOp_max, evOp_min, evOp_append, evOp_copy, cE_t, cE_f, gV_tt, gV_tf, gV_ft, gV_ff, gV_gt_t, gV_gt_f, gV_gf_t, gV_gf_f, gC_tt, gC_tf, gC_ft, gC_ff, gC_gt_t, gC_gt_f, gC_gf_t, gC_gf_f, pick_and_t, pick_and_f, pick_or_t, pick_or_f, eq_bo_t, eq_bo_f, eq_t_bo, eq_f_bo, eq_tt, eq_ff, eq_tf, eq_ft, un_not_t, un_not_f, selE_t, selE_f, get_set', decide_true, decide_false, Bool.not_true, Bool.not_false, cond_true, cond_false, implies_true, Int.cast_ofNat_Int, UInt8.reduceToNat, Int.reduceSub, Int.reduceAdd , new_eq, ext_ext, nb_nb, next_ext, next_set, get_set_eq, get_set_ne, get_ext_old, get_ext_nb, get_ext_nb', load_ptr', ldB_cells, part_none, part_some, store_ptr', stB_some, write_eq, wrB_cells, set_ext_nb, set_ext_nb', set_ext_old, cells_int, cells_bool, cells_bo, cells_str, cells_nilptr, cells_ptr, cells_nilslice, cells_slice, cells_nilmap, cells_map, cells_nilfunc, cells_func, cells_niliface, cells_iface, cells_agg, fill_nil, fill_cons, fillB_some, evOp_box', boxE_some, evOp_alloc', evOp_mkmap', get_bump, next_bump, set_bump, load_bump, nb_lt, nb_inj, lt_nb, eq_agg, eqs_nil, eqs_cons, eqsE_some, andO_true, andO_false, andO_t, andO_f, andO_dec, res_cell, rcE_some, List.length_cons, List.length_nil, Nat.zero_add, Nat.add_zero, List.take_succ_cons, List.take_zero, List.take_nil, List.drop_succ_cons, List.drop_zero, List.drop_nil, List.getElem?_cons_zero, List.getElem?_cons_succ, List.getElem?_nil, Option.getD_some, List.set_cons_zero, List.set_cons_succ, Nat.reduceLT, Nat.reduceMul, Nat.reduceSub, Nat.reduceAdd, Nat.reduceEqDiff, Nat.reduceLeDiff, Nat.le_refl, ne_eq, Bool.or_true, Bool.or_false, Bool.true_or, Bool.false_or, Bool.and_true, Bool.true_and, Bool.and_false, Bool.false_and, eq_pn, eq_np, eq_nn, eq_sn, eq_ns, eq_nsns, evOp_bslice1, evOp_bslice0, bsE_some ] at hX
      subst hX
      exact hfin
end
end Go.Proofs.Ythlbifjgnhdonaa.Ev
end
