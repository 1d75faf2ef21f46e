/- Regions whose order is open, and values of several cells, for reckoning by rewriting. -/
import Derived.Test.YthlbifjgnhdonaaEvHeap
namespace Go.Proofs.Ythlbifjgnhdonaa.Ev
open Go
set_option linter.unusedSimpArgs false
theorem srt_mov (x : Opd) : srt (.mov x) = 0 := rfl
theorem srt_alloc (elem : Nat) (zero : List EV) : srt (.alloc elem zero) = 1 := rfl
theorem srt_box (elem : Nat) (x : Opd) : srt (.box elem x) = 1 := rfl
theorem srt_build (zero : List EV) (parts : List (Nat × Nat × Opd)) : srt (.build zero parts) = 0 := rfl
theorem srt_bslice (elem esz len : Nat) (zero : List EV) (parts : List (Nat × Opd)) : srt (.bslice elem esz len zero parts) = 1 := rfl
theorem srt_store (size : Nat) (a x : Opd) : srt (.store size a x) = 3 := rfl
theorem srt_nilck (x : Opd) : srt (.nilck x) = 0 := rfl
theorem srt_bin (op : BinOp) (x y : Opd) : srt (.bin op x y) = 0 := rfl
theorem srt_eq (neg : Bool) (t : EqTy) (x y : Opd) : srt (.eq neg t x y) = 0 := rfl
theorem srt_un (op : UnOp) (x : Opd) : srt (.un op x) = 0 := rfl
theorem srt_iface (t : Nat) (x : Opd) : srt (.iface t x) = 0 := rfl
theorem srt_mkfn (f : Nat) (a c : List Opd) : srt (.mkfn f a c) = 0 := rfl
theorem srt_mkmap  : srt (.mkmap ) = 1 := rfl
theorem srt_mkslice (elem esz : Nat) (zero : List EV) (len cap : Opd) : srt (.mkslice elem esz zero len cap) = 1 := rfl
theorem srt_slstr (x : Opd) (lo hi : Option Opd) : srt (.slstr x lo hi) = 0 := rfl
theorem srt_slsl (esz : Nat) (x : Opd) (lo hi max : Option Opd) : srt (.slsl esz x lo hi max) = 3 := rfl
theorem srt_slarr (n esz : Nat) (x : Opd) (lo hi max : Option Opd) : srt (.slarr n esz x lo hi max) = 0 := rfl
theorem srt_faddr (off : Nat) (x : Opd) : srt (.faddr off x) = 0 := rfl
theorem srt_fld (agg : Option Nat) (off : Nat) (x : Opd) : srt (.fld agg off x) = 0 := rfl
theorem srt_iaddr (esz : Nat) (x i : Opd) : srt (.iaddr esz x i) = 0 := rfl
theorem srt_iaddrArr (n esz : Nat) (x i : Opd) : srt (.iaddrArr n esz x i) = 0 := rfl
theorem srt_idxstr (x i : Opd) : srt (.idxstr x i) = 0 := rfl
theorem srt_idxagg (n esz : Nat) (agg : Option Nat) (x i : Opd) : srt (.idxagg n esz agg x i) = 0 := rfl
theorem srt_lookup (kt : Nat) (zero : EV) (ok : Bool) (mp k : Opd) : srt (.lookup kt zero ok mp k) = 3 := rfl
theorem srt_mapupd (kt : Nat) (mp k x : Opd) : srt (.mapupd kt mp k x) = 3 := rfl
theorem srt_delete (kt : Nat) (mp k : Opd) : srt (.delete kt mp k) = 3 := rfl
theorem srt_lenmap (mp : Opd) : srt (.lenmap mp) = 3 := rfl
theorem srt_tassert (t : Nat) (x : Opd) : srt (.tassert t x) = 0 := rfl
theorem srt_extract (x : Opd) (i : Nat) : srt (.extract x i) = 0 := rfl
theorem srt_len (x : Opd) : srt (.len x) = 0 := rfl
theorem srt_lenstr (x : Opd) : srt (.lenstr x) = 0 := rfl
theorem srt_lenarr (n : Nat) : srt (.lenarr n) = 0 := rfl
theorem srt_cap (x : Opd) : srt (.cap x) = 0 := rfl
theorem srt_max (args : List Opd) : srt (.max args) = 0 := rfl
theorem srt_min (args : List Opd) : srt (.min args) = 0 := rfl
theorem srt_append (elem esz bytes : Nat) (s x : Opd) : srt (.append elem esz bytes s x) = 3 := rfl
theorem srt_copy (esz : Nat) (d s : Opd) : srt (.copy esz d s) = 3 := rfl
theorem srt_pick {x y z : Opd} : srt (.pick x y z) = 0 := rfl
theorem srt_cv_int {k : IntKind} {x : Opd} : srt (.conv (.int k) x) = 0 := rfl
theorem srt_cv_same {x : Opd} : srt (.conv .same x) = 0 := rfl
theorem srt_cv_bytes {e : Nat} {x : Opd} : srt (.conv (.bytes e) x) = 1 := rfl
theorem srt_cv_text {x : Opd} : srt (.conv .text x) = 3 := rfl
/-! ### Room set aside -/
def bump (m : Mem) (k : Nat) : Mem := ⟨m.next + k, m.tbl⟩
theorem get_bump {m : Mem} {k b : Nat} : (bump m k).get b = m.get b := rfl
theorem next_bump {m : Mem} {k : Nat} : (bump m k).next = nb m.next k := rfl
theorem set_bump {m : Mem} {k b : Nat} {x : Blk} : (bump m k).set b x = bump (m.set b x) k := rfl
theorem load_bump {m : Mem} {k : Nat} {agg : Option Nat} {a : EV} : (bump m k).load agg a = m.load agg a := rfl
theorem nb_lt {n i j : Nat} : nb n i < nb n j ↔ i < j := by unfold nb; omega
theorem nb_inj {n i j : Nat} : nb n i = nb n j ↔ i = j := by unfold nb; omega
theorem lt_nb {b n i : Nat} (h : b < n) : b < nb n i := by unfold nb; omega
theorem ne_nb {b n i : Nat} (h : b < n) : b ≠ nb n i := by unfold nb; omega
theorem get_ext_nb' {m : Mem} {xs : List Blk} {n i j : Nat} (hn : m.next = nb n j) (h : j ≤ i) (h2 : i - j < xs.length) : (ext m xs).get (nb n i) = xs[i - j]?.getD .dead := by
  have := get_ext_nb (m := m) (xs := xs) (n := nb n j) (i := i - j) hn h2
  rw [nb_nb, show j + (i - j) = i by omega] at this; exact this
theorem set_ext_nb' {m : Mem} {xs : List Blk} {n i j : Nat} {x : Blk} (hn : m.next = nb n j) (h : j ≤ i) (h2 : i - j < xs.length) : (ext m xs).set (nb n i) x = ext m (xs.set (i - j) x) := by
  have := set_ext_nb (m := m) (xs := xs) (n := nb n j) (i := i - j) (x := x) hn h2
  rw [nb_nb, show j + (i - j) = i by omega] at this; exact this
theorem keeps_bump {m m' : Mem} {k : Nat} (h : Keeps m m') : Keeps m (bump m' k) := h
theorem keeps_trans {m m' m'' : Mem} (h : Keeps m m') (hn : m.next ≤ m'.next) (h' : Keeps m' m'') : Keeps m m'' := fun b hb => (h' b (by omega)).trans (h b hb)
theorem keeps_set {m m' : Mem} {b : Nat} {x : Blk} (h : Keeps m m') (hb : m.next ≤ b) : Keeps m (m'.set b x) := fun c hc => by rw [get_set_ne (by omega)]; exact h c hc
theorem keeps_ext' {m m' : Mem} {xs : List Blk} (h : Keeps m m') (hn : m.next ≤ m'.next) : Keeps m (ext m' xs) := fun c hc => by rw [get_ext_old (by omega)]; exact h c hc
theorem le_nb {n i : Nat} : n ≤ nb n i := by unfold nb; omega

/-! ### Values that are the same -/
mutual
theorem same_refl : ∀ v : EV, EV.same v v = true
  | .undef | .nilptr | .nilslice | .nilmap | .nilfunc | .niliface => rfl
  | .bool b => by cases b <;> rfl
  | .int k n => by
    have h1 : (kindNo k).beq (kindNo k) = true := Nat.beq_refl _
    have h2 : sameInt n n = true := by cases n <;> exact Nat.beq_refl _
    simp only [EV.same, h1, cond_true, h2]
  | .str s => by simp only [EV.same, sameBytes_eq, decide_true]
  | .ptr a i => by simp only [EV.same, Nat.beq_refl, cond_true]
  | .slice a i n c => by
    have h : sameOpt c c = true := by cases c <;> simp [sameOpt]
    simp only [EV.same, Nat.beq_refl, cond_true, h]
  | .map a => by simp only [EV.same, Nat.beq_refl]
  | .func f x y => by simp only [EV.same, Nat.beq_refl, cond_true, sames_refl x, sames_refl y]
  | .iface t v => by simp only [EV.same, Nat.beq_refl, cond_true, same_refl v]
  | .agg x => by simp only [EV.same, sames_refl x]
  | .tuple x => by simp only [EV.same, sames_refl x]
theorem sames_refl : ∀ x : List EV, EV.sames x x = true
  | [] => rfl
  | v :: x => by simp only [EV.sames, same_refl v, cond_true, sames_refl x]
end

/-! ### Regions whose order is open -/
section
variable {T : Nat → Option Ent} {chk : List (Nat × Nat)} {B0 i : Nat} {l : List IOper} {fr : Fr} {m : Mem} {sn : List (Nat × Mem)} {se : List Seen} {d : Option Nat}
theorem exec_draw' : exec T (.draw l chk) fr m = drw T chk m.next l 0 fr (bump m l.length) [] [] := rfl
theorem drw_nil : drw T chk B0 [] i fr m sn se = some (.norm fr m) := drw_iff.2 ⟨0, rfl⟩
def thenL (o : Option EV) (k : EV → Option Out) : Option Out := match o with
  | some v => k v
  | none => none
@[congr] theorem thenL_congr {o o' : Option EV} {k : EV → Option Out} (h : o = o') : thenL o k = thenL o' k := by rw [h]
theorem thenL_some {v : EV} {k : EV → Option Out} : thenL (some v) k = k v := rfl
def ifB (b : Bool) (o : Option Out) : Option Out := bif b then o else none
@[congr] theorem ifB_congr {b b' : Bool} {o : Option Out} (h : b = b') : ifB b o = ifB b' o := by rw [h]
theorem ifB_true {o : Option Out} : ifB true o = o := rfl
theorem drw_v0 {op : IOp} (h : srt op = 0) : drw T chk B0 (⟨d, .val op, none⟩ :: l) i fr m sn se = thenV (evOp fr.eval op m) fun v _ => drw T chk B0 l (i + 1) (fr.put d v) m sn se := by
  refine opt_ext fun r => ?_
  rw [drw_iff]
  simp only [evDraw, wantedE, h]
  cases evOp fr.eval op m with
  | none => simp [thenV]
  | some q => obtain ⟨v, m1⟩ := q; simp only [thenV]; exact drw_iff.symm
theorem drw_v1 {op : IOp} (h : srt op = 1) : drw T chk B0 (⟨d, .val op, none⟩ :: l) i fr m sn se = thenV (evOp fr.eval op ⟨B0 + i, m.tbl⟩) fun v m1 => drw T chk B0 l (i + 1) (fr.put d v) ⟨m.next, m1.tbl⟩ sn se := by
  refine opt_ext fun r => ?_
  rw [drw_iff]
  simp only [evDraw, wantedE, h]
  cases evOp fr.eval op ⟨B0 + i, m.tbl⟩ with
  | none => simp [thenV]
  | some q => obtain ⟨v, m1⟩ := q; simp only [thenV]; exact drw_iff.symm
theorem drw_v3 {op : IOp} (h : srt op = 3) : drw T chk B0 (⟨d, .val op, none⟩ :: l) i fr m sn se = thenV (evOp fr.eval op m) fun v m' => ifB (checkSeen chk i m' se) (drw T chk B0 l (i + 1) (fr.put d v) m' ((i, m) :: sn) se) := by
  refine opt_ext fun r => ?_
  rw [drw_iff]
  simp only [evDraw, wantedE, h]
  cases evOp fr.eval op m with
  | none => simp [thenV]
  | some q =>
    obtain ⟨v, m1⟩ := q
    simp only [thenV]
    cases checkSeen chk i m1 se
    · simp [ifB]
    · simp only [ifB, cond_true]; exact drw_iff.symm
theorem drw_load {agg : Option Nat} {a : Opd} : drw T chk B0 (⟨d, .val (.load agg a), none⟩ :: l) i fr m sn se = thenL (m.load agg (fr.eval a)) fun v => ifB (checkSnap chk i agg (fr.eval a) v sn) (drw T chk B0 l (i + 1) (fr.put d v) m sn (⟨i, agg, fr.eval a, v⟩ :: se)) := by
  refine opt_ext fun r => ?_
  rw [drw_iff]
  simp only [evDraw, wantedE, srt]
  cases m.load agg (fr.eval a) with
  | none => simp [thenL]
  | some v =>
    simp only [thenL]
    cases checkSnap chk i agg (fr.eval a) v sn
    · simp [ifB]
    · simp only [ifB, cond_true]; exact drw_iff.symm
def thenD (o : Option Fin) (k : EV → Mem → Option Out) : Option Out := match o with
  | some (.ret v m) => k v m
  | _ => none
@[congr] theorem thenD_congr {o o' : Option Fin} {k : EV → Mem → Option Out} (h : o = o') : thenD o k = thenD o' k := by rw [h]
theorem thenD_ret {v : EV} {m : Mem} {k : EV → Mem → Option Out} : thenD (some (.ret v m)) k = k v m := rfl
theorem drw_call {x : Opd} {args : List Opd} : drw T chk B0 (⟨d, .call x args, none⟩ :: l) i fr m sn se = thenD (runV T (fr.eval x) (args.map fr.eval) m) fun v m' => ifB (checkSeen chk i m' se) (drw T chk B0 l (i + 1) (fr.put d v) m' ((i, m) :: sn) se) := by
  refine opt_ext fun r => ?_
  rw [drw_iff]
  simp only [evDraw, wantedE]
  cases hx : fr.eval x
  case func g a c =>
    simp only [evCall, runV]
    constructor
    · rintro ⟨k, h⟩
      cases hc : evFun T k g (a ++ args.map fr.eval ++ c) m with
      | none => rw [hc] at h; cases h
      | some q =>
        rw [run_iff.2 ⟨k, hc⟩]
        simp only [hc] at h
        cases q with
        | ret v m1 =>
          simp only [thenD]
          cases hk : checkSeen chk i m1 se
          · simp [hk] at h
          · simp only [hk, cond_true] at h
            simp only [ifB, cond_true]; exact drw_iff.2 ⟨k, h⟩
        | pan v m1 => simp at h
    · intro h
      cases hc : run T g (a ++ args.map fr.eval ++ c) m with
      | none => rw [hc] at h; cases h
      | some q =>
        obtain ⟨k1, h1⟩ := run_iff.1 hc
        rw [hc] at h
        cases q with
        | ret v m1 =>
          simp only [thenD] at h
          cases hk : checkSeen chk i m1 se
          · simp [hk, ifB] at h
          · simp only [hk, ifB, cond_true] at h
            obtain ⟨k2, h2⟩ := drw_iff.1 h
            refine ⟨max k1 k2, ?_⟩
            have e1 := mono_run _ _ _ (Nat.le_max_left k1 k2) h1
            have e2 := mono_drw _ _ _ (Nat.le_max_right k1 k2) h2
            simp only at e1 e2
            simp only [e1, hk, cond_true]; exact e2
        | pan v m1 => cases h
  all_goals simp [evCall, runV, thenD]
/-- No pair speaks of this load; of this act. -/
def noL (i : Nat) (chk : List (Nat × Nat)) : Bool := chk.all fun p => p.1 != i
def noA (j : Nat) (chk : List (Nat × Nat)) : Bool := chk.all fun p => p.2 != j
theorem noL_nil : noL i [] = true := rfl
theorem noL_cons {a b : Nat} : noL i ((a, b) :: chk) = (a != i && noL i chk) := rfl
theorem noA_nil : noA i [] = true := rfl
theorem noA_cons {a b : Nat} : noA i ((a, b) :: chk) = (b != i && noA i chk) := rfl
theorem noL_pair {j : Nat} : ∀ {chk : List (Nat × Nat)}, noL i chk = true → hasPair i j chk = false
  | [], _ => rfl
  | (a, b) :: chk, h => by
    simp only [noL_cons, Bool.and_eq_true, bne_iff_ne, ne_eq] at h
    simp only [hasPair, beq_ff h.1, cond_false]
    exact noL_pair h.2
theorem noA_pair {j : Nat} : ∀ {chk : List (Nat × Nat)}, noA j chk = true → hasPair i j chk = false
  | [], _ => rfl
  | (a, b) :: chk, h => by
    simp only [noA_cons, Bool.and_eq_true, bne_iff_ne, ne_eq] at h
    simp only [hasPair, beq_ff h.1, cond_false]
    rw [noA_pair h.2]; cases a.beq i <;> rfl
theorem snap_noL {agg : Option Nat} {a v : EV} (h : noL i chk = true) : ∀ sn, checkSnap chk i agg a v sn = true
  | [] => rfl
  | (j, m1) :: sn => by simp only [checkSnap, noL_pair h, cond_false]; exact snap_noL h sn
theorem seen_noA {m : Mem} (h : noA i chk = true) : ∀ se, checkSeen chk i m se = true
  | [] => rfl
  | x :: se => by simp only [checkSeen, noA_pair h, cond_false]; exact seen_noA h se
/-- What is seen, but for what no pair speaks of. -/
def Same1 (chk : List (Nat × Nat)) (se se' : List Seen) : Prop := ∀ j m, checkSeen chk j m se = checkSeen chk j m se'
def Same2 (chk : List (Nat × Nat)) (sn sn' : List (Nat × Mem)) : Prop := ∀ i agg a v, checkSnap chk i agg a v sn = checkSnap chk i agg a v sn'
theorem Same1.cons {se se' : List Seen} (h : Same1 chk se se') (x : Seen) : Same1 chk (x :: se) (x :: se') := fun j m => by simp only [checkSeen, h j m]
theorem Same2.cons {sn sn' : List (Nat × Mem)} (h : Same2 chk sn sn') (x : Nat × Mem) : Same2 chk (x :: sn) (x :: sn') := fun i agg a v => by obtain ⟨j, m⟩ := x; simp only [checkSnap, h i agg a v]
theorem evDraw_same {call : Call} : ∀ (l : List IOper) (i : Nat) (fr : Fr) (m : Mem) (sn sn' : List (Nat × Mem)) (se se' : List Seen), Same2 chk sn sn' → Same1 chk se se' → evDraw call chk B0 l i fr m sn se = evDraw call chk B0 l i fr m sn' se'
  | [], i, fr, m, sn, sn', se, se', _, _ => rfl
  | o :: r, i, fr, m, sn, sn', se, se', h2, h1 => by
    have ih := fun i fr m sn sn' se se' h2 h1 => evDraw_same (call := call) r i fr m sn sn' se se' h2 h1
    simp only [evDraw]
    cases wantedE fr o.guard with
    | none => rfl
    | some b =>
    cases b with
    | false => exact ih _ _ _ _ _ _ _ h2 h1
    | true =>
      simp only
      cases o.op with
      | val op =>
        simp only
        split
        · cases evOp fr.eval op m with
          | none => rfl
          | some q => obtain ⟨v, m1⟩ := q; exact ih _ _ _ _ _ _ _ h2 h1
        · cases evOp fr.eval op ⟨B0 + i, m.tbl⟩ with
          | none => rfl
          | some q => obtain ⟨v, m1⟩ := q; exact ih _ _ _ _ _ _ _ h2 h1
        · split
          · rename_i agg x _
            cases m.load agg (fr.eval x) with
            | none => rfl
            | some v =>
              simp only [h2 i agg (fr.eval x) v]
              cases checkSnap chk i agg (fr.eval x) v sn'
              · rfl
              · simp only [cond_true]; exact ih _ _ _ _ _ _ _ h2 (h1.cons _)
          · rfl
        · cases evOp fr.eval op m with
          | none => rfl
          | some q =>
            obtain ⟨v, m1⟩ := q
            simp only [h1 i m1]
            cases checkSeen chk i m1 se'
            · rfl
            · simp only [cond_true]; exact ih _ _ _ _ _ _ _ (h2.cons _) h1
      | call f args =>
        simp only
        cases evCall call (fr.eval f) (args.map fr.eval) m with
        | none => rfl
        | some q =>
          cases q with
          | ret v m1 =>
            simp only [h1 i m1]
            cases checkSeen chk i m1 se'
            · rfl
            · simp only [cond_true]; exact ih _ _ _ _ _ _ _ (h2.cons _) h1
          | pan v m1 => rfl
      | panic x => rfl
      | defer f x => rfl
theorem drw_same {sn' : List (Nat × Mem)} {se' : List Seen} (h2 : Same2 chk sn sn') (h1 : Same1 chk se se') : drw T chk B0 l i fr m sn se = drw T chk B0 l i fr m sn' se' := by
  unfold drw; congr 1; funext k; exact evDraw_same l i fr m sn sn' se se' h2 h1
theorem drw_seen {j : Nat} {agg : Option Nat} {a v : EV} (h : noL j chk = true) : drw T chk B0 l i fr m sn (⟨j, agg, a, v⟩ :: se) = drw T chk B0 l i fr m sn se :=
  drw_same (fun _ _ _ _ => rfl) fun k m => by simp only [checkSeen, noL_pair h, cond_false]
theorem drw_snap {j : Nat} {m1 : Mem} (h : noA j chk = true) : drw T chk B0 l i fr m ((j, m1) :: sn) se = drw T chk B0 l i fr m sn se :=
  drw_same (fun i agg a v => by simp only [checkSnap, noA_pair h, cond_false]) fun _ _ => rfl
theorem drw_load0 {agg : Option Nat} {a : Opd} (h : noL i chk = true) : drw T chk B0 (⟨d, .val (.load agg a), none⟩ :: l) i fr m sn se = thenL (m.load agg (fr.eval a)) fun v => drw T chk B0 l (i + 1) (fr.put d v) m sn se := by
  rw [drw_load]; cases m.load agg (fr.eval a) with
  | none => rfl
  | some v => simp only [thenL, snap_noL h, ifB_true, drw_seen h]
theorem drw_load1 {agg : Option Nat} {a : Opd} (_h : noL i chk = false) : drw T chk B0 (⟨d, .val (.load agg a), none⟩ :: l) i fr m sn se = thenL (m.load agg (fr.eval a)) fun v => ifB (checkSnap chk i agg (fr.eval a) v sn) (drw T chk B0 l (i + 1) (fr.put d v) m sn (⟨i, agg, fr.eval a, v⟩ :: se)) := drw_load
theorem drw_v30 {op : IOp} (h : srt op = 3) (h0 : noA i chk = true) : drw T chk B0 (⟨d, .val op, none⟩ :: l) i fr m sn se = thenV (evOp fr.eval op m) fun v m' => drw T chk B0 l (i + 1) (fr.put d v) m' sn se := by
  rw [drw_v3 h]; cases evOp fr.eval op m with
  | none => rfl
  | some q => obtain ⟨v, m1⟩ := q; simp only [thenV, seen_noA h0, ifB_true, drw_snap h0]
theorem drw_v31 {op : IOp} (h : srt op = 3) (_h0 : noA i chk = false) : drw T chk B0 (⟨d, .val op, none⟩ :: l) i fr m sn se = thenV (evOp fr.eval op m) fun v m' => ifB (checkSeen chk i m' se) (drw T chk B0 l (i + 1) (fr.put d v) m' ((i, m) :: sn) se) := drw_v3 h
theorem drw_call0 {x : Opd} {args : List Opd} (h0 : noA i chk = true) : drw T chk B0 (⟨d, .call x args, none⟩ :: l) i fr m sn se = thenD (runV T (fr.eval x) (args.map fr.eval) m) fun v m' => drw T chk B0 l (i + 1) (fr.put d v) m' sn se := by
  rw [drw_call]; cases runV T (fr.eval x) (args.map fr.eval) m with
  | none => rfl
  | some q => cases q with
    | ret v m1 => simp only [thenD, seen_noA h0, ifB_true, drw_snap h0]
    | pan v m1 => rfl
theorem drw_call1 {x : Opd} {args : List Opd} (_h0 : noA i chk = false) : drw T chk B0 (⟨d, .call x args, none⟩ :: l) i fr m sn se = thenD (runV T (fr.eval x) (args.map fr.eval) m) fun v m' => ifB (checkSeen chk i m' se) (drw T chk B0 l (i + 1) (fr.put d v) m' ((i, m) :: sn) se) := drw_call
theorem drw_guard {op : XOp} {t : Nat} {w : Bool} : drw T chk B0 (⟨d, op, some (t, w)⟩ :: l) i fr m sn se = gE (fr.get t) w (drw T chk B0 (⟨d, op, none⟩ :: l) i fr m sn se) (drw T chk B0 l (i + 1) (fr.put d .undef) m sn se) := by
  cases h : fr.get t
  case bool b =>
    refine opt_ext fun r => ?_
    rw [drw_iff]
    simp only [evDraw, wantedE, h, gE]
    cases hb : b == w
    · simp only [cond_false]; exact drw_iff.symm
    · simp only [cond_true]
      rw [drw_iff]
      simp only [evDraw, wantedE]
  case undef =>
    refine opt_ext fun r => ?_
    rw [drw_iff]
    simp only [evDraw, wantedE, h, gE]
    exact drw_iff.symm
  all_goals
    refine opt_ext fun r => ?_
    rw [drw_iff]
    simp only [evDraw, wantedE, h, reduceCtorEq, exists_const, gE]
def retO (o : Option Fin) : Option R1 := match o with
  | some (.ret v m) => some (.val v m)
  | _ => none
theorem retO_ret {v : EV} {m : Mem} : retO (some (.ret v m)) = some (.val v m) := rfl
theorem thenD_eq {o : Option Fin} {k : EV → Mem → Option Out} : thenD o k = thenV (retO o) k := by cases o with | none => rfl | some q => cases q <;> rfl
theorem drw_gv0 {op : IOp} {t : Nat} {w : Bool} (h : srt op = 0) : drw T chk B0 (⟨d, .val op, some (t, w)⟩ :: l) i fr m sn se = gV (fr.get t) w m (evOp fr.eval op m) fun v _ => drw T chk B0 l (i + 1) (fr.put d v) m sn se := by rw [drw_guard, drw_v0 h]; rfl
theorem drw_gv1 {op : IOp} {t : Nat} {w : Bool} (h : srt op = 1) : drw T chk B0 (⟨d, .val op, some (t, w)⟩ :: l) i fr m sn se = gE (fr.get t) w (thenV (evOp fr.eval op ⟨B0 + i, m.tbl⟩) fun v m1 => drw T chk B0 l (i + 1) (fr.put d v) ⟨m.next, m1.tbl⟩ sn se) (drw T chk B0 l (i + 1) (fr.put d .undef) m sn se) := by rw [drw_guard, drw_v1 h]
theorem drw_gld0 {agg : Option Nat} {a : Opd} {t : Nat} {w : Bool} (h : noL i chk = true) : drw T chk B0 (⟨d, .val (.load agg a), some (t, w)⟩ :: l) i fr m sn se = gV (fr.get t) w m (ofEV m (m.load agg (fr.eval a))) fun v _ => drw T chk B0 l (i + 1) (fr.put d v) m sn se := by
  rw [drw_guard, drw_load0 h]; unfold gV
  cases m.load agg (fr.eval a) <;> rfl
theorem drw_gld1 {agg : Option Nat} {a : Opd} {t : Nat} {w : Bool} (_h : noL i chk = false) : drw T chk B0 (⟨d, .val (.load agg a), some (t, w)⟩ :: l) i fr m sn se = gE (fr.get t) w (thenL (m.load agg (fr.eval a)) fun v => ifB (checkSnap chk i agg (fr.eval a) v sn) (drw T chk B0 l (i + 1) (fr.put d v) m sn (⟨i, agg, fr.eval a, v⟩ :: se))) (drw T chk B0 l (i + 1) (fr.put d .undef) m sn se) := by rw [drw_guard, drw_load]
theorem drw_gv30 {op : IOp} {t : Nat} {w : Bool} (h : srt op = 3) (h0 : noA i chk = true) : drw T chk B0 (⟨d, .val op, some (t, w)⟩ :: l) i fr m sn se = gV (fr.get t) w m (evOp fr.eval op m) fun v m' => drw T chk B0 l (i + 1) (fr.put d v) m' sn se := by rw [drw_guard, drw_v30 h h0]; rfl
theorem drw_gv31 {op : IOp} {t : Nat} {w : Bool} (h : srt op = 3) (_h0 : noA i chk = false) : drw T chk B0 (⟨d, .val op, some (t, w)⟩ :: l) i fr m sn se = gE (fr.get t) w (thenV (evOp fr.eval op m) fun v m' => ifB (checkSeen chk i m' se) (drw T chk B0 l (i + 1) (fr.put d v) m' ((i, m) :: sn) se)) (drw T chk B0 l (i + 1) (fr.put d .undef) m sn se) := by rw [drw_guard, drw_v3 h]
theorem drw_gcall0 {x : Opd} {args : List Opd} {t : Nat} {w : Bool} (h0 : noA i chk = true) : drw T chk B0 (⟨d, .call x args, some (t, w)⟩ :: l) i fr m sn se = gV (fr.get t) w m (retO (runV T (fr.eval x) (args.map fr.eval) m)) fun v m' => drw T chk B0 l (i + 1) (fr.put d v) m' sn se := by rw [drw_guard, drw_call0 h0, thenD_eq]; rfl
theorem drw_gcall1 {x : Opd} {args : List Opd} {t : Nat} {w : Bool} (_h0 : noA i chk = false) : drw T chk B0 (⟨d, .call x args, some (t, w)⟩ :: l) i fr m sn se = gE (fr.get t) w (thenD (runV T (fr.eval x) (args.map fr.eval) m) fun v m' => ifB (checkSeen chk i m' se) (drw T chk B0 l (i + 1) (fr.put d v) m' ((i, m) :: sn) se)) (drw T chk B0 l (i + 1) (fr.put d .undef) m sn se) := by rw [drw_guard, drw_call]
section
variable {p q : Prop} {x y : Option Out}
theorem gE_bo_t : gE (bo p) true x y = iF p x y := by by_cases h : p <;> simp [gE, bo, iF, h]
theorem gE_bo_f : gE (bo p) false x y = iF p y x := by by_cases h : p <;> simp [gE, bo, iF, h]
theorem gE_tt : gE (.bool true) true x y = x := rfl
theorem gE_tf : gE (.bool true) false x y = y := rfl
theorem gE_ft : gE (.bool false) true x y = y := rfl
theorem gE_ff : gE (.bool false) false x y = x := rfl
theorem gE_undef {w : Bool} : gE .undef w x y = y := rfl
theorem gE_gv_t : gE (gv p (bo q)) true x y = iF (p ∧ q) x y := by by_cases h : p <;> by_cases h' : q <;> simp [gE, bo, gv, iF, h, h']
theorem gE_gv_f : gE (gv p (bo q)) false x y = iF (p ∧ ¬ q) x y := by by_cases h : p <;> by_cases h' : q <;> simp [gE, bo, gv, iF, h, h']
theorem gE_gt_t : gE (gv p (.bool true)) true x y = iF p x y := by by_cases h : p <;> simp [gE, gv, iF, h]
theorem gE_gt_f : gE (gv p (.bool true)) false x y = y := by by_cases h : p <;> simp [gE, gv, h]
theorem gE_gf_t : gE (gv p (.bool false)) true x y = y := by by_cases h : p <;> simp [gE, gv, h]
theorem gE_gf_f : gE (gv p (.bool false)) false x y = iF p x y := by by_cases h : p <;> simp [gE, gv, iF, h]
end
theorem chk_nil {j : Nat} : checkSeen chk j m [] = true := rfl
theorem chk_cons {j : Nat} {s : Seen} : checkSeen chk j m (s :: se) = ((!hasPair s.i j chk || m.stands s.agg s.a s.v) && checkSeen chk j m se) := by
  simp only [checkSeen]; cases hasPair s.i j chk <;> simp
theorem snap_nil {agg : Option Nat} {a v : EV} : checkSnap chk i agg a v [] = true := rfl
theorem snap_cons {agg : Option Nat} {a v : EV} {j : Nat} {m1 : Mem} : checkSnap chk i agg a v ((j, m1) :: sn) = ((!hasPair i j chk || m1.stands agg a v) && checkSnap chk i agg a v sn) := by
  simp only [checkSnap]; cases hasPair i j chk <;> simp
theorem pair_nil {j : Nat} : hasPair i j [] = false := rfl
theorem pair_cons {j a b : Nat} : hasPair i j ((a, b) :: chk) = ((a == i && b == j) || hasPair i j chk) := by
  simp only [hasPair]
  have e : ∀ x y : Nat, x.beq y = (x == y) := fun x y => by
    by_cases h : x = y
    · subst h; simp
    · rw [beq_ff h]; simp [h]
  rw [e, e]
  cases a == i <;> cases b == j <;> simp
def standE (o : Option EV) (v : EV) : Bool := match o with
  | some x => EV.same x v
  | none => false
theorem stands_eq {agg : Option Nat} {a v : EV} : m.stands agg a v = standE (m.load agg a) v := by simp only [Mem.stands, standE]; cases m.load agg a <;> rfl
theorem standE_self {v : EV} : standE (some v) v = true := same_refl v
end

/-! ### Values of several cells -/
theorem eq_agg {fs : List (Option Nat × Nat × EqTy)} {a b : List EV} : evEq (.agg fs) (.agg a) (.agg b) = evEqs fs a b := rfl
def andO (o r : Option Bool) : Option Bool := match o with
  | some true => r
  | o => o
def eqsE (t : EqTy) (x y : Option EV) (r : Option Bool) : Option Bool := match x, y with
  | some x, some y => andO (evEq t x y) r
  | _, _ => none
theorem eqs_nil {a b : List EV} : evEqs [] a b = some true := rfl
theorem eqs_cons {g : Option Nat} {off : Nat} {t : EqTy} {r : List (Option Nat × Nat × EqTy)} {a b : List EV} : evEqs ((g, off, t) :: r) a b = eqsE t (partOf g a off) (partOf g b off) (evEqs r a b) := by
  simp only [evEqs, eqsE, andO]
  cases partOf g a off <;> cases partOf g b off <;> rfl
theorem eqsE_some {t : EqTy} {x y : EV} {r : Option Bool} : eqsE t (some x) (some y) r = andO (evEq t x y) r := rfl
theorem andO_true {r : Option Bool} : andO (some true) r = r := rfl
theorem andO_false {r : Option Bool} : andO (some false) r = some false := rfl
theorem andO_t {p : Prop} [Decidable p] : andO (some (decide p)) (some true) = some (decide p) := by by_cases h : p <;> simp [andO, h]
theorem andO_f {p : Prop} [Decidable p] : andO (some (decide p)) (some false) = some false := by by_cases h : p <;> simp [andO, h]
theorem andO_dec {p q : Prop} [Decidable p] [Decidable q] : andO (some (decide p)) (some (decide q)) = some (decide (p ∧ q)) := by by_cases h : p <;> by_cases h' : q <;> simp [andO, h, h']
def rcE (o : Option EV) (r : Option (List EV)) : Option (List EV) := match o with
  | some v => r.map (v :: ·)
  | none => none
theorem res_cell {fr : Fr} {m : Mem} {t : Nat} {agg : Option Nat} {rs : List IRes} : evResults fr m (.cell t agg :: rs) = rcE (m.load agg (fr.get t)) (evResults fr m rs) := by
  simp only [evResults, evRes, rcE]; cases m.load agg (fr.get t) <;> rfl
theorem rcE_some {v : EV} {r : Option (List EV)} : rcE (some v) r = r.map (v :: ·) := rfl

theorem eq_pn {b o : Nat} : evEq (.prim 3) (.ptr b o) .nilptr = some false := rfl
theorem eq_np {b o : Nat} : evEq (.prim 3) .nilptr (.ptr b o) = some false := rfl
theorem eq_nn : evEq (.prim 3) .nilptr .nilptr = some true := rfl
theorem eq_sn {b o l : Nat} {c : Option Nat} : evEq (.prim 4) (.slice b o l c) .nilslice = some false := rfl
theorem eq_ns {b o l : Nat} {c : Option Nat} : evEq (.prim 4) .nilslice (.slice b o l c) = some false := rfl
theorem eq_nsns : evEq (.prim 4) .nilslice .nilslice = some true := rfl
/-! ### What a call tells, whatever it leaves behind -/
def Tells (m : Mem) (o : Option Fin) (v : EV) : Prop := ∃ m', o = some (.ret v m') ∧ Keeps m m'
theorem tells_iF {m : Mem} {p : Prop} {x y : Option Fin} {v : EV} (h : p → Tells m x v) (h' : ¬ p → Tells m y v) : Tells m (iF p x y) v := by
  by_cases hp : p
  · rw [iF_pos hp]; exact h hp
  · rw [iF_neg hp]; exact h' hp
theorem tells_ret {m m' : Mem} {v v' : EV} (h : v = v') (hk : Keeps m m') : Tells m (some (.ret v m')) v' := ⟨m', by rw [h], hk⟩
theorem tells_ext {m : Mem} {xs : List Blk} {v v' : EV} (h : v = v') : Tells m (some (.ret v (ext m xs))) v' := ⟨_, by rw [h], keeps_ext⟩
theorem tells_here {m : Mem} {v v' : EV} (h : v = v') : Tells m (some (.ret v m)) v' := ⟨_, by rw [h], keeps_refl⟩
theorem look {T T' : Nat → Option Ent} {f : Nat} [Has T' f (.spec (lookG (lookOf T f)))] {args : List EV} {m : Mem} {v : EV} (h : Tells m (run T f args m) v) (hv : Flat v = true) : run T' f args m = some (.ret v m) := by
  obtain ⟨m', h1, h2⟩ := h
  exact run_look h1 hv h2
theorem bo_iff' {p q : Prop} (h : p ↔ q) : bo p = bo q := by rw [propext h]
theorem tt_bo {p : Prop} (h : p) : EV.bool true = bo p := (bo_pos h).symm
theorem ff_bo {p : Prop} (h : ¬ p) : EV.bool false = bo p := (bo_neg h).symm
theorem flat_bo {p : Prop} : Flat (bo p) = true := rfl
/-- A slice of one element, or of none, made anew. -/
def bsE (e esz : Nat) (m : Mem) (vs : Option (List EV)) : Option R1 := match vs with
  | some vs => bif vs.length.beq esz then some (.val (.slice (nb m.next 0) 0 1 (some 1)) (Ev.ext m [.cells vs esz e false])) else none
  | none => none
theorem bsE_some {e esz : Nat} {m : Mem} {vs : List EV} (h : vs.length = esz) : bsE e esz m (some vs) = some (.val (.slice (nb m.next 0) 0 1 (some 1)) (Ev.ext m [.cells vs esz e false])) := by
  show (bif vs.length.beq esz then _ else _) = _
  rw [h, beq_self]; rfl
theorem evOp_bslice1 {ρ : Opd → EV} {m : Mem} {e esz : Nat} {zero : List EV} {x : Opd} (hz : zero.length = esz) : evOp ρ (.bslice e esz 1 zero [(0, x)]) m = bsE e esz m (ρ x).cells := by
  simp only [evOp, List.map_cons, List.map_nil, fill_cons, Nat.zero_mul]
  have hc : copies 1 zero = zero := by simp [copies]
  rw [hc]
  cases hx : (ρ x).cells with
  | none => rfl
  | some vs =>
    by_cases hl : vs.length = esz
    · rw [bsE_some hl, fillB_some hl (by omega)]
      simp only [fill_nil, List.take_zero, List.nil_append, Nat.zero_add]
      rw [List.drop_eq_nil_of_le (by omega), List.append_nil]; rfl
    · simp only [bsE, fillB, beq_ff hl, cond_false]
theorem evOp_bslice0 {ρ : Opd → EV} {m : Mem} {e esz : Nat} {zero : List EV} : evOp ρ (.bslice e esz 0 zero []) m = some (.val (.slice (nb m.next 0) 0 0 (some 0)) (Ev.ext m [.cells [] esz e false])) := by
  simp only [evOp, List.map_nil, fill_nil, copies, List.replicate_zero, List.flatten_nil]; rfl
end Go.Proofs.Ythlbifjgnhdonaa.Ev
