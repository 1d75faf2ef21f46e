/- PLex, PTree, PExpr, PExpr2, EvTab, EvCore, EvRun, EvComp, EvRel, EvMem, EvGlo, EvGl, EvOpA, EvOpB, EvOpC, EvOpD, EvOpE. -/
import GoSem.Dispatch
import Derived.Calls
import Derived.Laws.Sem
import Derived.Laws.World
import Derived.Laws.Entries
import Derived.KernelRfl
set_option linter.unusedSimpArgs false
set_option linter.unusedVariables false
set_option linter.unusedSectionVars false
set_option linter.defProp false
set_option maxRecDepth 20000
set_option maxHeartbeats 8000000
namespace Go.Proofs.YtdiccmapankckaaDoor.Ev
open Go
abbrev bf := @Option.some.injEq
abbrev j8 := @Option.map_eq_some_iff
abbrev nc := @List.getElem?_eq_getElem
abbrev eO := @Prod.mk.injEq
abbrev uz := @List.getElem?_eq_some_iff
abbrev jz := @List.length_append
abbrev fy := @Nat.le_refl
abbrev mn := @Nat.lt_of_lt_of_le
abbrev qS := @Nat.le_of_ble_eq_true
abbrev ml := @Nat.zero_le
abbrev re := @Bool.false_eq_true
abbrev pI := @Bool.and_eq_true
abbrev pH := @Option.some.inj
abbrev Gb := @Classical.byContradiction
abbrev BC := @List.getElem?_append_left
abbrev FA := @List.getElem?_append_right
abbrev As := @List.mem_cons_of_mem
abbrev uy := @List.length_drop
abbrev DL := @List.mem_singleton
abbrev oU := @List.mem_cons
abbrev pN := @Nat.le_trans
abbrev PX := @List.take_of_length_le
abbrev yb := @List.mem_append
abbrev Mv := @List.getElem_mem
abbrev Be := @Nat.ble_eq_true_of_le
section
def bX (n : Int) : Prop := (97 <= n /\ n <= 122 \/ 65 <= n /\ n <= 90) \/ n = 95
def aN (n : Int) : Prop := 48 <= n /\ n <= 57
def cZ (n : Int) : Prop := ((n = 32 \/ n = 9) \/ n = 10) \/ n = 13
instance (n : Int) : Decidable (bX n) := by unfold bX; infer_instance
instance (n : Int) : Decidable (aN n) := by unfold aN; infer_instance
instance (n : Int) : Decidable (cZ n) := by unfold cZ; infer_instance
abbrev bK := List UInt8
abbrev cI (c : UInt8) : Int := (c.toNat : Int)
def iw : List bK := [[102, 110], [118, 97, 114], [105, 102], [101, 108, 115, 101], [119, 104, 105, 108, 101], [102, 111, 114], [98, 114, 101, 97, 107], [99, 111, 110, 116, 105, 110, 117, 101], [114, 101, 116, 117, 114, 110], [112, 114, 105, 110, 116], [108, 101, 110], [110, 101, 119], [116, 114, 117, 101], [102, 97, 108, 115, 101], [110, 105, 108], [105, 110, 116], [98, 111, 111, 108], [97, 114, 114]]
def xB : List bK := [[124, 124], [38, 38], [61, 61], [33, 61], [60, 61], [62, 61], [43, 37], [45, 37], [42, 37]]
def OJ : bK := [60, 62, 43, 45, 42, 47, 37, 33, 61, 40, 41, 123, 125, 91, 93, 44, 59]
def bA : Bool -> bK -> Nat
 | _, [] => 0
 | r, c :: s => let r1 := if cI c = 10 then false else if cI c = 35 then true else r
  if r1 = false /\ ¬ cZ (cI c) then 0 else 1 + bA r1 s
def qV : Nat -> bK -> Option Nat
 | n, [] => some n
 | n, c :: s => if 922337203685477580 < n \/ n = 922337203685477580 /\ 7 < c.toNat - 48 then none else qV (10 * n + (c.toNat - 48)) s
def eC (s : bK) : Nat := if 2 <= s.length /\ s.take 2 ∈ xB then 2 else if ∃ c ∈ OJ, s[0]? = some c then 1 else 0
def lead (p : Int -> Prop) [DecidablePred p] : bK -> Nat
 | [] => 0
 | c :: s => if p (cI c) then 1 + lead p s else 0
def rE (s : bK) : Prop := (∀ (i : Nat) (c : UInt8), s[i]? = some c -> bX (cI c) \/ i ≠ 0 /\ aN (cI c)) /\ 0 < s.length /\ s.length <= 32 /\ s ∉ iw
def bG : bK -> Nat
 | [] => 0
 | c :: s => if bX (cI c) then 1 + lead (fun n => bX n \/ aN n) s else 0
structure Tok where
 kind : Nat
 text : bK
 n : Nat
 pos : Nat
deriving DecidableEq
inductive Ar (α : Type) where
 | ok (a : α)
 | bad (e p : Nat)
def Ar.map {α β : Type} (f : α -> β) : Ar α -> Ar β
 | .ok a => .ok (f a)
 | .bad e p => .bad e p
def Ar.bind {α β : Type} (x : Ar α) (f : α -> Ar β) : Ar β := match x with
 | .ok a => f a
 | .bad e p => .bad e p
def BJ (k : bK) (p : Nat) : Ar Tok := match qV 0 k with
 | some n => .ok ⟨2, k, n, p⟩
 | none => .bad 7 p
def ki (s : bK) (p : Nat) : Ar Tok :=
 if ∃ c ∈ s[0]?, aN (cI c) then
  BJ (s.take (lead aN s)) p
 else
  let k := bG s
  if 0 < k /\ s.take k ∈ iw then .ok ⟨3, s.take k, 0, p⟩
  else if 32 < k then .bad 3 p
  else if 0 < k then .ok ⟨1, s.take k, 0, p⟩
  else if eC s = 0 then .bad 6 p
  else .ok ⟨4, s.take (eC s), 0, p⟩
def fD : Nat -> bK -> Nat -> Ar (List Tok)
 | 0, _, p => .bad 0 p
 | _ + 1, [], _ => .ok []
 | k + 1, s, p => match ki s p with
  | .bad e q => .bad e q
  | .ok t =>
   let r := s.drop t.text.length
   let j := bA false r
   (fD k (r.drop j) (p + t.text.length + j)).map (t :: ·)
def ta (s : bK) : Ar (List Tok) :=
 if 65536 < s.length then .bad 3 0
 else (fD (s.length + 1) (s.drop (bA false s)) (bA false s)).map (· ++ [⟨0, [], 0, s.length⟩])
end
section
structure Nd where
 kind : Int
 kids : List Int
 nl : Bool
 n : Int
 s : bK
 pos : Int
def nD (k : Int) : Prop := 1 <= k /\ k <= 11
def j9 (k : Int) : Prop := 12 <= k /\ k <= 22
def kindOf (l : List Nd) (x : Int) : Int := ((l[x.toNat]?).map Nd.kind).getD 0
def Lq : List Int := [4, 11, 12, 13, 14, 17, 24, 25]
def Jf (d : Nd) : Prop :=
 ¬ (((d.kind < 1 \/ 26 < d.kind) \/ d.pos < 0) \/ ¬ (d.kind ∈ Lq ↔ d.s ≠ [])) /\ ¬ (d.s ≠ [] /\ ¬ rE d.s) /\
 (if d.kind = 1 then 0 <= d.n else if d.kind = 2 then d.n = 0 \/ d.n = 1 else if d.kind = 5 then 1 <= d.n /\ d.n <= 16 else if d.kind = 24 \/ d.kind = 25 then 1 <= d.n /\ d.n <= 3 else d.n = 0)
def kW (l : List Nd) (k : List Int) (n : Nat) : Prop := n <= k.length /\ ∀ x ∈ k.take n, nD (kindOf l x)
def BS (l : List Nd) (k : List Int) (kind : Int) (nu : Nat) : Prop := (∀ x ∈ k, kindOf l x = kind) /\ k.length <= nu
def gJ (l : List Nd) (d : Nd) : Prop :=
 if d.kind = 5 \/ d.kind = 8 \/ d.kind = 14 then d.kids.length = 2 /\ kW l d.kids 2
 else if d.kind = 6 \/ d.kind = 7 \/ d.kind = 9 \/ d.kind = 10 \/ d.kind = 12 \/ d.kind = 13 \/ d.kind = 20 \/ d.kind = 21 then d.kids.length = 1 /\ kW l d.kids 1
 else if d.kind = 11 then d.kids.length <= 8 /\ kW l d.kids d.kids.length
 else if d.kind = 15 then (kW l d.kids 1 /\ 2 <= d.kids.length) /\ BS l (d.kids.drop 1) 23 2
 else if d.kind = 16 then (kW l d.kids 1 /\ d.kids.length = 2) /\ BS l (d.kids.drop 1) 23 1
 else if d.kind = 17 then (kW l d.kids 2 /\ d.kids.length = 3) /\ BS l (d.kids.drop 2) 23 1
 else if d.kind = 22 then d.kids.length = 1 /\ ∀ x ∈ d.kids, kindOf l x = 11
 else if d.kind = 23 then ∀ x ∈ d.kids, j9 (kindOf l x)
 else if d.kind = 25 then (1 <= d.kids.length /\ BS l (d.kids.take (d.kids.length - 1)) 24 8) /\ ∀ x ∈ d.kids.getLast?, kindOf l x = 23
 else if d.kind = 26 then BS l d.kids 25 200
 else d.kids.length = 0
def u4 (l : List Nd) : Nat -> Nat -> Nat
 | 0, _ => 1
 | f + 1, i => match l[i]? with
  | none => 1
  | some d => d.kids.foldl (fun h x => max h (1 + u4 l f x.toNat)) 1
def ui (l : List Nd) (i : Nat) : Nat := u4 l (i + 1) i
def tf (l : List Nd) : Prop := ∀ (i : Nat) (d : Nd), l[i]? = some d -> ∀ x ∈ d.kids, 0 <= x /\ x < (i : Int)
def oW (l : List Nd) : List Int := (l.map Nd.kids).flatten
def U0 (l : List Nd) : Prop :=
 (tf l /\ (oW l).Nodup /\ ∀ d ∈ l, Jf d /\ gJ l d) /\ 0 < l.length /\ (oW l).length = l.length - 1 /\ ui l (l.length - 1) <= 200
end
section
structure RS where
 pos : Nat
 deep : Int
 tree : List Nd
 high : List Nat
 fe : Int
 fp : Int
def RS.now (st : RS) (l : List Tok) : Tok := l.getD (min st.pos (l.length - 1)) ⟨0, [], 0, 0⟩
def RS.is (st : RS) (l : List Tok) (s : bK) : Prop := st.fe = 0 /\ 3 <= (st.now l).kind /\ (st.now l).text = s
instance (st : RS) (l : List Tok) (s : bK) : Decidable (st.is l s) := inferInstanceAs (Decidable (_ /\ _ /\ _))
def RS.fail (st : RS) (e p : Int) : RS := if st.fe = 0 then { st with fe := e, fp := p } else st
def RS.next (st : RS) : RS := { st with pos := st.pos + 1 }
def RS.skip (st : RS) (l : List Tok) (s : bK) : RS := if st.is l s then st.next else st
def RS.want (st : RS) (l : List Tok) (s : bK) : RS := if st.is l s then st.next else st.fail 8 (st.now l).pos
def RS.open (st : RS) (p : Int) : RS := if 200 < st.deep + 1 then ({ st with deep := st.deep + 1 } : RS).fail 4 p else { st with deep := st.deep + 1 }
def RS.close (st : RS) : RS := { st with deep := st.deep - 1 }
def Nj (H : List Nat) (h : Nat) (x : Int) : Nat := if 0 <= x /\ x < (H.length : Int) then max h (H.getD x.toNat 0 + 1) else h
def nA (H : List Nat) (ks : List Int) : Nat := ks.foldl (Nj H) 1
def RS.nM (st : RS) (d : Nd) : RS := if 200 < nA st.high d.kids then st.fail 4 d.pos else st
def RS.put (st : RS) (d : Nd) : RS := if (st.nM d).fe = 0 then { st.nM d with tree := st.tree ++ [d], high := st.high ++ [nA st.high d.kids] } else st.nM d
def RS.fV (st : RS) (d : Nd) : Int := if (st.nM d).fe = 0 then (st.tree.length : Int) else -1
def mv (s : bK) : Int × Int :=
 if s = [124, 124] then (1, 1) else if s = [38, 38] then (2, 2) else if s = [61, 61] then (3, 3) else if s = [33, 61] then (3, 4)
 else if s = [60] then (3, 5) else if s = [60, 61] then (3, 6) else if s = [62] then (3, 7) else if s = [62, 61] then (3, 8)
 else if s = [43] then (4, 9) else if s = [45] then (4, 10) else if s = [43, 37] then (4, 11) else if s = [45, 37] then (4, 12)
 else if s = [42] then (5, 13) else if s = [47] then (5, 14) else if s = [37] then (5, 15) else if s = [42, 37] then (5, 16) else (0, 0)
inductive gP where
 | expr
 | ll (least : Int)
 | ko (least nu left : Int)
 | front
 | atom
 | lW (left : Int)
 | inner (from_ to : bK)
 | args
 | lm (out : List Int)
def nd (kind : Int) (kids : List Int) (n : Int) (s : bK) (p : Int) : Nd := ⟨kind, kids, kids.isEmpty, n, s, p⟩
def gF (l : List Tok) : Nat -> gP -> RS -> Option (RS × List Int)
 | 0, _, _ => none
 | k + 1, .expr, st => (gF l k (.ll 1) st).bind fun (s1, r) => some (s1, if s1.fe = 0 then r else [-1])
 | k + 1, .ll least, st => (gF l k .front st).bind fun (s1, r) => gF l k (.ko least 6 (r.headD 0)) s1
 | k + 1, .ko least nu left, st =>
  let t := st.now l
  let o := mv t.text
  if st.fe = 0 /\ ¬ (((t.kind ≠ 4 \/ o.2 = 0) \/ o.1 < least) \/ nu < o.1) then
   (gF l k (.ll (o.1 + 1)) st.next).bind fun (s1, r) =>
    gF l k (.ko least (if o.1 = 3 then o.1 - 1 else o.1) (s1.fV (nd 5 [left, r.headD 0] o.2 [] t.pos))) (s1.put (nd 5 [left, r.headD 0] o.2 [] t.pos))
  else some (st, [left])
 | k + 1, .front, st =>
  let p : Int := (st.now l).pos
  let one := fun (kind : Int) =>
   if (st.next.open p).fe = 0 then
    (gF l k .front (st.next.open p)).bind fun (s1, r) => some (s1.close.put (nd kind r 0 [] p), [s1.close.fV (nd kind r 0 [] p)])
   else some (st.next.open p, [-1])
  if st.is l [45] then one 6
  else if st.is l [33] then one 7
  else (gF l k .atom st).bind fun (s1, r) => gF l k (.lW (r.headD 0)) s1
 | k + 1, .atom, st =>
  let t := st.now l
  let p : Int := t.pos
  let lay := fun (s : RS) (d : Nd) => some (s.put d, [s.fV d])
  if ¬ st.fe = 0 then some (st, [-1])
  else if st.is l [40] then gF l k (.inner [40] [41]) st
  else if t.kind = 2 then lay st.next (nd 1 [] t.n [] p)
  else if t.kind = 1 then
   if st.next.is l [40] then (gF l k .args st.next).bind fun (s1, r) => lay s1 (nd 11 r 0 t.text p)
   else lay st.next (nd 4 [] 0 t.text p)
  else if st.is l [116, 114, 117, 101] then lay st.next (nd 2 [] 1 [] p)
  else if st.is l [102, 97, 108, 115, 101] then lay st.next (nd 2 [] 0 [] p)
  else if st.is l [110, 105, 108] then lay st.next (nd 3 [] 0 [] p)
  else if st.is l [108, 101, 110] then (gF l k (.inner [40] [41]) st.next).bind fun (s1, r) => lay s1 (nd 9 r 0 [] p)
  else if st.is l [110, 101, 119] then (gF l k (.inner [40] [41]) st.next).bind fun (s1, r) => lay s1 (nd 10 r 0 [] p)
  else some (st.fail 8 p, [-1])
 | k + 1, .lW left, st =>
  if st.is l [91] then
   (gF l k (.inner [91] [93]) st).bind fun (s1, r) =>
    gF l k (.lW (s1.fV (nd 8 (left :: r) 0 [] (st.now l).pos))) (s1.put (nd 8 (left :: r) 0 [] (st.now l).pos))
  else some (st, [left])
 | k + 1, .inner a z, st =>
  if st.is l a then
   if (st.next.open (st.now l).pos).fe = 0 then
    (gF l k .expr (st.next.open (st.now l).pos)).bind fun (s1, r) => some ((s1.want l z).close, if (s1.want l z).fe = 0 then r else [-1])
   else some (st.next.open (st.now l).pos, [-1])
  else some (st.fail 8 (st.now l).pos, [-1])
 | k + 1, .args, st =>
  if st.is l [40] then
   if (st.next.open (st.now l).pos).fe = 0 then
    (if (st.next.open (st.now l).pos).is l [41] then some (st.next.open (st.now l).pos, []) else gF l k (.lm []) (st.next.open (st.now l).pos)).bind fun (s1, r) => some ((s1.want l [41]).close, r)
   else some (st.next.open (st.now l).pos, [])
  else some (st.fail 8 (st.now l).pos, [])
 | k + 1, .lm out, st =>
  let s0 := if out.length = 8 then st.fail 3 (st.now l).pos else st
  (gF l k .expr s0).bind fun (s1, r) =>
   if s1.is l [44] then gF l k (.lm (out ++ r)) s1.next else some (s1, out ++ r)
end
section
def gP.bi : gP -> Nat
 | .expr => 4 | .ll _ => 3 | .ko _ _ _ => 0 | .front => 2 | .atom => 1 | .lW _ => 1 | .inner _ _ => 0 | .args => 0 | .lm _ => 5
structure bS (l : List Tok) : Prop where
 pos : 0 < l.length
 lt : l.length < 1000000
 last : (l.getD (l.length - 1) ⟨0, [], 0, 0⟩).kind = 0
structure eA (l : List Tok) (st : RS) : Prop where
 p : st.pos < l.length
 t : st.tree.length <= st.pos
 d : st.deep <= (st.pos : Int)
 d0 : 0 <= st.deep
 h : ∀ x ∈ st.high, x <= 200
structure Gr (l : List Tok) (st s1 : RS) : Prop where
 p : st.pos <= s1.pos
 pl : s1.pos < l.length
 t : s1.tree.length + st.pos <= st.tree.length + s1.pos
 d : s1.deep + (st.pos : Int) <= st.deep + (s1.pos : Int)
 d0 : st.deep <= s1.deep
 f : s1.fe = 0 -> st.fe = 0
 h : (∀ x ∈ st.high, x <= 200) -> ∀ x ∈ s1.high, x <= 200
theorem Gr.refl {l : List Tok} {st : RS} (h : st.pos < l.length) : Gr l st st := ⟨fy _, h, fy _, Int.le_refl _, Int.le_refl _, id, id⟩
theorem Gr.trans {l : List Tok} {a b c : RS} (h : Gr l a b) (h' : Gr l b c) : Gr l a c :=
 ⟨pN h.p h'.p, h'.pl, by have := h.t; have := h'.t; omega, by have := h.d; have := h'.d; omega, by have := h.d0; have := h'.d0; omega, fun q => h.f (h'.f q), fun q => h'.h (h.h q)⟩
theorem Gr.ok {l : List Tok} {a b : RS} (h : Gr l a b) (o : eA l a) : eA l b :=
 ⟨h.pl, by have := h.t; have := o.t; omega, by have := h.d; have := o.d; omega, by have := h.d0; have := o.d0; omega, h.h o.h⟩
section
variable {l : List Tok} {st s1 : RS}
theorem qg (ht : bS l) (hp : st.pos < l.length) (hk : (st.now l).kind ≠ 0) : st.pos + 1 < l.length := by
 refine Gb fun q => hk ?_
 have : min st.pos (l.length - 1) = l.length - 1 := by omega
 unfold RS.now; rw [this]; exact ht.last
theorem is_lt (ht : bS l) (hp : st.pos < l.length) {s : bK} (h : st.is l s) : st.pos + 1 < l.length := qg ht hp (by have := h.2.1; omega)
theorem Gr.next (h : st.pos + 1 < l.length) : Gr l st st.next := ⟨Nat.le_succ _, h, by simp only [RS.next]; omega, by simp only [RS.next]; omega, Int.le_refl _, id, id⟩
theorem Gr.fail (h : st.pos < l.length) {e p : Int} (he : e ≠ 0) : Gr l st (st.fail e p) := by
 unfold RS.fail; split
 ·exact ⟨fy _, h, fy _, Int.le_refl _, Int.le_refl _, fun q => absurd q he, id⟩
 ·exact .refl h
theorem ej {e p : Int} (he : e ≠ 0) : (st.fail e p).fe ≠ 0 := by
 unfold RS.fail; split
 ·exact he
 ·assumption
theorem c6 {e p : Int} : (st.fail e p).pos = st.pos /\ (st.fail e p).deep = st.deep /\ (st.fail e p).tree = st.tree /\ (st.fail e p).high = st.high := by
 unfold RS.fail; split <;> exact ⟨rfl, rfl, rfl, rfl⟩
theorem Gr.open (h : st.pos + 1 < l.length) {p : Int} : Gr l st (st.next.open p) := by
 unfold RS.open
 split
 ·obtain ⟨a1, a2, a3, a4⟩ := c6 (st := { st.next with deep := st.next.deep + 1 }) (e := 4) (p := p)
  exact ⟨by rw [a1]; exact Nat.le_succ _, by rw [a1]; exact h, by rw [a1, a3]; simp only [RS.next]; omega, by rw [a1, a2]; simp only [RS.next]; omega, by rw [a2]; simp only [RS.next]; omega, fun q => absurd q (ej (by decide)), fun q => by rw [a4]; exact q⟩
 ·exact ⟨Nat.le_succ _, h, by simp only [RS.next]; omega, by simp only [RS.next]; omega, by simp only [RS.next]; omega, id, id⟩
theorem lE {p : Int} : (st.open p).pos = st.pos /\ (st.open p).deep = st.deep + 1 /\ (st.open p).tree = st.tree := by
 unfold RS.open
 split
 ·obtain ⟨a1, a2, a3, a4⟩ := c6 (st := { st with deep := st.deep + 1 }) (e := 4) (p := p)
  exact ⟨a1, a2, a3⟩
 ·exact ⟨rfl, rfl, rfl⟩
theorem Gr.put (h : Gr l st s1) (h1 : s1.tree.length + st.pos + 1 <= st.tree.length + s1.pos) {d : Nd} : Gr l st (s1.put d) := by
 unfold RS.put RS.nM;by_cases h2 : 200 < nA s1.high d.kids
 ·rw [if_pos h2, if_neg (ej (by decide))]
  exact h.trans (.fail h.pl (by decide))
 ·rw [if_neg h2]
  split
  ·refine ⟨h.p, h.pl, by simp only [jz, List.length_singleton]; omega, h.d, h.d0, h.f, fun q x hx => ?_⟩
   rcases yb.1 hx with hx | hx
   ·exact h.h q x hx
   ·rw [DL.1 hx]; omega
  ·exact h
theorem Gr.close (h : Gr l st s1) (h1 : st.deep + 1 <= s1.deep) : Gr l st s1.close := ⟨h.p, h.pl, h.t, by have := h.d; simp only [RS.close]; omega, by simp only [RS.close]; omega, h.f, h.h⟩
theorem Gr.want (ht : bS l) (h : st.pos < l.length) {s : bK} : Gr l st (st.want l s) := by
 unfold RS.want; split
 ·rename_i q; exact .next (is_lt ht h q)
 ·exact .fail h (by decide)
theorem rh {s : bK} : (st.want l s).deep = st.deep /\ (st.want l s).tree = st.tree := by
 unfold RS.want; split
 ·exact ⟨rfl, rfl⟩
 ·exact ⟨c6.2.1, c6.2.2.1⟩
def gP.TT : gP -> List Int -> Prop
 | .args, r => r.length <= 9
 | .lm _, r => r.length <= 9
 | _, r => r.length = 1
def gP.may : gP -> Prop
 | .lm out => out.length <= 8
 | _ => True
def gP.more (l : List Tok) (st s1 : RS) : gP -> Prop
 | .inner a _ => st.is l a -> st.pos < s1.pos /\ s1.tree.length + st.pos + 1 <= st.tree.length + s1.pos
 | _ => True
end
theorem go_ok {l : List Tok} (ht : bS l) : ∀ (k : Nat) (c : gP) (st : RS), st.pos < l.length -> 8 * (l.length - st.pos) + c.bi < k -> c.may -> ∃ s1 r, gF l k c st = some (s1, r) /\ Gr l st s1 /\ c.TT r /\ c.more l st s1 := by
 intro k
 induction k with
 | zero => intro c st hp hk; omega
 | succ k ih =>
  intro c st hp hk hm
  cases c with
  | expr =>
   obtain ⟨s1, r, e, g, a, _⟩ := ih (.ll 1) st hp (by simp only [gP.bi] at *; omega) trivial
   refine ⟨_, _, by simp only [gF, e, Option.bind_some]; rfl, g, ?_, trivial⟩
   simp only [gP.TT] at *
   split
   ·exact a
   ·rfl
  | ll least =>
   obtain ⟨s1, r, e, g, a, _⟩ := ih .front st hp (by simp only [gP.bi] at *; omega) trivial
   obtain ⟨s2, r2, e2, g2, a2, _⟩ := ih (.ko least 6 (r.headD 0)) s1 g.pl (by have := g.p; simp only [gP.bi] at *; omega) trivial
   exact ⟨_, _, by simp only [gF, e, e2, Option.bind_some], g.trans g2, a2, trivial⟩
  | ko least nu left =>
   simp only [gF];by_cases hc : st.fe = 0 /\ ¬ ((((st.now l).kind ≠ 4 \/ (mv (st.now l).text).2 = 0) \/ (mv (st.now l).text).1 < least) \/ nu < (mv (st.now l).text).1)
   ·rw [if_pos hc]
    have hn := qg ht hp (by have := hc.2; omega)
    have gn := Gr.next hn
    obtain ⟨s1, r, e, g, a, _⟩ := ih (.ll ((mv (st.now l).text).1 + 1)) st.next hn (by simp only [gP.bi, RS.next] at *; omega) trivial
    have g1 := gn.trans g
    have g2 := g1.put (by have := g.t; simp only [RS.next] at this; omega) (d := nd 5 [left, r.headD 0] (mv (st.now l).text).2 [] (st.now l).pos)
    obtain ⟨s2, r2, e2, g3, a2, _⟩ := ih (.ko least (if (mv (st.now l).text).1 = 3 then (mv (st.now l).text).1 - 1 else (mv (st.now l).text).1) (s1.fV (nd 5 [left, r.headD 0] (mv (st.now l).text).2 [] (st.now l).pos))) (s1.put (nd 5 [left, r.headD 0] (mv (st.now l).text).2 [] (st.now l).pos)) g2.pl (by have := g2.p; have := g.p; have hq : (s1.put (nd 5 [left, r.headD 0] (mv (st.now l).text).2 [] (st.now l).pos)).pos = s1.pos := (by unfold RS.put RS.nM; split <;> split <;> first | rfl | exact c6.1); simp only [gP.bi, RS.next] at *; omega) trivial
    exact ⟨_, _, by simp only [e, e2, Option.bind_some], g2.trans g3, a2, trivial⟩
   ·rw [if_neg hc]
    exact ⟨_, _, rfl, .refl hp, rfl, trivial⟩
  | front =>
   simp only [gF];have one : ∀ (s : bK) (kind : Int), st.is l s -> ∃ s1 r, (if (st.next.open (st.now l).pos).fe = 0 then (gF l k .front (st.next.open (st.now l).pos)).bind fun (s1, r) => some (s1.close.put (nd kind r 0 [] (st.now l).pos), [s1.close.fV (nd kind r 0 [] (st.now l).pos)]) else some (st.next.open (st.now l).pos, [-1])) = some (s1, r) /\ Gr l st s1 /\ gP.front.TT r /\ gP.front.more l st s1 := by
    intro s kind hs
    have hn := is_lt ht hp hs
    have go := Gr.open hn (p := ((st.now l).pos : Int))
    obtain ⟨o1, o2, o3⟩ := lE (st := st.next) (p := ((st.now l).pos : Int))
    split
    ·obtain ⟨s1, r, e, g, a, _⟩ := ih .front (st.next.open (st.now l).pos) go.pl (by rw [o1]; simp only [gP.bi, RS.next] at *; omega) trivial
     have g1 := (go.trans g).close (by have := g.d0; rw [o2] at this; simp only [RS.next] at this; exact this)
     refine ⟨_, _, by simp only [e, Option.bind_some]; rfl, g1.put ?_, by rfl, trivial⟩
     have := g.t; rw [o1, o3] at this; simp only [RS.next, RS.close] at *; omega
    ·exact ⟨_, _, rfl, go, rfl, trivial⟩
   by_cases h1 : st.is l [45]
   ·rw [if_pos h1]; exact one _ _ h1
   ·rw [if_neg h1]
    by_cases h2 : st.is l [33]
    ·rw [if_pos h2]; exact one _ _ h2
    ·rw [if_neg h2]
     obtain ⟨s1, r, e, g, a, _⟩ := ih .atom st hp (by simp only [gP.bi] at *; omega) trivial
     obtain ⟨s2, r2, e2, g2, a2, _⟩ := ih (.lW (r.headD 0)) s1 g.pl (by have := g.p; simp only [gP.bi] at *; omega) trivial
     exact ⟨_, _, by simp only [e, e2, Option.bind_some], g.trans g2, a2, trivial⟩
  | atom =>
   simp only [gF];have lay : ∀ d : Nd, st.pos + 1 < l.length -> Gr l st (st.next.put d) := fun d hn => (Gr.next hn).put (by simp only [RS.next]; omega)
   by_cases h0 : st.fe = 0
   ·rw [if_neg (not_not_intro h0)]
    by_cases h1 : st.is l [40]
    ·rw [if_pos h1]
     obtain ⟨s1, r, e, g, a, _⟩ := ih (.inner [40] [41]) st hp (by simp only [gP.bi] at *; omega) trivial
     exact ⟨_, _, e, g, a, trivial⟩
    ·rw [if_neg h1]
     by_cases h2 : (st.now l).kind = 2
     ·rw [if_pos h2]; exact ⟨_, _, rfl, lay _ (qg ht hp (by omega)), rfl, trivial⟩
     ·rw [if_neg h2]
      by_cases h3 : (st.now l).kind = 1
      ·rw [if_pos h3]
       have hn := qg ht hp (by omega)
       by_cases h4 : st.next.is l [40]
       ·rw [if_pos h4]
        obtain ⟨s1, r, e, g, a, _⟩ := ih .args st.next hn (by simp only [gP.bi, RS.next] at *; omega) trivial
        refine ⟨_, _, by simp only [e, Option.bind_some]; rfl, ((Gr.next hn).trans g).put ?_, by rfl, trivial⟩
        have := g.t; simp only [RS.next] at this; omega
       ·rw [if_neg h4]; exact ⟨_, _, rfl, lay _ hn, rfl, trivial⟩
      ·rw [if_neg h3]
       by_cases h5 : st.is l [116, 114, 117, 101]
       ·rw [if_pos h5]; exact ⟨_, _, rfl, lay _ (is_lt ht hp h5), rfl, trivial⟩
       ·rw [if_neg h5]
        by_cases h6 : st.is l [102, 97, 108, 115, 101]
        ·rw [if_pos h6]; exact ⟨_, _, rfl, lay _ (is_lt ht hp h6), rfl, trivial⟩
        ·rw [if_neg h6]
         by_cases h7 : st.is l [110, 105, 108]
         ·rw [if_pos h7]; exact ⟨_, _, rfl, lay _ (is_lt ht hp h7), rfl, trivial⟩
         ·rw [if_neg h7]
          have Xy : ∀ (s : bK) (f : List Int -> Nd), st.is l s -> ∃ s1 r, ((gF l k (.inner [40] [41]) st.next).bind fun (s1, r) => some (s1.put (f r), [s1.fV (f r)])) = some (s1, r) /\ Gr l st s1 /\ gP.atom.TT r /\ gP.atom.more l st s1 := by
           intro s f hs
           have hn := is_lt ht hp hs
           obtain ⟨s1, r, e, g, a, _⟩ := ih (.inner [40] [41]) st.next hn (by simp only [gP.bi, RS.next] at *; omega) trivial
           refine ⟨_, _, by simp only [e, Option.bind_some]; rfl, ((Gr.next hn).trans g).put ?_, by rfl, trivial⟩
           have := g.t; simp only [RS.next] at this; omega
          by_cases h8 : st.is l [108, 101, 110]
          ·rw [if_pos h8]; exact Xy _ (fun r => nd 9 r 0 [] (st.now l).pos) h8
          ·rw [if_neg h8]
           by_cases h9 : st.is l [110, 101, 119]
           ·rw [if_pos h9]; exact Xy _ (fun r => nd 10 r 0 [] (st.now l).pos) h9
           ·rw [if_neg h9]
            exact ⟨_, _, rfl, .fail hp (by decide), rfl, trivial⟩
   ·rw [if_pos h0]
    exact ⟨_, _, rfl, .refl hp, rfl, trivial⟩
  | lW left =>
   simp only [gF];by_cases h1 : st.is l [91]
   ·rw [if_pos h1]
    obtain ⟨s1, r, e, g, a, mo⟩ := ih (.inner [91] [93]) st hp (by simp only [gP.bi] at *; omega) trivial
    obtain ⟨m1, m2⟩ := mo h1
    have g1 := g.put (by omega) (d := nd 8 (left :: r) 0 [] (st.now l).pos)
    obtain ⟨s2, r2, e2, g2, a2, _⟩ := ih (.lW (s1.fV (nd 8 (left :: r) 0 [] (st.now l).pos))) (s1.put (nd 8 (left :: r) 0 [] (st.now l).pos)) g1.pl (by have hq : (s1.put (nd 8 (left :: r) 0 [] (st.now l).pos)).pos = s1.pos := (by unfold RS.put RS.nM; split <;> split <;> first | rfl | exact c6.1); simp only [gP.bi] at *; omega) trivial
    exact ⟨_, _, by simp only [e, e2, Option.bind_some], g1.trans g2, a2, trivial⟩
   ·rw [if_neg h1]
    exact ⟨_, _, rfl, .refl hp, rfl, trivial⟩
  | inner a z =>
   simp only [gF];by_cases h1 : st.is l a
   ·rw [if_pos h1]
    have hn := is_lt ht hp h1
    have go := Gr.open hn (p := ((st.now l).pos : Int))
    obtain ⟨o1, o2, o3⟩ := lE (st := st.next) (p := ((st.now l).pos : Int))
    split
    ·obtain ⟨s1, r, e, g, ar, _⟩ := ih .expr (st.next.open (st.now l).pos) go.pl (by rw [o1]; simp only [gP.bi, RS.next] at *; omega) trivial
     have gw := Gr.want ht g.pl (s := z)
     obtain ⟨w1, w2⟩ := rh (st := s1) (l := l) (s := z)
     have g1 := ((go.trans g).trans gw).close (by have := g.d0; rw [o2] at this; rw [w1]; simp only [RS.next] at this; exact this)
     refine ⟨_, _, by simp only [e, Option.bind_some]; rfl, g1, ?_, fun _ => ?_⟩
     ·simp only [gP.TT] at *
      split
      ·exact ar
      ·rfl
     ·have h3 := g.t; have h4 := g.p; have h5 := gw.p
      rw [o1, o3] at h3; rw [o1] at h4; simp only [RS.next, RS.close] at *
      rw [w2]; omega
    ·refine ⟨_, _, rfl, go, rfl, fun _ => ?_⟩
     rw [o1, o3]; simp only [RS.next]; omega
   ·rw [if_neg h1]
    exact ⟨_, _, rfl, .fail hp (by decide), rfl, fun q => absurd q h1⟩
  | args =>
   simp only [gF];by_cases h1 : st.is l [40]
   ·rw [if_pos h1]
    have hn := is_lt ht hp h1
    have go := Gr.open hn (p := ((st.now l).pos : Int))
    obtain ⟨o1, o2, o3⟩ := lE (st := st.next) (p := ((st.now l).pos : Int))
    have fin : ∀ (s1 : RS), Gr l (st.next.open (st.now l).pos) s1 -> Gr l st (s1.want l [41]).close := by
     intro s1 g
     have gw := Gr.want ht g.pl (s := [41])
     obtain ⟨w1, w2⟩ := rh (st := s1) (l := l) (s := [41])
     exact ((go.trans g).trans gw).close (by have := g.d0; rw [o2] at this; rw [w1]; simp only [RS.next] at this; exact this)
    split
    ·by_cases h2 : (st.next.open (st.now l).pos).is l [41]
     ·rw [if_pos h2]
      exact ⟨_, _, rfl, fin _ (.refl go.pl), ml _, trivial⟩
     ·rw [if_neg h2]
      obtain ⟨s1, r, e, g, a, _⟩ := ih (.lm []) (st.next.open (st.now l).pos) go.pl (by rw [o1]; simp only [gP.bi, RS.next] at *; omega) (ml _)
      exact ⟨_, _, by simp only [e, Option.bind_some], fin _ g, a, trivial⟩
    ·exact ⟨_, _, rfl, go, ml _, trivial⟩
   ·rw [if_neg h1]
    exact ⟨_, _, rfl, .fail hp (by decide), ml _, trivial⟩
  | lm out =>
   simp only [gF];have hm : out.length <= 8 := hm
   have g0 : Gr l st (if out.length = 8 then st.fail 3 (st.now l).pos else st) := by
    split
    ·exact .fail hp (by decide)
    ·exact .refl hp
   have p0 : (if out.length = 8 then st.fail 3 (st.now l).pos else st).pos = st.pos := by
    split
    ·exact c6.1
    ·rfl
   have f0 : (if out.length = 8 then st.fail 3 (st.now l).pos else st).fe = 0 -> out.length < 8 := by
    split
    ·exact fun q => absurd q (ej (by decide))
    ·intro _; omega
   generalize (if out.length = 8 then st.fail 3 (st.now l).pos else st) = s0 at *
   obtain ⟨s1, r, e, g, a, _⟩ := ih .expr s0 g0.pl (by rw [p0]; simp only [gP.bi] at *; omega) trivial
   have a : r.length = 1 := a
   simp only [e, Option.bind_some];by_cases h1 : s1.is l [44]
   ·rw [if_pos h1]
    have hn := is_lt ht g.pl h1
    obtain ⟨s2, r2, e2, g2, a2, _⟩ := ih (.lm (out ++ r)) s1.next hn (by have := g.p; simp only [gP.bi, RS.next] at *; omega) (by
     show (out ++ r).length <= 8
     rw [jz, a];have := f0 (g.f h1.1)
     omega)
    exact ⟨_, _, e2, (g0.trans g).trans ((Gr.next hn).trans g2), a2, trivial⟩
   ·rw [if_neg h1]
    exact ⟨_, _, rfl, g0.trans g, by show (out ++ r).length <= 9; rw [jz, a]; omega, trivial⟩
def opsL : List (Int × Int) := [(1, 1), (2, 2), (3, 3), (3, 4), (3, 5), (3, 6), (3, 7), (3, 8), (4, 9), (4, 10), (4, 11), (4, 12), (5, 13), (5, 14), (5, 15), (5, 16), (0, 0)]
theorem Qx (s : bK) : mv s ∈ opsL := by
 unfold mv;by_cases h : s = [124, 124]
 ·rw [if_pos h]; decide
 rw [if_neg h];clear h;by_cases h : s = [38, 38]
 ·rw [if_pos h]; decide
 rw [if_neg h];clear h;by_cases h : s = [61, 61]
 ·rw [if_pos h]; decide
 rw [if_neg h];clear h;by_cases h : s = [33, 61]
 ·rw [if_pos h]; decide
 rw [if_neg h];clear h;by_cases h : s = [60]
 ·rw [if_pos h]; decide
 rw [if_neg h];clear h;by_cases h : s = [60, 61]
 ·rw [if_pos h]; decide
 rw [if_neg h];clear h;by_cases h : s = [62]
 ·rw [if_pos h]; decide
 rw [if_neg h];clear h;by_cases h : s = [62, 61]
 ·rw [if_pos h]; decide
 rw [if_neg h];clear h;by_cases h : s = [43]
 ·rw [if_pos h]; decide
 rw [if_neg h];clear h;by_cases h : s = [45]
 ·rw [if_pos h]; decide
 rw [if_neg h];clear h;by_cases h : s = [43, 37]
 ·rw [if_pos h]; decide
 rw [if_neg h];clear h;by_cases h : s = [45, 37]
 ·rw [if_pos h]; decide
 rw [if_neg h];clear h;by_cases h : s = [42]
 ·rw [if_pos h]; decide
 rw [if_neg h];clear h;by_cases h : s = [47]
 ·rw [if_pos h]; decide
 rw [if_neg h];clear h;by_cases h : s = [37]
 ·rw [if_pos h]; decide
 rw [if_neg h];clear h;by_cases h : s = [42, 37]
 ·rw [if_pos h]; decide
 rw [if_neg h];clear h
 decide
theorem MM (s : bK) : 0 <= (mv s).1 /\ (mv s).1 <= 5 /\ 0 <= (mv s).2 /\ (mv s).2 <= 16 := by
 have key : ∀ p ∈ opsL, 0 <= p.1 /\ p.1 <= 5 /\ 0 <= p.2 /\ p.2 <= 16 := by decide
 exact key _ (Qx s)
end
section
theorem jR {a b : Nat} (h : a ≠ b) : a.beq b = false := by
 cases e : a.beq b
 ·rfl
 ·exact absurd (Nat.eq_of_beq_eq_true e) h
theorem aS {a b : Nat} (h : a.beq b = true) : a = b := Nat.eq_of_beq_eq_true h
theorem jZ {a b : Nat} (h : a.beq b = false) : a ≠ b := by
 rintro rfl
 rw [Nat.beq_refl] at h
 cases h
theorem dR (a : Nat) : a.beq a = true := Nat.beq_refl a
def qb : Nat -> Nat -> List Bool
 | 0, _ => []
 | f + 1, k => bif k.beq 0 then [] else bif (k % 2).beq 1 then true :: qb f (k / 2) else false :: qb f (k / 2 - 1)
def path (k : Nat) : List Bool := qb k k
theorem Jd : ∀ (f g k l : Nat), k <= f -> l <= g -> qb f k = qb g l -> k = l := by
 intro f
 induction f with
 | zero =>
  intro g k l hk hl h
  obtain rfl : k = 0 := by omega
  cases g with
  | zero => omega
  | succ g =>
   simp only [qb] at h;by_cases e : l = 0
   ·exact e.symm
   ·have e1 : l.beq 0 = false := jR e
    rw [e1] at h
    cases e2 : (l % 2).beq 1 <;> simp [e2] at h
 | succ f ih =>
  intro g k l hk hl h
  cases g with
  | zero =>
   obtain rfl : l = 0 := by omega
   simp only [qb] at h;by_cases e : k = 0
   ·exact e
   ·have e1 : k.beq 0 = false := jR e
    rw [e1] at h
    cases e2 : (k % 2).beq 1 <;> simp [e2] at h
  | succ g =>
   simp only [qb] at h;by_cases e : k = 0
   ·by_cases e' : l = 0
    ·omega
    ·have e1 : l.beq 0 = false := jR e'
     rw [e1] at h;subst e
     cases e2 : (l % 2).beq 1 <;> simp [e2] at h
   ·have e1 : k.beq 0 = false := jR e
    rw [e1] at h;by_cases e' : l = 0
    ·subst e'
     cases e2 : (k % 2).beq 1 <;> simp [e2] at h
    ·have e1' : l.beq 0 = false := jR e'
     rw [e1'] at h
     cases e2 : (k % 2).beq 1 <;> cases Pt : (l % 2).beq 1 <;> simp [e2, Pt] at h
     ·have := jZ e2
      have := jZ Pt
      have := ih g _ _ (by omega) (by omega) h
      omega
     ·have := aS e2
      have := aS Pt
      have := ih g _ _ (by omega) (by omega) h
      omega
theorem Jc {k l : Nat} (h : path k = path l) : k = l := Jd _ _ _ _ (fy _) (fy _) h
inductive Tr (α : Type) where
 | leaf
 | node (v : Option α) (l r : Tr α)
def Tr.at {α : Type} : Tr α -> List Bool -> Option α
 | .leaf, _ => none
 | .node v _ _, [] => v
 | .node _ l r, b :: p => bif b then r.at p else l.at p
def Tr.put {α : Type} (x : α) : List Bool -> Tr α -> Tr α
 | [], .leaf => .node (some x) .leaf .leaf
 | [], .node _ l r => .node (some x) l r
 | b :: p, .leaf => bif b then .node none .leaf (Tr.put x p .leaf) else .node none (Tr.put x p .leaf) .leaf
 | b :: p, .node v l r => bif b then .node v l (Tr.put x p r) else .node v (Tr.put x p l) r
theorem Tr.Kv {α : Type} (x : α) (p : List Bool) : ∀ t : Tr α, (t.put x p).at p = some x := by
 induction p with
 | nil => intro t; cases t <;> rfl
 | cons b p ih => intro t; cases t <;> cases b <;> simp [Tr.put, Tr.at, ih]
theorem Tr.PH {α : Type} (x : α) (p : List Bool) : ∀ (q : List Bool) (t : Tr α), p ≠ q -> (t.put x p).at q = t.at q := by
 induction p with
 | nil =>
  intro q t h
  cases q with
  | nil => exact absurd rfl h
  | cons c q => cases t <;> cases c <;> simp [Tr.put, Tr.at]
 | cons b p ih =>
  intro q t h
  cases q with
  | nil => cases t <;> cases b <;> simp [Tr.put, Tr.at]
  | cons c q =>
   cases t <;> cases b <;> cases c <;> simp [Tr.put, Tr.at] <;> (first | (rw [ih _ _ (fun e => h (by rw [e]))]; try rfl) | skip)
def Tr.get {α : Type} (t : Tr α) (k : Nat) : Option α := t.at (path k)
def Tr.set {α : Type} (t : Tr α) (k : Nat) (x : α) : Tr α := t.put x (path k)
theorem Tr.bW {α : Type} (t : Tr α) (k l : Nat) (x : α) : (t.set k x).get l = if l = k then some x else t.get l := by
 unfold Tr.get Tr.set;by_cases h : l = k
 ·subst h; rw [if_pos rfl, Tr.Kv]
 ·rw [if_neg h, Tr.PH _ _ _ _ (fun e => h (Jc e).symm)]
theorem Tr.zp {α : Type} (k : Nat) : (Tr.leaf : Tr α).get k = none := by
 unfold Tr.get; cases path k <;> rfl
end
section
inductive EV where
 | undef
 | bool (b : Bool)
 | int (k : IntKind) (n : Int)
 | str (s : List UInt8)
 | bL
 | ptr (b off : Nat)
 | ae
 | slice (b off len : Nat) (cap : Option Nat)
 | bz
 | map (b : Nat)
 | aO
 | func (f : Nat) (first captured : List EV)
 | aD
 | iface (t : Nat) (v : EV)
 | agg (cs : List EV)
 | tuple (vs : List EV)
 | fz (t esz : Nat) (els : List (List EV))   -- a row Ot stays eQ it is: with its elements (t: Xa one; 0: not told)
 | fI (esz : Nat) (els : List (List EV)) (i k : Nat)   -- a cell of ae3 a row: Zq i, cell k
def yH : Option Nat -> Option Nat -> Bool
 | none, none => true
 | some a, some b => a.beq b
 | _, _ => false
def jY : List UInt8 -> List UInt8 -> Bool
 | [], [] => true
 | a :: x, b :: y => bif a.toNat.beq b.toNat then jY x y else false
 | _, _ => false
def sU : Int -> Int -> Bool
 | .ofNat a, .ofNat b => a.beq b
 | .negSucc a, .negSucc b => a.beq b
 | _, _ => false
def bZ : IntKind -> Nat
 | .i8 => 0 | .i16 => 1 | .i32 => 2 | .i64 => 3 | .u8 => 4 | .u16 => 5 | .u32 => 6 | .u64 => 7
mutual
def EV.same : EV -> EV -> Bool
 | .undef, .undef | .bL, .bL | .ae, .ae | .bz, .bz | .aO, .aO | .aD, .aD => true
 | .bool a, .bool b => a == b
 | .int k a, .int l b => bif (bZ k).beq (bZ l) then sU a b else false
 | .str a, .str b => jY a b
 | .ptr a i, .ptr b j => bif a.beq b then i.beq j else false
 | .slice a i n c, .slice b j m d => bif a.beq b then bif i.beq j then bif n.beq m then yH c d else false else false else false
 | .map a, .map b => a.beq b
 | .func f a c, .func g b d => bif f.beq g then bif EV.ma a b then EV.ma c d else false else false
 | .iface t v, .iface u w => bif t.beq u then EV.same v w else false
 | .agg a, .agg b => EV.ma a b
 | .tuple a, .tuple b => EV.ma a b
 | .fz t e a, .fz u f b => bif t.beq 0 then false else bif t.beq u then bif e.beq f then EV.qT a b else false else false
 | _, _ => false
def EV.ma : List EV -> List EV -> Bool
 | [], [] => true
 | a :: x, b :: y => bif EV.same a b then EV.ma x y else false
 | _, _ => false
def EV.qT : List (List EV) -> List (List EV) -> Bool
 | [], [] => true
 | a :: x, b :: y => bif EV.ma a b then EV.qT x y else false
 | _, _ => false
end
inductive fK where
 | dead
 | cells (cs : List EV) (esz : Nat) (elem : Nat) (ro : Bool)
 | map (es : List (EV × EV))
structure Mem where
 next : Nat
 gH : Tr fK
def Mem.get (m : Mem) (b : Nat) : fK := (m.gH.get b).getD .dead
def Mem.set (m : Mem) (b : Nat) (x : fK) : Mem := ⟨m.next, m.gH.set b x⟩
def Mem.new (m : Mem) (x : fK) : Mem := ⟨m.next + 1, m.gH.set m.next x⟩
def EV.cells : EV -> Option (List EV)
 | .undef | .tuple _ => none
 | .agg cs => some cs
 | v => some [v]
def partOf (agg : Option Nat) (cs : List EV) (off : Nat) : Option EV :=
 match agg with
 | none => cs[off]?
 | some n => bif (off + n).ble cs.length then some (.agg ((cs.drop off).take n)) else none
def iW (cs : List EV) (off : Nat) (vs : List EV) : Option (List EV) :=
 bif (off + vs.length).ble cs.length then some (cs.take off ++ vs ++ cs.drop (off + vs.length)) else none
def Mem.load (m : Mem) (agg : Option Nat) : EV -> Option EV
 | .ptr b off => match m.get b with
  | .cells cs _ _ _ => partOf agg cs off
  | _ => none
 | .fI _ els i k => match els[i]? with
  | some el => partOf agg el k
  | none => none
 | _ => none
def Mem.Ho (m : Mem) (b off n : Nat) : Option (List EV) :=
 match m.get b with
 | .cells cs _ _ _ => bif (off + n).ble cs.length then some ((cs.drop off).take n) else none
 | _ => none
def Mem.row (m : Mem) (b off n : Nat) : Option (List EV) := bif n.beq 0 then some [] else m.Ho b off n
theorem Mem.p7 {m : Mem} {b off n : Nat} (h : n ≠ 0) : m.row b off n = m.Ho b off n := by unfold Mem.row; rw [jR h]; rfl
theorem Mem.nj {m : Mem} {b off : Nat} : m.row b off 0 = some [] := rfl
def Mem.write (m : Mem) (b off : Nat) (vs : List EV) : Option Mem :=
 match m.get b with
 | .cells cs esz elem ro => bif ro then none else (iW cs off vs).map fun cs => m.set b (.cells cs esz elem ro)
 | _ => none
def Mem.store (m : Mem) (size : Nat) (a x : EV) : Option Mem :=
 match a, x.cells with
 | .ptr b off, some vs => bif vs.length.beq size then m.write b off vs else none
 | _, _ => none
inductive aW where
 | tmp (t : Nat)
 | const (v : EV)
inductive sj where
 | aG (k : Nat)   -- 0 aea, 1 whole number, 2 string, 3 pointer, 4 slice, 5 map, 6 Yr, 7 interface
 | agg (fields : List (Option Nat × Nat × sj))
inductive Cv where
 | int (k : IntKind)
 | same
 | bytes (elem : Nat)
 | text
inductive lD where
 | aa (x : aW)
 | pick (c a b : aW)
 | alloc (elem : Nat) (zero : List EV)
 | box (elem : Nat) (x : aW)
 | build (zero : List EV) (parts : List (Nat × Nat × aW))
 | bt (elem esz len : Nat) (zero : List EV) (parts : List (Nat × aW))
 | load (agg : Option Nat) (a : aW)
 | store (size : Nat) (a x : aW)
 | cy (x : aW)
 | bin (op : BinOp) (x y : aW)
 | eq (neg : Bool) (t : sj) (x y : aW)
 | un (op : UnOp) (x : aW)
 | conv (c : Cv) (x : aW)
 | iface (t : Nat) (x : aW)
 | BL (f : Nat) (first captured : List aW)
 | uT
 | lL (elem esz : Nat) (zero : List EV) (len cap : aW)
 | gd (x : aW) (lo hi : Option aW)
 | uL (esz : Nat) (x : aW) (lo hi max : Option aW)
 | xo (n esz : Nat) (x : aW) (lo hi max : Option aW)
 | aj (off : Nat) (x : aW)
 | AX (agg : Option Nat) (off : Nat) (x : aW)
 | cS (esz : Nat) (x i : aW)
 | ny (n esz : Nat) (x i : aW)
 | eu (x i : aW)
 | uY (n esz : Nat) (agg : Option Nat) (x i : aW)
 | lookup (kt : Nat) (zero : EV) (ok : Bool) (m k : aW)
 | pg (kt : Nat) (m k x : aW)
 | delete (kt : Nat) (m k : aW)
 | qX (m : aW)
 | pT (t : Nat) (x : aW)
 | extract (x : aW) (i : Nat)
 | len (x : aW)
 | cD (x : aW)
 | uX (n : Nat)
 | cap (x : aW)
 | max (args : List aW)
 | min (args : List aW)
 | append (elem esz bytes : Nat) (s x : aW)
 | copy (esz : Nat) (d s : aW)
inductive Aq where
 | val (op : lD)
 | call (f : aW) (args : List aW)
 | panic (x : aW)
 | defer (f : aW) (args : List aW)
def cW : lD -> Nat
 | .alloc _ _ | .box _ _ | .bt _ _ _ _ _ | .uT | .lL _ _ _ _ _ | .conv (.bytes _) _ => 1
 | .load _ _ => 2
 | .store _ _ _ | .conv .text _ | .lookup _ _ _ _ _ | .pg _ _ _ _ | .delete _ _ _ | .qX _ | .append _ _ _ _ _ | .copy _ _ _ | .uL _ _ _ _ _ => 3
 | _ => 0
def sort : Aq -> Nat
 | .val op => cW op
 | _ => 3
def Eg : Option aW -> List aW
 | none => []
 | some x => [x]
def iA : lD -> List aW
 | .aa x | .box _ x | .load _ x | .cy x | .un _ x | .conv _ x | .iface _ x | .aj _ x | .AX _ _ x | .qX x | .pT _ x | .extract x _ | .len x | .cD x | .cap x => [x]
 | .pick c a b => [c, a, b]
 | .alloc _ _ | .uT | .uX _ => []
 | .build _ ps => ps.map fun p => p.2.2
 | .bt _ _ _ _ ps => ps.map fun p => p.2
 | .store _ a x | .bin _ a x | .eq _ _ a x | .lL _ _ _ a x | .cS _ a x | .ny _ _ a x | .eu a x | .uY _ _ _ a x | .lookup _ _ _ a x | .delete _ a x | .append _ _ _ a x | .copy _ a x => [a, x]
 | .BL _ a c => a ++ c
 | .gd x l h => x :: (Eg l ++ Eg h)
 | .uL _ x l h m | .xo _ _ x l h m => x :: (Eg l ++ (Eg h ++ Eg m))
 | .pg _ m k x => [m, k, x]
 | .max xs | .min xs => xs
def oV : Aq -> List aW
 | .val op => iA op
 | .call f xs | .defer f xs => f :: xs
 | .panic x => [x]
def tmpsOf : List aW -> List Nat
 | [] => []
 | .tmp t :: r => t :: tmpsOf r
 | .const _ :: r => tmpsOf r
structure ba where
 dst : Option Nat
 op : Aq
 guard : Option (Nat × Bool)   -- Zr Wt, and what it AK be
inductive aE where
 | skip
 | region (ops : List ba)
 | draw (ops : List ba) (chk : List (Nat × Nat))
 | seq (a b : aE)
 | cond (c : aW) (a b : aE)
 | block (id : Nat) (a : aE)
 | loop (a : aE)
 | exit (id : Nat)
 | ret
inductive lX where
 | tmp (t : Nat)
 | cell (t : Nat) (agg : Option Nat)
structure au where
 ntmps : Nat
 body : aE
 results : List lX
structure Fr where
 tmps : Tr EV
 defers : List (Nat × List EV)
def Fr.get (fr : Fr) (t : Nat) : EV := (fr.tmps.get t).getD .undef
def Fr.set (fr : Fr) (t : Nat) (v : EV) : Fr := ⟨fr.tmps.set t v, fr.defers⟩
def Fr.put (fr : Fr) (d : Option Nat) (v : EV) : Fr := match d with | some t => fr.set t v | none => fr
def Fr.eval (fr : Fr) : aW -> EV
 | .tmp t => fr.get t
 | .const v => v
def qZ (op : BinOp) (k : IntKind) (x y : Int) : Option Int :=
 let a := BitVec.ofInt k.bits x
 let b := BitVec.ofInt k.bits y
 match op with
 | .and => some (k.wrap (a &&& b).toNat)
 | .or => some (k.wrap (a ||| b).toNat)
 | .xor => some (k.wrap (a ^^^ b).toNat)
 | .andNot => some (k.wrap (a &&& ~~~b).toNat)
 | _ => none
def nF (op : BinOp) (k : IntKind) (x y : Int) : Option EV :=
 match op with
 | .add => some (.int k (k.wrap (x + y)))
 | .sub => some (.int k (k.wrap (x - y)))
 | .mul => some (.int k (k.wrap (x * y)))
 | .quo => if y = 0 then none else some (.int k (k.wrap (x.tdiv y)))
 | .rem => if y = 0 then none else some (.int k (x.tmod y))
 | .and | .or | .xor | .andNot => (qZ op k x y).map (.int k)
 | .eql => some (.bool (decide (x = y)))
 | .neq => some (.bool (!decide (x = y)))
 | .lss => some (.bool (decide (x < y)))
 | .leq => some (.bool (decide (x <= y)))
 | .gtr => some (.bool (decide (y < x)))
 | .geq => some (.bool (decide (y <= x)))
 | .shl | .shr => none
def tC (op : BinOp) (k : IntKind) (x y : Int) : Option EV :=
 if y < 0 then none else
 match op with
 | .shl => some (.int k (k.wrap (x * 2 ^ min y.toNat k.bits)))
 | .shr => some (.int k (x.fdiv (2 ^ min y.toNat k.bits)))
 | _ => none
def ei (op : BinOp) (x y : EV) : Option EV :=
 match x, y with
 | .int k a, .int l b => match op with
  | .shl | .shr => tC op k a b
  | _ => bif (bZ k).beq (bZ l) then nF op k a b else none
 | .str a, .str b => match op with
  | .add => bif (a.length + b.length).ble 4294967296 then some (.str (a ++ b)) else none
  | .eql => some (.bool (jY a b))
  | .neq => some (.bool (!jY a b))
  | _ => none
 | _, _ => none
def dP (t : Nat) : EV -> EV -> Option Bool
 | .int k a, .int l b => bif t.beq 1 then bif (bZ k).beq (bZ l) then some (decide (a = b)) else none else none
 | .bool a, .bool b => bif t.beq 0 then some (a == b) else none
 | .str a, .str b => bif t.beq 2 then some (jY a b) else none
 | .bL, .bL => bif t.beq 3 then some true else none
 | .bL, .ptr _ _ | .ptr _ _, .bL => bif t.beq 3 then some false else none
 | .ae, .ae => bif t.beq 4 then some true else none
 | .ae, .slice _ _ _ _ | .slice _ _ _ _, .ae => bif t.beq 4 then some false else none
 | .ae, .fz _ _ _ | .fz _ _ _, .ae => bif t.beq 4 then some false else none
 | .bz, .bz => bif t.beq 5 then some true else none
 | .bz, .map _ | .map _, .bz => bif t.beq 5 then some false else none
 | .aO, .aO => bif t.beq 6 then some true else none
 | .aO, .func _ _ _ | .func _ _ _, .aO => bif t.beq 6 then some false else none
 | .aD, .iface _ _ | .iface _ _, .aD => bif t.beq 7 then some false else none
 | _, _ => none
mutual
def eL : sj -> EV -> EV -> Option Bool
 | .aG t, x, y => dP t x y
 | .agg fs, .agg a, .agg b => pA fs a b
 | _, _, _ => none
def pA : List (Option Nat × Nat × sj) -> List EV -> List EV -> Option Bool
 | [], _, _ => some true
 | (g, off, t) :: r, a, b => match partOf g a off, partOf g b off with
  | some x, some y => match eL t x y with
   | some true => pA r a b
   | o => o
  | _, _ => none
end
def ES (op : UnOp) (x : EV) : Option EV :=
 match op, x with
 | .neg, .int k n => some (.int k (k.wrap (0 - n)))
 | .xor, .int k n => (qZ .xor k (if k.signed then -1 else k.max) n).map (.int k)
 | .not, .bool b => some (.bool (!b))
 | _, _ => none
def bytesOf : List EV -> Option (List UInt8)
 | [] => some []
 | .int .u8 n :: r => (bytesOf r).map (UInt8.ofNat n.toNat :: ·)
 | _ => none
def kY (c : Cv) (m : Mem) (x : EV) : Option (EV × Mem) :=
 match c, x with
 | .int k, .int _ n => some (.int k (k.wrap n), m)
 | .same, .str s => some (.str s, m)
 | .bytes e, .str s => some (.slice m.next 0 s.length none, m.new (.cells (s.map fun b => .int .u8 (b.toNat : Int)) 1 e false))
 | .text, .ae => some (.str [], m)
 | .text, .slice b off n _ => match m.row b off n with
  | some cs => (bytesOf cs).map fun s => (.str s, m)
  | none => none
 | _, _ => none
def aw (x : Option EV) (TJ nu : Nat) : Option Nat :=
 match x with
 | none => some TJ
 | some (.int _ (.ofNat i)) => bif i.ble nu then some i else none
 | _ => none
def ek (esz b off len : Nat) (cap : Option Nat) (lo hi max : Option EV) : Option EV :=
 match cap with
 | some c => match aw max c c with
  | some t => match aw hi len t with
   | some h => match aw lo 0 h with
    | some l => some (.slice b (bif t.beq l then off else off + l * esz) (h - l) (some (t - l)))
    | none => none
   | none => none
  | none => none
 | none => match max with
  | some _ => match aw max len len with
   | some t => match aw hi len t with
    | some h => match aw lo 0 h with
     | some l => some (.slice b (bif t.beq l then off else off + l * esz) (h - l) (some (t - l)))
     | none => none
    | none => none
   | none => none
  | none => match aw hi len len with
   | some h => match aw lo 0 h with
    | some l => some (.slice b (off + l * esz) (h - l) none)
    | none => none
   | none => none
def find (k : EV) : List (EV × EV) -> Option EV
 | [] => none
 | (l, v) :: r => bif EV.same k l then some v else find k r
def update (k v : EV) : List (EV × EV) -> List (EV × EV)
 | [] => [(k, v)]
 | (l, w) :: r => bif EV.same k l then (k, v) :: r else (l, w) :: update k v r
def erase (k : EV) : List (EV × EV) -> List (EV × EV)
 | [] => []
 | (l, w) :: r => bif EV.same k l then r else (l, w) :: erase k r
def lP (kt : Nat) : EV -> Bool
 | .int _ _ => kt.beq 2
 | .str _ => kt.beq 1
 | .bool _ => kt.beq 0
 | _ => false
def kM : EV -> Nat
 | .int k _ => 2 + bZ k | .str _ => 1 | .bool _ => 0 | _ => 99
def oj (k : EV) : List (EV × EV) -> Bool
 | [] => true
 | e :: r => bif (kM e.1).beq (kM k) then oj k r else false
def iI (kt : Nat) (k : EV) (es : List (EV × EV)) : Bool := bif lP kt k then oj k es else false
def fB (cs : List EV) : List (Nat × Nat × EV) -> Option (List EV)
 | [] => some cs
 | (off, size, v) :: r => match v.cells with
  | some vs => bif vs.length.beq size then match iW cs off vs with
    | some cs => fB cs r
    | none => none
   else none
  | none => none
def eD (n : Nat) (zero : List EV) : List EV := (List.replicate n zero).flatten
def Mem.source (m : Mem) (esz : Nat) : EV -> Option (Nat × List EV)
 | .ae => some (0, [])
 | .slice b off n _ => (m.row b off (n * esz)).map fun cs => (n, cs)
 | .str s => bif esz.beq 1 then some (s.length, s.map fun b => .int .u8 (b.toNat : Int)) else none
 | .fz _ e els => bif e.beq esz then some (els.length, els.flatten) else none
 | _ => none
def room : Nat := 1073741824
def fS (m : Mem) (elem esz : Nat) (s x : EV) : Option (EV × Mem) :=
 match m.source esz x with
 | none => none
 | some (n, xs) =>
  bif n.beq 0 then
   match s with
   | .ae => some (.ae, m)
   | .slice b off len cap => some (.slice b off len cap, m)
   | .fz t e els => some (.fz t e els, m)
   | _ => none
  else match s with
  | .ae => bif n.ble room then some (.slice m.next 0 n none, m.new (.cells xs esz elem false)) else none
  | .slice b off len cap =>
   bif (len + n).ble room then
    match m.row b off (len * esz) with
    | none => none
    | some old => match cap with
     | some c => bif (len + n).ble c then (m.write b (off + len * esz) xs).map fun m => (.slice b off (len + n) (some c), m)
       else some (.slice m.next 0 (len + n) none, m.new (.cells (old ++ xs) esz elem false))
     | none => match m.get b with
      | .cells _ e _ false => bif e.beq esz then some (.slice m.next 0 (len + n) none, (m.new (.cells (old ++ xs) esz elem false)).set b .dead) else none
      | _ => none
   else none
  | _ => none
def xV (m : Mem) (esz : Nat) (d s : EV) : Option (EV × Mem) :=
 match d with
 | .ae => (m.source esz s).map fun _ => (.int .i64 0, m)
 | .slice b off len _ => match m.source esz s with
  | none => none
  | some (n, xs) => (m.write b off (xs.take (min n len * esz))).map fun m => (.int .i64 (min n len : Nat), m)
 | _ => none
def mU (k : IntKind) (x : Int) : List EV -> Option EV
 | [] => some (.int k x)
 | .int l y :: r => bif (bZ k).beq (bZ l) then mU k (if y > x then y else x) r else none
 | _ => none
def mT (k : IntKind) (x : Int) : List EV -> Option EV
 | [] => some (.int k x)
 | .int l y :: r => bif (bZ k).beq (bZ l) then mT k (if y < x then y else x) r else none
 | _ => none
def xy : List EV -> Option EV
 | .int k x :: r => mU k x r
 | _ => none
def xx : List EV -> Option EV
 | .int k x :: r => mT k x r
 | _ => none
inductive R1 where
 | val (v : EV) (m : Mem)
def gx (m : Mem) (x : Option EV) : Option R1 := x.map fun v => .val v m
def xf (x : Option (EV × Mem)) : Option R1 := x.map fun p => .val p.1 p.2
def ofM (x : Option Mem) : Option R1 := x.map fun m => .val .undef m
def idx (n : Nat) : EV -> Option Nat
 | .int _ (.ofNat i) => bif (i + 1).ble n then some i else none
 | _ => none
def aB (ρ : aW -> EV) (op : lD) (m : Mem) : Option R1 :=
 match op with
 | .aa x => some (.val (ρ x) m)
 | .pick c a b => match ρ c with | .bool t => some (.val (bif t then ρ a else ρ b) m) | _ => none
 | .alloc elem zero => some (.val (.ptr m.next 0) (m.new (.cells zero zero.length elem false)))
 | .box elem x => match (ρ x).cells with
  | some cs => some (.val (.ptr m.next 0) (m.new (.cells cs cs.length elem false)))
  | none => none
 | .build zero parts => gx m ((fB zero (parts.map fun p => (p.1, p.2.1, ρ p.2.2))).map .agg)
 | .bt elem esz len zero parts => match fB (eD len zero) (parts.map fun p => (p.1 * esz, esz, ρ p.2)) with
  | some cs => some (.val (.slice m.next 0 len (some len)) (m.new (.cells cs esz elem false)))
  | none => none
 | .load agg a => gx m (m.load agg (ρ a))
 | .store size a x => ofM (m.store size (ρ a) (ρ x))
 | .cy x => match ρ x with
  | .ptr b off => some (.val (.ptr b off) m)
  | .func f a c => some (.val (.func f a c) m)
  | .iface t v => some (.val (.iface t v) m)
  | .fI e els i k => some (.val (.fI e els i k) m)
  | _ => none
 | .bin op x y => gx m (ei op (ρ x) (ρ y))
 | .eq neg t x y => gx m ((eL t (ρ x) (ρ y)).map fun b => .bool (neg ^^ b))
 | .un op x => gx m (ES op (ρ x))
 | .conv c x => xf (kY c m (ρ x))
 | .iface t x => some (.val (.iface t (ρ x)) m)
 | .BL f a c => some (.val (.func f (a.map ρ) (c.map ρ)) m)
 | .uT => some (.val (.map m.next) (m.new (.map [])))
 | .lL elem esz zero len cap => match ρ len, ρ cap with
  | .int .i64 (.ofNat l), .int .i64 (.ofNat c) => bif (bif l.ble c then c.ble room else false) then
    some (.val (.slice m.next 0 l (some c)) (m.new (.cells (eD c zero) esz elem false))) else none
  | _, _ => none
 | .gd x lo hi => match ρ x with
  | .str s => match aw (hi.map ρ) s.length s.length with
   | some h => match aw (lo.map ρ) 0 h with
    | some l => some (.val (.str ((s.take h).drop l)) m)
    | none => none
   | none => none
  | _ => none
 | .uL esz x lo hi max => match ρ x with
  | .ae => match aw (max.map ρ) 0 0, aw (hi.map ρ) 0 0, aw (lo.map ρ) 0 0 with
   | some _, some _, some _ => some (.val .ae m)
   | _, _, _ => none
  | .slice b off len (some c) => gx m (ek esz b off len (some c) (lo.map ρ) (hi.map ρ) (max.map ρ))
  | .slice b off len none => match m.get b with
   | .cells _ e _ _ => bif e.beq esz then gx m (ek esz b off len none (lo.map ρ) (hi.map ρ) (max.map ρ)) else none
   | _ => none
  | .fz _ e els => match max with
   | none => bif e.beq esz then
     match aw (hi.map ρ) els.length els.length with
     | some h => match aw (lo.map ρ) 0 h with
      | some l => some (.val (.fz 0 e ((els.take h).drop l)) m)
      | none => none
     | none => none
    else none
   | some _ => none
  | _ => none
 | .xo n esz x lo hi max => match ρ x with
  | .ptr b off => gx m (ek esz b off n (some n) (lo.map ρ) (hi.map ρ) (max.map ρ))
  | _ => none
 | .aj off x => match ρ x with
  | .ptr b o => some (.val (.ptr b (o + off)) m)
  | .fI e els i k => some (.val (.fI e els i (k + off)) m)
  | _ => none
 | .AX agg off x => match ρ x with
  | .agg cs => gx m (partOf agg cs off)
  | _ => none
 | .cS esz x i => match ρ x with
  | .slice b off len _ => match idx len (ρ i) with
   | some i => some (.val (.ptr b (off + i * esz)) m)
   | none => none
  | .fz _ e els => bif e.beq esz then match idx els.length (ρ i) with
    | some i => some (.val (.fI e els i 0) m)
    | none => none
   else none
  | _ => none
 | .ny n esz x i => match ρ x with
  | .ptr b off => match idx n (ρ i) with
   | some i => some (.val (.ptr b (off + i * esz)) m)
   | none => none
  | _ => none
 | .eu x i => match ρ x with
  | .str s => match idx s.length (ρ i) with
   | some i => match s[i]? with
    | some c => some (.val (.int .u8 (c.toNat : Int)) m)
    | none => none
   | none => none
  | _ => none
 | .uY n esz agg x i => match ρ x with
  | .agg cs => match idx n (ρ i) with
   | some i => gx m (partOf agg cs (i * esz))
   | none => none
  | _ => none
 | .lookup kt zero ok mp k => match ρ mp with
  | .bz => bif lP kt (ρ k) then some (.val (bif ok then .tuple [zero, .bool false] else zero) m) else none
  | .map b => match m.get b with
   | .map es => bif iI kt (ρ k) es then
     match find (ρ k) es with
     | some v => some (.val (bif ok then .tuple [v, .bool true] else v) m)
     | none => some (.val (bif ok then .tuple [zero, .bool false] else zero) m)
    else none
   | _ => none
  | _ => none
 | .pg kt mp k x => match ρ mp with
  | .map b => match m.get b with
   | .map es => bif iI kt (ρ k) es then some (.val .undef (m.set b (.map (update (ρ k) (ρ x) es)))) else none
   | _ => none
  | _ => none
 | .delete kt mp k => match ρ mp with
  | .bz => bif lP kt (ρ k) then some (.val (.tuple []) m) else none
  | .map b => match m.get b with
   | .map es => bif iI kt (ρ k) es then some (.val (.tuple []) (m.set b (.map (erase (ρ k) es)))) else none
   | _ => none
  | _ => none
 | .qX mp => match ρ mp with
  | .bz => some (.val (.int .i64 0) m)
  | .map b => match m.get b with
   | .map es => some (.val (.int .i64 (es.length : Int)) m)
   | _ => none
  | _ => none
 | .pT t x => match ρ x with
  | .iface u v => bif t.beq u then some (.val v m) else none
  | _ => none
 | .extract x i => match ρ x with
  | .tuple vs => gx m vs[i]?
  | _ => none
 | .cD x => match ρ x with
  | .str s => some (.val (.int .i64 (s.length : Int)) m)
  | _ => none
 | .len x => match ρ x with
  | .ae => some (.val (.int .i64 0) m)
  | .slice _ _ n _ => some (.val (.int .i64 (n : Int)) m)
  | .fz _ _ els => some (.val (.int .i64 (els.length : Int)) m)
  | _ => none
 | .uX n => some (.val (.int .i64 (n : Int)) m)
 | .cap x => match ρ x with
  | .ae => some (.val (.int .i64 0) m)
  | .slice _ _ _ (some c) => some (.val (.int .i64 (c : Int)) m)
  | _ => none
 | .max args => gx m (xy (args.map ρ))
 | .min args => gx m (xx (args.map ρ))
 | .append elem esz _ s x => xf (fS m elem esz (ρ s) (ρ x))
 | .copy esz d s => xf (xV m esz (ρ d) (ρ s))
end
section
inductive Fin where
 | ret (v : EV) (m : Mem)
 | gI (v : EV) (m : Mem)
inductive Out where
 | norm (fr : Fr) (m : Mem)
 | exit (id : Nat) (fr : Fr) (m : Mem)
 | ret (fr : Fr) (m : Mem)
 | gI (v : EV) (fr : Fr) (m : Mem)
abbrev Call := Nat -> List EV -> Mem -> Option Fin
def bh (fr : Fr) : Option (Nat × Bool) -> Option Bool
 | none => some true
 | some (t, w) => match fr.get t with
  | .bool b => some (b == w)
  | .undef => some false
  | _ => none
def fP (call : Call) (f : EV) (args : List EV) (m : Mem) : Option Fin :=
 match f with
 | .func g a c => call g (a ++ args ++ c) m
 | _ => none
def gR (call : Call) : List ba -> Fr -> Mem -> Option Out
 | [], fr, m => some (.norm fr m)
 | o :: r, fr, m =>
  match bh fr o.guard with
  | some true => match o.op with
   | .val op => match aB fr.eval op m with
    | some (.val v m) => gR call r (fr.put o.dst v) m
    | none => none
   | .call f args => match fP call (fr.eval f) (args.map fr.eval) m with
    | some (.ret v m) => gR call r (fr.put o.dst v) m
    | some (.gI v m) => some (.gI v fr m)
    | none => none
   | .panic x => match fr.eval x with
    | .iface t v => some (.gI (.iface t v) fr m)
    | _ => none
   | .defer f args => match fr.eval f with
    | .func g x y => gR call r (Fr.put ⟨fr.tmps, (g, x ++ args.map fr.eval ++ y) :: fr.defers⟩ o.dst .undef) m
    | _ => none
  | some false => gR call r (fr.put o.dst .undef) m
  | none => none
structure Seen where
 i : Nat
 agg : Option Nat
 a : EV
 v : EV
def bV (i j : Nat) : List (Nat × Nat) -> Bool
 | [] => false
 | (a, b) :: r => bif a.beq i then bif b.beq j then true else bV i j r else bV i j r
def Mem.eI (m : Mem) (agg : Option Nat) (a v : EV) : Bool :=
 match m.load agg a with
 | some x => EV.same x v
 | none => false
def aY (chk : List (Nat × Nat)) (j : Nat) (m : Mem) : List Seen -> Bool
 | [] => true
 | s :: r => bif bV s.i j chk then (bif m.eI s.agg s.a s.v then aY chk j m r else false) else aY chk j m r
def bE (chk : List (Nat × Nat)) (i : Nat) (agg : Option Nat) (a v : EV) : List (Nat × Mem) -> Bool
 | [] => true
 | (j, m) :: r => bif bV i j chk then (bif m.eI agg a v then bE chk i agg a v r else false) else bE chk i agg a v r
def dQ (chk : List (Nat × Nat)) (i n : Nat) : List (Nat × Mem) -> Bool
 | [] => true
 | (j, m) :: r => bif bV i j chk then (bif m.next.beq n then dQ chk i n r else false) else dQ chk i n r
def Gz : EV -> Bool
 | .fI _ _ _ _ => true
 | _ => false
def dL (call : Call) (chk : List (Nat × Nat)) (B0 : Nat) : List ba -> Nat -> Fr -> Mem -> List (Nat × Mem) -> List Seen -> Option Out
 | [], _, fr, m, _, _ => some (.norm fr m)
 | o :: r, i, fr, m, jj, seen =>
  match bh fr o.guard with
  | some true => match o.op with
   | .val op => match cW op with
    | 0 => match aB fr.eval op m with
     | some (.val v _) => dL call chk B0 r (i + 1) (fr.put o.dst v) m jj seen
     | none => none
    | 1 => match aB fr.eval op ⟨B0 + i, m.gH⟩ with
     | some (.val v m1) => dL call chk B0 r (i + 1) (fr.put o.dst v) ⟨m.next, m1.gH⟩ jj seen
     | none => none
    | 2 => match op with
     | .load agg a => match m.load agg (fr.eval a) with
      | some v => bif Gz (fr.eval a) then
        (bif dQ chk i m.next jj then dL call chk B0 r (i + 1) (fr.put o.dst v) m jj seen else none)
       else bif bE chk i agg (fr.eval a) v jj then
        dL call chk B0 r (i + 1) (fr.put o.dst v) m jj (⟨i, agg, fr.eval a, v⟩ :: seen) else none
      | none => none
     | _ => none
    | _ => match aB fr.eval op m with
     | some (.val v m') => bif aY chk i m' seen then dL call chk B0 r (i + 1) (fr.put o.dst v) m' ((i, m) :: jj) seen else none
     | none => none
   | .call f args => match fP call (fr.eval f) (args.map fr.eval) m with
    | some (.ret v m') => bif aY chk i m' seen then dL call chk B0 r (i + 1) (fr.put o.dst v) m' ((i, m) :: jj) seen else none
    | _ => none
   | _ => none
  | some false => dL call chk B0 r (i + 1) (fr.put o.dst .undef) m jj seen
  | none => none
def iter (body : Fr -> Mem -> Option Out) : Nat -> Fr -> Mem -> Option Out
 | 0, _, _ => none
 | n + 1, fr, m => match body fr m with
  | some (.norm fr m) => iter body n fr m
  | o => o
def ap (call : Call) (n : Nat) : aE -> Fr -> Mem -> Option Out
 | .skip, fr, m => some (.norm fr m)
 | .region ops, fr, m => gR call ops fr m
 | .draw ops chk, fr, m => dL call chk m.next ops 0 fr ⟨m.next + ops.length, m.gH⟩ [] []
 | .seq a b, fr, m => match ap call n a fr m with
  | some (.norm fr m) => ap call n b fr m
  | o => o
 | .cond c a b, fr, m => match fr.eval c with
  | .bool t => bif t then ap call n a fr m else ap call n b fr m
  | _ => none
 | .block id a, fr, m => match ap call n a fr m with
  | some (.exit j fr m) => bif j.beq id then some (.norm fr m) else some (.exit j fr m)
  | o => o
 | .loop a, fr, m => iter (ap call n a) n fr m
 | .exit id, fr, m => some (.exit id fr m)
 | .ret, fr, m => some (.ret fr m)
def zH (fr : Fr) (m : Mem) : lX -> Option EV
 | .tmp t => some (fr.get t)
 | .cell t agg => m.load agg (fr.get t)
def bN (fr : Fr) (m : Mem) : List lX -> Option (List EV)
 | [] => some []
 | r :: rs => match zH fr m r with
  | some v => (bN fr m rs).map (v :: ·)
  | none => none
def one (vs : List EV) : EV := match vs with | [v] => v | vs => .tuple vs
def cK : List EV -> Nat -> Tr EV -> Tr EV
 | [], _, t => t
 | v :: r, i, t => cK r (i + 1) (t.set i v)
inductive iq where
 | go (F : au)
 | ext (g : List EV -> Option EV)
 | pure (g : List EV -> Option EV)   -- its blocks are its own, and are W4
 | spec (g : List EV -> Mem -> Option Fin)   -- eQ it is known to be
 | NW (F : au) (D : List (Nat × Option Nat × au))   -- with calls Ot wait for its end; aeb code by number, and where the panic is put Ot is asked for first
def dz (call : Call) (n : Nat) (F : au) (args : List EV) (m : Mem) : Option Fin :=
 bif args.length.ble F.ntmps then match ap call n F.body ⟨cK args 0 .leaf, []⟩ m with
 | some (.norm fr m) => match fr.defers with
  | [] => (bN fr m F.results).map fun vs => .ret (one vs) m
  | _ => none
 | some (.ret fr m) => match fr.defers with
  | [] => (bN fr m F.results).map fun vs => .ret (one vs) m
  | _ => none
 | some (.gI v fr m) => match fr.defers with
  | [] => some (.gI v m)
  | _ => none
 | _ => none
 else none
def mh (g : Nat) : List (Nat × Option Nat × au) -> Option (Option Nat × au)
 | [] => none
 | (h, b, F) :: r => bif h.beq g then some (b, F) else mh g r
def fF (call : Call) (n : Nat) (d : Nat) (F : au) (args : List EV) (u : Option EV) (m : Mem) : Option Mem :=
 bif args.length.ble F.ntmps then match ap call n F.body (Fr.set ⟨cK args 0 .leaf, []⟩ d (u.getD .aD)) m with
 | some (.norm fr m) => match fr.defers with
  | [] => (bN fr m F.results).map fun _ => m
  | _ => none
 | some (.ret fr m) => match fr.defers with
  | [] => (bN fr m F.results).map fun _ => m
  | _ => none
 | _ => none
 else none
def cO (call : Call) (n : Nat) (rs : List lX) (D : List (Nat × Option Nat × au)) (fr : Fr) : List (Nat × List EV) -> Option EV -> Mem -> Option Fin
 | [], none, m => (bN fr m rs).map fun vs => .ret (one vs) m
 | [], some v, m => some (.gI v m)
 | (g, args) :: ds, u, m => match mh g D with
  | some (some d, F) => match fF call n d F args u m with
   | some m => cO call n rs D fr ds none m
   | none => none
  | some (none, F) => match dz call n F args m with
   | some (.ret _ m) => cO call n rs D fr ds u m
   | some (.gI v m) => match u with
    | none => cO call n rs D fr ds (some v) m
    | some _ => none
   | none => none
  | none => none
def jf (call : Call) (n : Nat) (F : au) (D : List (Nat × Option Nat × au)) (args : List EV) (m : Mem) : Option Fin :=
 bif args.length.ble F.ntmps then match ap call n F.body ⟨cK args 0 .leaf, []⟩ m with
 | some (.norm fr m) => cO call n F.results D fr fr.defers none m
 | some (.ret fr m) => cO call n F.results D fr fr.defers none m
 | some (.gI v fr m) => cO call n F.results D fr fr.defers (some v) m
 | _ => none
 else none
def ij (call : Call) (n : Nat) (e : iq) (args : List EV) (m : Mem) : Option Fin :=
 match e with
 | .go F => dz call n F args m
 | .ext g => (g args).map fun v => .ret v m
 | .pure g => (g args).map fun v => .ret v m
 | .spec g => g args m
 | .NW F D => jf call n F D args m
def aT (T : Nat -> Option iq) : Nat -> Call
 | 0, _, _, _ => none
 | n + 1, f, args, m => match T f with
  | some e => ij (aT T n) n e args m
  | none => none
end
section
def NF : EV -> Bool
 | .undef | .agg _ | .tuple _ => false
 | _ => true
def cV : Nat -> Value -> Option EV
 | 0, _ => none
 | n + 1, v => match v with
  | .bool b => some (.bool b)
  | .int k x => some (.int k x)
  | .string s => some (.str s.data.toList)
  | .pointer none => some .bL
  | .slice none 0 0 => some .ae
  | .map none => some .bz
  | .nilFunc => some .aO
  | .nilIface => some .aD
  | .func (.func f) a c => match a.toList.mapM (cV n), c.toList.mapM (cV n) with
   | some x, some y => some (.func f x y)
   | _, _ => none
  | .iface t x => (cV n x).map (.iface t)
  | .agg cs => match cs.toList.mapM (cV n) with
   | some x => bif x.all NF then some (.agg x) else none
   | none => none
  | .tuple vs => (vs.toList.mapM (cV n)).map .tuple
  | _ => none
def fc (G : List Nat) : Operand -> Option aW
 | .tmp t => some (.tmp t)
 | .const v => (cV 30 v).map .const
 | .global g => bif G.contains g then some (.const (.ptr g 0)) else none
 | .func f => some (.const (.func f [] []))
def Ae (G : List Nat) (xs : List Operand) : Option (List aW) := xs.mapM (fc G)
def Kj (G : List Nat) : Option Operand -> Option (Option aW)
 | none => some none
 | some x => (fc G x).map some
section
variable (P : Program) (G : List Nat)
def x7 (t : TypeId) : Option (Option Nat) :=
 match P.underlying t, P.info? t with
 | some (.struct _), some i | some (.array _ _), some i => some (some i.size)
 | some _, some _ => some none
 | _, _ => none
def gh (t : TypeId) : Option Nat := (P.info? t).map (·.size)
def GS (t : TypeId) : Option EV := ((P.info? t).bind (·.zero)).bind (cV 30)
def nS (t : TypeId) : Option (List EV) := (GS P t).bind EV.cells
def nH : Nat -> TypeId -> Option sj
 | 0, _ => none
 | n + 1, t => match P.underlying t with
  | some .bool => some (.aG 0)
  | some (.int _) => some (.aG 1)
  | some .string => some (.aG 2)
  | some (.pointer _) => some (.aG 3)
  | some (.slice _) => some (.aG 4)
  | some (.map _ _) => some (.aG 5)
  | some (.func _ _ _) => some (.aG 6)
  | some (.interface _) => some (.aG 7)
  | some (.struct fs) =>
   bif P.stoodInHeld t then none else
   (fs.toList.mapM fun (f : Field) => match x7 P f.type, nH n f.type with
    | some g, some e => bif f.name != "_" then some (g, f.offset, e) else none
    | _, _ => none).map .agg
  | _ => none
def Md (places : Nat -> Option (Nat × Nat)) (parts : List (Nat × Operand)) : Option (List (Nat × Nat × aW)) :=
 parts.mapM fun p => match places p.1, fc G p.2 with
  | some (o, s), some x => some (o, s, x)
  | _, _ => none
def Io (t : TypeId) : Option Nat :=
 match P.underlying t with
 | some .bool => some 0
 | some .string => some 1
 | some (.int _) => some 2
 | _ => none
def Mx (t : TypeId) : Option TypeId := match P.underlying t with | some (.slice e) => some e | _ => none
def T8 (t : TypeId) : Bool := match P.underlying t with | some (.slice _) | some .string => true | _ => false
def vp (b : Builtin) (argTypes : List TypeId) (args : List aW) : Option lD :=
 match b, argTypes, args with
 | .len, [t], [x] => match P.underlying t with
  | some .string => some (.cD x)
  | some (.slice _) => some (.len x)
  | some (.array n _) => some (.uX n)
  | some (.map _ _) => some (.qX x)
  | _ => none
 | .cap, [t], [x] => match P.underlying t with
  | some (.slice _) => some (.cap x)
  | _ => none
 | .max, _, args => some (.max args)
 | .min, _, args => some (.min args)
 | .append, [t, u], [s, x] => (Mx P t).bind fun e => (bif T8 P u then some () else none).bind fun _ => (P.info? e).bind fun i => (nS P e).bind fun z =>
   (bif z.length.beq i.size then some () else none).bind fun _ => bif i.bytes.ble 65536 then some (.append e i.size i.bytes s x) else none
 | .copy, [t, _], [d, s] => match P.underlying t with
  | some (.slice e) => match gh P e with
   | some n => some (.copy n d s)
   | none => none
  | _ => none
 | .delete, [t, _], [m, k] => match P.underlying t with
  | some (.map kt _) => (Io P kt).map fun c => .delete c m k
  | _ => none
 | _, _, _ => none
def uG (t : TypeId) : Option TypeId := match P.underlying t with | some (.slice e) => some e | _ => none
def Az (t : TypeId) : Option (Nat × TypeId) := match P.underlying t with | some (.array n e) => some (n, e) | _ => none
def yi (t : TypeId) : Option (Array Field) := match P.underlying t with | some (.struct fs) => some fs | _ => none
def KM (t : TypeId) : Option (TypeId × TypeId) := match P.underlying t with | some (.map k e) => some (k, e) | _ => none
def pP (t : TypeId) : Option Unit := match P.underlying t with | some .string => some () | _ => none
def P6 (t : TypeId) : Option IntKind := match P.underlying t with | some (.int k) => some k | _ => none
def KN (t : TypeId) : Option Unit := match P.underlying t with | some (.interface _) => some () | _ => none
def DT (t : TypeId) : Option Unit := match P.underlying t with | some (.interface _) => none | some _ => some () | none => none
def AK (b : Bool) : Option Unit := bif b then some () else none
def UL (neg : Bool) (t : TypeId) (x y : aW) : Option lD :=
 bif P.eqGuardType P.depth t then (KN P t).map fun _ => .eq neg (.aG 7) x y else (nH P 20 t).map fun e => .eq neg e x y
def So (x y : Option lD) : Option lD := match x with | some r => some r | none => y
def UK (o : Oper) : Option lD :=
 match o.op with
 | .move x => (fc G x).map .aa
 | .assign x => (fc G x).map .aa
 | .pick c a b => (fc G c).bind fun c => (fc G a).bind fun a => (fc G b).map fun b => .pick c a b
 | .alloc e => (nS P e).map (.alloc e)
 | .box e x => (fc G x).map (.box e)
 | .build t parts => (nS P t).bind fun z => So
   ((yi P t).bind fun fs => (AK (fs.toList.all fun f => (gh P f.type).isSome)).bind fun _ => (Md G (fun i => (fs[i]?).bind fun f => (gh P f.type).map fun s => (f.offset, s)) parts.toList).map (.build z))
   ((Az P t).bind fun q => (gh P q.2).bind fun s => (Md G (fun i => some (i * s, s)) parts.toList).map (.build z))
 | .buildSlice t len parts => (uG P t).bind fun e => (gh P e).bind fun s => (nS P e).bind fun z => (parts.toList.mapM (fun p => (fc G p.2).map fun x => (p.1, x))).bind fun ps =>
   (AK (z.length.beq s)).bind fun _ => (AK ((len * s).ble 16777216)).map fun _ => .bt e s len z ps
 | .load t a => (x7 P t).bind fun g => (fc G a).map fun a => .load g a
 | .store t a x => (gh P t).bind fun s => (fc G a).bind fun a => (fc G x).map fun x => .store s a x
 | .nilCheck x => (fc G x).map .cy
 | .binOp op t x y _ => (fc G x).bind fun x => (fc G y).bind fun y => match op with
   | .eql => UL P false t x y
   | .neq => UL P true t x y
   | op => some (.bin op x y)
 | .unOp op _ x => (fc G x).map (.un op)
 | .convert s d x => (fc G x).bind fun x => So
   ((DT P s).bind fun _ => (P6 P d).map fun k => .conv (.int k) x)
   (So ((pP P s).bind fun _ => (pP P d).map fun _ => .conv .same x)
   (So ((pP P s).bind fun _ => (uG P d).bind fun e => (P6 P e).bind fun k => (AK ((bZ k).beq 4)).map fun _ => .conv (.bytes e) x)
    ((uG P s).bind fun e => (pP P d).bind fun _ => (P6 P e).bind fun k => (AK ((bZ k).beq 4)).map fun _ => .conv .text x)))
 | .makeInterface t x => (DT P t).bind fun _ => (fc G x).map (.iface t)
 | .makeFunc (.func f) a c => (Ae G a.toList).bind fun a => (Ae G c.toList).map fun c => .BL f a c
 | .makeMap t none => (KM P t).map fun _ => .uT
 | .makeMap t (some (.const (.int _ _))) => (KM P t).map fun _ => .uT
 | .makeSlice t l c => (uG P t).bind fun e => (P.info? e).bind fun i => (nS P e).bind fun z => (fc G l).bind fun l => (fc G c).bind fun c =>
   (AK (z.length.beq i.size)).bind fun _ => (AK (i.bytes.ble 65536)).map fun _ => .lL e i.size z l c
 | .slice t x lo hi mx => (AK (!(mx.isSome && hi.isNone))).bind fun _ => (fc G x).bind fun x => (Kj G lo).bind fun lo => (Kj G hi).bind fun hi => (Kj G mx).bind fun mx => So
   ((Az P t).bind fun q => (gh P q.2).map fun s => .xo q.1 s x lo hi mx)
   (So ((uG P t).bind fun e => (gh P e).map fun s => .uL s x lo hi mx)
    ((pP P t).bind fun _ => (AK mx.isNone).map fun _ => .gd x lo hi))
 | .fieldAddr s x f => (yi P s).bind fun fs => (fc G x).bind fun x => (fs[f]?).bind fun f => (gh P f.type).bind fun s => (AK (Nat.ble 1 s)).map fun _ => .aj f.offset x
 | .field s x f => (yi P s).bind fun fs => (fc G x).bind fun x => (fs[f]?).bind fun f => (x7 P f.type).map fun g => .AX g f.offset x
 | .indexAddr t x i => (fc G x).bind fun x => (fc G i).bind fun i => So
   ((uG P t).bind fun e => (gh P e).map fun s => .cS s x i)
   ((Az P t).bind fun q => (gh P q.2).map fun s => .ny q.1 s x i)
 | .index t x i => (fc G x).bind fun x => (fc G i).bind fun i => So
   ((pP P t).map fun _ => .eu x i)
   ((Az P t).bind fun q => (gh P q.2).bind fun s => (x7 P q.2).map fun g => .uY q.1 s g x i)
 | .lookup t m k ok => (KM P t).bind fun q => (Io P q.1).bind fun c => (GS P q.2).bind fun z => (fc G m).bind fun m => (fc G k).map fun k => .lookup c z ok m k
 | .mapUpdate t m k x => (KM P t).bind fun q => (Io P q.1).bind fun c => (fc G m).bind fun m => (fc G k).bind fun k => (fc G x).map fun x => .pg c m k x
 | .insert t m k x => (KM P t).bind fun q => (Io P q.1).bind fun c => (fc G m).bind fun m => (fc G k).bind fun k => (fc G x).map fun x => .pg c m k x
 | .typeAssert x _ t false => (DT P t).bind fun _ => (fc G x).map (.pT t)
 | .extract x i => (fc G x).map fun x => .extract x i
 | .call c => (Ae G c.args.toList).bind fun a => match c.callee with
  | .builtin b => vp P b c.argTypes.toList a
  | _ => none
 | _ => none
def E2 (o : Oper) : Option Aq :=
 match o.op with
 | .call ⟨.value f, xs, _⟩ => (Ae G xs.toList).bind fun a => (fc G f).map fun f => .call f a
 | .defer ⟨.value f, xs, _⟩ => (Ae G xs.toList).bind fun a => (fc G f).map fun f => .defer f a
 | .panic x => (fc G x).map .panic
 | _ => (UK P G o).map .val
def UI (n : Nat) : Option Nat -> Bool
 | some d => Nat.ble (d + 1) n
 | none => true
def ul (n : Nat) (ops : Array Oper) (o : Oper) : Option ba :=
 match E2 P G o with
 | none => none
 | some op => bif UI n o.dst then
   match o.guard with
   | none => some ⟨o.dst, op, none⟩
   | some (j, w) => match (ops[j]?).bind (·.dst) with
    | some t => some ⟨o.dst, op, some (t, w)⟩
    | none => none
  else none
def fL (e : Edge) : Bool := match e.ground with | .textOnly _ | .gcOnly _ => false | _ => true
def fu : List Oper -> List (List Nat) -> List (List Nat)
 | [], acc => acc
 | o :: r, acc => fu r (acc ++ [(o.after.toList.filter fL).flatMap fun e => e.on :: acc.getD e.on []])
def AL (BT : List Nat) : List Edge -> Nat
 | [] => 0
 | e :: r => bif fL e then (2 ^ e.on ||| BT.getD e.on 0) ||| AL BT r else AL BT r
def Jv : List Oper -> List Nat -> List Nat
 | [], acc => acc
 | o :: r, acc => Jv r (acc ++ [AL acc o.after.toList])
def named (o : ba) : List Nat :=
 o.dst.toList ++ tmpsOf (oV o.op) ++ (match o.guard with | some (t, _) => [t] | none => [])
def u6 : List Oper -> Nat -> Bool
 | [], _ => true
 | o :: r, i => (o.after.toList.all fun e => !fL e || Nat.ble (e.on + 1) i) && u6 r (i + 1)
def MK (n : Nat) : List (Nat × Nat) := (List.range n).flatMap fun j => (List.range j).map fun i => (i, j)
def sb (ops : List Oper) (is : List ba) : Option (List (Nat × Nat)) :=
 let msk := Jv ops []
 let open_ := (MK is.length).filter fun (i, j) => !(msk.getD j 0).testBit i
 let at_ (i : Nat) : Nat := ((is[i]?).map fun o => sort o.op).getD 3
 let nm (i : Nat) : List Nat := ((is[i]?).map named).getD []
 let dst (i : Nat) : Option Nat := (is[i]?).bind (·.dst)
 bif u6 ops 0 && open_.all fun (i, j) => !(at_ i == 3 && at_ j == 3) &&
   (match dst i with | some t => !(nm j).contains t | none => true) && (match dst j with | some t => !(nm i).contains t | none => true)
 then some (open_.flatMap fun (i, j) => bif at_ i == 2 && at_ j == 3 then [(i, j)] else bif at_ i == 3 && at_ j == 2 then [(j, i)] else [])
 else none
def gi (n : Nat) : Code -> Option aE
 | .skip => some .skip
 | .region _ ops false => (ops.toList.mapM (ul P G n ops)).map .region
 | .region _ ops true => match ops.toList.mapM (ul P G n ops) with
  | some is => (sb ops.toList is).map (.draw is)
  | none => none
 | .seq a b => match gi n a, gi n b with
  | some a, some b => some (.seq a b)
  | _, _ => none
 | .cond c a b => match fc G c, gi n a, gi n b with
  | some c, some a, some b => some (.cond c a b)
  | _, _, _ => none
 | .block id a => (gi n a).map (.block id)
 | .loop a => (gi n a).map .loop
 | .exit id => some (.exit id)
 | .ret => some .ret
 | .scope a => gi n a
 | .label _ => some .skip
 | _ => none
def Na (o : Oper) : Bool := match o.op, o.guard with
 | .call ⟨.builtin .recover, xs, _⟩, none => xs.isEmpty
 | _, _ => false
def iL (n : Nat) : Code -> Option (Nat × aE)
 | .region _ ops false => match ops.toList with
  | o :: r => bif Na o then match o.dst with
    | some d => bif Nat.ble (d + 1) n then (r.mapM (ul P G n ops)).map fun is => (d, .region is) else none
    | none => none
   else none
  | [] => none
 | .seq a b => match iL n a, gi P G n b with
  | some (d, a), some b => some (d, .seq a b)
  | _, _ => none
 | _ => none
def Ad : ResultVar -> Option lX
 | .tmp t => some (.tmp t)
 | .cell a t => (x7 P t).map (.cell a)
def bP (f : Func) : Option au :=
 match f.body with
 | none => none
 | some c => bif f.name == "runtime.NumGoroutine" then none else match gi P G f.ntmps c, f.results.toList.mapM (Ad P) with
  | some b, some r => some ⟨f.ntmps, b, r⟩
  | _, _ => none
def NZ (f : Func) : Option (Nat × au) :=
 match f.body with
 | none => none
 | some c => bif f.name == "runtime.NumGoroutine" then none else match iL P G f.ntmps c, f.results.toList.mapM (Ad P) with
  | some (d, b), some r => some (d, ⟨f.ntmps, b, r⟩)
  | _, _ => none
end
def QJ (P : Program) (G : List Nat) (n : Nat) : Code -> List String
 | .region _ ops d => (ops.toList.filter fun o => (ul P G n ops o).isNone).map (fun o => o.pos ++ " op") ++
   (match ops.toList.mapM (ul P G n ops) with | some is => if d && (sb ops.toList is).isNone then ["an open order " ++ ((ops[0]?).map (·.pos)).getD ""] else [] | none => [])
 | .seq a b | .cond _ a b => QJ P G n a ++ QJ P G n b
 | .block _ a | .loop a | .scope a => QJ P G n a
 | .skip | .exit _ | .ret | .label _ => []
 | .goto _ => ["goto"]
 | .rangeFunc .. => ["rangeFunc"]
 | .refuse w => ["refuse " ++ w]
end
section
structure Loc where
 de : Nat
 off : Nat
 total : Nat
 esz : Nat
 ro : Bool
abbrev ev := Nat -> Option Loc
mutual
inductive VR (ρ : ev) : EV -> Value -> Prop
 | undef : VR ρ .undef undef
 | bool (b : Bool) : VR ρ (.bool b) (.bool b)
 | int (k : IntKind) (n : Int) : VR ρ (.int k n) (.int k n)
 | str (s : ByteArray) : VR ρ (.str s.data.toList) (.string s)
 | bL : VR ρ .bL (.pointer none)
 | ptr {b off : Nat} {L : Loc} (h : ρ b = some L) : VR ρ (.ptr b off) (.pointer (some ⟨L.de, L.off + off, none⟩))
 | ae : VR ρ .ae (.slice none 0 0)
 | slice {b off len c o : Nat} {L : Loc} (h : ρ b = some L) (hc : len <= c) (ho : 0 < len -> o = L.off + off) (hr : L.ro = false -> o + c * L.esz <= L.total) :
   VR ρ (.slice b off len none) (.slice (some ⟨L.de, o, none⟩) len c)
 | gN {b off : Nat} {a : Addr} : VR ρ (.slice b off 0 (some 0)) (.slice (some a) 0 0)
 | fG {b off len c o : Nat} {L : Loc} (h : ρ b = some L) (hc : len <= c) (ho : 0 < c -> o = L.off + off) : VR ρ (.slice b off len (some c)) (.slice (some ⟨L.de, o, none⟩) len c)
 | bz : VR ρ .bz (.map none)
 | map {b : Nat} {L : Loc} (h : ρ b = some L) : VR ρ (.map b) (.map (some L.de))
 | aO : VR ρ .aO .nilFunc
 | func {f : Nat} {x y : List EV} {x' y' : List Value} (hx : fx ρ x x') (hy : fx ρ y y') : VR ρ (.func f x y) (.func (.func f) ⟨x'⟩ ⟨y'⟩)
 | aD : VR ρ .aD .nilIface
 | iface {t : Nat} {v : EV} {v' : Value} (h : VR ρ v v') : VR ρ (.iface t v) (.iface t v')
 | agg {x : List EV} {x' : List Value} (h : fx ρ x x') (hf : ∀ c ∈ x', c.oneCell' = true) : VR ρ (.agg x) (.agg ⟨x'⟩)
 | tuple {x : List EV} {x' : List Value} (h : fx ρ x x') : VR ρ (.tuple x) (.tuple ⟨x'⟩)
inductive fx (ρ : ev) : List EV -> List Value -> Prop
 | nil : fx ρ [] []
 | cons {v : EV} {v' : Value} {x : List EV} {x' : List Value} (h : VR ρ v v') (hs : fx ρ x x') : fx ρ (v :: x) (v' :: x')
end
def Ext (ρ ρ' : ev) : Prop := ∀ b L, ρ b = some L -> ρ' b = some L
theorem Ext.refl (ρ : ev) : Ext ρ ρ := fun _ _ h => h
theorem Ext.trans {ρ ρ' ρ'' : ev} (h : Ext ρ ρ') (h' : Ext ρ' ρ'') : Ext ρ ρ'' := fun b L e => h' b L (h b L e)
mutual
theorem VR.ext {ρ ρ' : ev} (e : Ext ρ ρ') : ∀ {v : EV} {v' : Value}, VR ρ v v' -> VR ρ' v v'
 | _, _, .undef => .undef
 | _, _, .bool b => .bool b
 | _, _, .int k n => .int k n
 | _, _, .str s => .str s
 | _, _, .bL => .bL
 | _, _, .ptr h => .ptr (e _ _ h)
 | _, _, .ae => .ae
 | _, _, .slice h hc ho hr => .slice (e _ _ h) hc ho hr
 | _, _, .fG h hc ho => .fG (e _ _ h) hc ho
 | _, _, .gN => .gN
 | _, _, .bz => .bz
 | _, _, .map h => .map (e _ _ h)
 | _, _, .aO => .aO
 | _, _, .func hx hy => .func (fx.ext e hx) (fx.ext e hy)
 | _, _, .aD => .aD
 | _, _, .iface h => .iface (VR.ext e h)
 | _, _, .agg h hf => .agg (fx.ext e h) hf
 | _, _, .tuple h => .tuple (fx.ext e h)
theorem fx.ext {ρ ρ' : ev} (e : Ext ρ ρ') : ∀ {x : List EV} {x' : List Value}, fx ρ x x' -> fx ρ' x x'
 | _, _, .nil => .nil
 | _, _, .cons h hs => .cons (VR.ext e h) (fx.ext e hs)
end
theorem fx.length {ρ : ev} : ∀ {x : List EV} {x' : List Value}, fx ρ x x' -> x.length = x'.length
 | _, _, .nil => rfl
 | _, _, .cons _ hs => by simp [fx.length hs]
theorem fx.get {ρ : ev} : ∀ {x : List EV} {x' : List Value}, fx ρ x x' -> ∀ (i : Nat) (v : EV), x[i]? = some v -> ∃ v', x'[i]? = some v' /\ VR ρ v v'
 | _, _, .nil, i, v, h => by simp at h
 | _, _, .cons (v := a) (v' := a') h0 hs, i, v, h => by
  cases i with
  | zero => simp at h; subst h; exact ⟨a', rfl, h0⟩
  | succ i => simp at h; obtain ⟨v', hv, hr⟩ := hs.get i v h; exact ⟨v', by simpa using hv, hr⟩
theorem fx.qU {ρ : ev} : ∀ {x : List EV} {x' : List Value}, x.length = x'.length -> (∀ (i : Nat) (v : EV) (v' : Value), x[i]? = some v -> x'[i]? = some v' -> VR ρ v v') -> fx ρ x x'
 | [], [], _, _ => .nil
 | [], _ :: _, h, _ => by simp at h
 | _ :: _, [], h, _ => by simp at h
 | a :: x, a' :: x', h, hg => .cons (hg 0 a a' rfl rfl) (fx.qU (by simpa using h) fun i v v' hv rM => hg (i + 1) v v' (by simpa using hv) (by simpa using rM))
theorem fx.append {ρ : ev} : ∀ {x y : List EV} {x' y' : List Value}, fx ρ x x' -> fx ρ y y' -> fx ρ (x ++ y) (x' ++ y')
 | _, _, _, _, .nil, h => h
 | _, _, _, _, .cons h hs, k => .cons h (hs.append k)
theorem fx.take {ρ : ev} {x : List EV} {x' : List Value} (h : fx ρ x x') (n : Nat) : fx ρ (x.take n) (x'.take n) := by
 refine fx.qU (by simp [h.length]) fun i v v' hv rM => ?_
 rw [List.getElem?_take] at hv rM
 split at hv
 ·obtain ⟨u, hu, hr⟩ := h.get i v hv
  rename_i bn
  rw [if_pos bn] at rM
  rw [hu] at rM; cases rM; exact hr
 ·cases hv
theorem fx.drop {ρ : ev} {x : List EV} {x' : List Value} (h : fx ρ x x') (n : Nat) : fx ρ (x.drop n) (x'.drop n) := by
 refine fx.qU (by simp [h.length]) fun i v v' hv rM => ?_
 rw [List.getElem?_drop] at hv rM
 obtain ⟨u, hu, hr⟩ := h.get _ v hv
 rw [hu] at rM; cases rM; exact hr
theorem fx.HG {ρ : ev} {α β : Type} (f : α -> EV) (g : β -> Value) {R : α -> β -> Prop} (hfg : ∀ a b, R a b -> VR ρ (f a) (g b)) : ∀ {l : List α} {l' : List β}, l.length = l'.length -> (∀ (i : Nat) (a : α) (b : β), l[i]? = some a -> l'[i]? = some b -> R a b) -> fx ρ (l.map f) (l'.map g)
 | [], [], _, _ => .nil
 | [], _ :: _, h, _ => by simp at h
 | _ :: _, [], h, _ => by simp at h
 | a :: x, a' :: x', h, hg => .cons (hfg _ _ (hg 0 a a' rfl rfl)) (fx.HG f g hfg (by simpa using h) fun i v v' hv rM => hg (i + 1) v v' (by simpa using hv) (by simpa using rM))
def Live (m : Mem) (b : Nat) : Prop := m.get b ≠ .dead
def PM (fz : Nat × Nat) (n : Nat) : Prop := ∀ i, i < n -> ¬ (fz.1 <= i /\ i < fz.2)
def Wq (ρ : ev) (e : EV × EV) (d : MapEntry) : Prop := VR ρ e.1 d.key /\ VR ρ e.2 d.val
def Bd (base : Nat) (ρ : ev) (B : fK) (L : Loc) (w : World) : Prop :=
 match B with
 | .dead => True
 | .cells cs esz _ ro => ∃ arr e fz, w.heap[L.de]? = some (.cells arr e fz) /\ arr.size = L.total /\ L.esz = esz /\ L.ro = ro /\ L.off + cs.length <= L.total /\
   (∀ (i : Nat) (v : EV), cs[i]? = some v -> ∃ v', arr[L.off + i]? = some v' /\ VR ρ v v' /\ v'.oneCell' = true) /\
   (ro = false -> base <= L.de /\ PM fz arr.size) /\ (ro = true -> L.de < base)
 | .map es => ∃ ds c, w.heap[L.de]? = some (.map ds c) /\ es.length = ds.size /\ (∀ (i : Nat) (e : EV × EV) (d : MapEntry), es[i]? = some e -> ds[i]? = some d -> Wq ρ e d) /\ base <= L.de /\ L.ro = false
structure R (base : Nat) (ρ : ev) (m : Mem) (w : World) : Prop where
 lt : ∀ b L, ρ b = some L -> b < m.next
 de : ∀ b L, ρ b = some L -> Bd base ρ (m.get b) L w
 inj : ∀ b c L L', ρ b = some L -> ρ c = some L' -> Live m b -> Live m c -> L.ro = false -> L.de = L'.de -> b = c
 base : base <= w.heap.size
 clean : ∀ b, m.next <= b -> m.get b = .dead
def K6 (ρ : ev) (m : Mem) (i : Nat) : Prop := ∃ b L, ρ b = some L /\ Live m b /\ L.ro = false /\ L.de = i
structure Step (ρ : ev) (m : Mem) (w : World) (ρ' : ev) (m' : Mem) (w' : World) : Prop where
 ext : Ext ρ ρ'
 new : ∀ b, ρ b = none -> ρ' b ≠ none -> m.next <= b
 next : m.next <= m'.next
 same : ∀ b, b < m.next -> ρ b = none -> m'.get b = m.get b
 dead : ∀ b, b < m.next -> m.get b = .dead -> m'.get b = .dead
 size : w.heap.size <= w'.heap.size
 K6 : ∀ i, i < w.heap.size -> K6 ρ' m' i -> K6 ρ m i
 kept : ∀ i, i < w.heap.size -> ¬ Ev.K6 ρ m i -> w'.heap[i]? = w.heap[i]?
 os : w'.os = w.os
 tape : w'.tape = w.tape
 output : w'.output = w.output
theorem Step.refl (ρ : ev) (m : Mem) (w : World) : Step ρ m w ρ m w :=
 ⟨.refl ρ, fun _ h h' => absurd h h', fy _, fun _ _ _ => rfl, fun _ _ h => h, fy _, fun _ _ h => h, fun _ _ _ => rfl, rfl, rfl, rfl⟩
theorem Step.trans {ρ ρ1 ρ2 : ev} {m m1 m2 : Mem} {w w1 w2 : World} (h : Step ρ m w ρ1 m1 w1) (k : Step ρ1 m1 w1 ρ2 m2 w2) : Step ρ m w ρ2 m2 w2 := by
 refine ⟨h.ext.trans k.ext, ?_, pN h.next k.next, ?_, fun b hb hd => k.dead b (mn hb h.next) (h.dead b hb hd), pN h.size k.size, ?_, ?_, k.os.trans h.os, k.tape.trans h.tape, k.output.trans h.output⟩
 ·intro b hb Pg
  cases e : ρ1 b with
  | none => exact pN h.next (k.new b e Pg)
  | some L => exact h.new b hb (by rw [e]; simp)
 ·intro b hb hn
  have h1 : ρ1 b = none := by
   cases e : ρ1 b with
   | none => rfl
   | some L => have := h.new b hn (by rw [e]; simp); omega
  rw [k.same b (mn hb h.next) h1, h.same b hb hn]
 ·intro i hi hr
  exact h.K6 i hi (k.K6 i (mn hi h.size) hr)
 ·intro i hi hr
  rw [k.kept i (mn hi h.size) (fun VB => hr (h.K6 i hi VB)), h.kept i hi hr]
theorem Mem.bW (m : Mem) (b c : Nat) (x : fK) : (m.set b x).get c = if c = b then x else m.get c := by
 unfold Mem.get Mem.set;simp only [Tr.bW]
 split <;> rfl
theorem Mem.fq (m : Mem) (c : Nat) (x : fK) : (m.new x).get c = if c = m.next then x else m.get c := by
 unfold Mem.get Mem.new;simp only [Tr.bW]
 split <;> rfl
theorem Mem.jl (m : Mem) (x : fK) : (m.new x).next = m.next + 1 := rfl
theorem Mem.cg (m : Mem) (b : Nat) (x : fK) : (m.set b x).next = m.next := rfl
structure Fi (w w' : World) : Prop where
 heap : w'.heap = w.heap
 os : w'.os = w.os
 tape : w'.tape = w.tape
 output : w'.output = w.output
theorem Fi.refl (w : World) : Fi w w := ⟨rfl, rfl, rfl, rfl⟩
theorem Bd.of_heap {base : Nat} {ρ ρ' : ev} (e : Ext ρ ρ') {B : fK} {L : Loc} {w w' : World} (hh : w'.heap[L.de]? = w.heap[L.de]?) (h : Bd base ρ B L w) : Bd base ρ' B L w' := by
 unfold Bd at *
 cases B with
 | dead => trivial
 | cells cs esz el ro =>
  obtain ⟨arr, e', fz, h1, h2, h3, h4, h5, h6, h7⟩ := h
  refine ⟨arr, e', fz, by rw [hh]; exact h1, h2, h3, h4, h5, fun i v hv => ?_, h7⟩
  obtain ⟨v', g1, g2, g3⟩ := h6 i v hv
  exact ⟨v', g1, g2.ext e, g3⟩
 | map es =>
  obtain ⟨ds, c, h1, h2, h3, h4⟩ := h
  exact ⟨ds, c, by rw [hh]; exact h1, h2, fun i a d ha hd => ⟨(h3 i a d ha hd).1.ext e, (h3 i a d ha hd).2.ext e⟩, h4⟩
theorem R.quiet {base : Nat} {ρ : ev} {m : Mem} {w w' : World} (q : Fi w w') (h : R base ρ m w) : R base ρ m w' :=
 ⟨h.lt, fun b L hb => (h.de b L hb).of_heap (.refl ρ) (by rw [q.heap]), h.inj, by rw [q.heap]; exact h.base, h.clean⟩
theorem Step.quiet {ρ : ev} {m : Mem} {w w' : World} (q : Fi w w') : Step ρ m w ρ m w' :=
 ⟨.refl ρ, fun _ h h' => absurd h h', fy _, fun _ _ _ => rfl, fun _ _ h => h, by rw [q.heap]; exact fy _, fun _ _ h => h, fun _ _ _ => by rw [q.heap], q.os, q.tape, q.output⟩
structure IE (w : World) (o : Obj) (w' : World) : Prop where
 heap : w'.heap = w.heap.push o
 os : w'.os = w.os
 tape : w'.tape = w.tape
 output : w'.output = w.output
theorem IE.old {w w' : World} {o : Obj} (g : IE w o w') (i : Nat) (h : i < w.heap.size) : w'.heap[i]? = w.heap[i]? := by
 rw [g.heap, Array.getElem?_push]; simp; omega
theorem IE.new {w w' : World} {o : Obj} (g : IE w o w') : w'.heap[w.heap.size]? = some o := by rw [g.heap]; simp
theorem Bd.lt {base : Nat} {ρ : ev} {B : fK} {L : Loc} {w : World} (h : Bd base ρ B L w) (hl : B ≠ .dead) : L.de < w.heap.size := by
 cases B with
 | dead => exact absurd rfl hl
 | cells cs esz el ro => obtain ⟨arr, e', fz, h1, _⟩ := h; exact (Array.getElem?_eq_some_iff.1 h1).1
 | map es => obtain ⟨ds, c, h1, _⟩ := h; exact (Array.getElem?_eq_some_iff.1 h1).1
def ev.put (ρ : ev) (b : Nat) (L : Loc) : ev := fun c => if c = b then some L else ρ c
theorem ev.H4 {ρ : ev} {b : Nat} (L : Loc) (h : ρ b = none) : Ext ρ (ρ.put b L) := by
 intro c M hc
 unfold ev.put;by_cases e : c = b
 ·subst e; rw [h] at hc; cases hc
 ·rw [if_neg e]; exact hc
theorem R.Ud {base : Nat} {ρ : ev} {m : Mem} {w : World} (h : R base ρ m w) : ρ m.next = none := by
 cases e : ρ m.next with
 | none => rfl
 | some L => have := h.lt _ _ e; omega
structure RN (base : Nat) (ρ : ev) (m : Mem) (w : World) : Prop where
 free : ρ m.next = none
 de : ∀ b L, ρ b = some L -> Bd base ρ (m.get b) L w
 inj : ∀ b c L L', ρ b = some L -> ρ c = some L' -> Live m b -> Live m c -> L.ro = false -> L.de = L'.de -> b = c
 base : base <= w.heap.size
theorem R.n {base : Nat} {ρ : ev} {m : Mem} {w : World} (h : R base ρ m w) : RN base ρ m w := ⟨h.Ud, h.de, h.inj, h.base⟩
structure Made (base : Nat) (ρ : ev) (m : Mem) (w : World) (ρ' : ev) (B : fK) (w' : World) : Prop where
 de : ∀ b L, ρ' b = some L -> Bd base ρ' ((m.new B).get b) L w'
 inj : ∀ b c L L', ρ' b = some L -> ρ' c = some L' -> Live (m.new B) b -> Live (m.new B) c -> L.ro = false -> L.de = L'.de -> b = c
 base : base <= w'.heap.size
 ext : Ext ρ ρ'
 YE : ∀ b, b ≠ m.next -> ρ' b = ρ b
 loc : ∃ L, ρ' m.next = some L /\ L.de = w.heap.size
 size : w'.heap.size = w.heap.size + 1
 old : ∀ i, i < w.heap.size -> w'.heap[i]? = w.heap[i]?
 os : w'.os = w.os
 tape : w'.tape = w.tape
 output : w'.output = w.output
theorem Jp {base : Nat} {ρ : ev} {m : Mem} {w w' : World} (h : RN base ρ m w) (B : fK) (o : Obj) (g : IE w o w') (L : Loc) (hb : L.de = w.heap.size)
  (hB : Bd base (ρ.put m.next L) B L w') : Made base ρ m w (ρ.put m.next L) B w' := by
 have hn := h.free
 have he := ev.H4 L hn
 have uh : w'.heap.size = w.heap.size + 1 := by rw [g.heap]; simp
 have HL : ∀ b M, ρ b = some M -> Live m b -> M.de < w.heap.size := fun b M hM hl => (h.de b M hM).lt hl
 have iv : ∀ b, b ≠ m.next -> (m.new B).get b = m.get b := fun b iM => by rw [Mem.fq, if_neg iM]
 refine ⟨?_, ?_, ?_, he, fun b iM => if_neg iM, ⟨L, if_pos rfl, hb⟩, uh, fun i hi => g.old i hi, g.os, g.tape, g.output⟩
 ·intro b M hM
  unfold ev.put at hM;by_cases e : b = m.next
  ·rw [if_pos e] at hM; cases hM
   rw [Mem.fq, if_pos e]; exact hB
  ·rw [if_neg e] at hM
   rw [iv b e];by_cases hl : m.get b = .dead
   ·rw [hl]; trivial
   ·exact (h.de b M hM).of_heap he (g.old _ (HL b M hM hl))
 ·intro b c M M' hM HY hl zl qY xl
  unfold ev.put at hM HY
  by_cases e : b = m.next <;> by_cases e' : c = m.next
  ·rw [e, e']
  ·rw [if_pos e] at hM; cases hM
   rw [if_neg e'] at HY
   have := HL c M' HY (by unfold Live at zl ⊢; rwa [iv c e'] at zl)
   omega
  ·rw [if_pos e'] at HY; cases HY
   rw [if_neg e] at hM;have := HL b M hM (by unfold Live at hl ⊢; rwa [iv b e] at hl)
   omega
  ·rw [if_neg e] at hM; rw [if_neg e'] at HY
   exact h.inj b c M M' hM HY (by unfold Live at hl ⊢; rwa [iv b e] at hl) (by unfold Live at zl ⊢; rwa [iv c e'] at zl) qY xl
 ·have := h.base; omega
theorem Made.whole {base : Nat} {ρ ρ' : ev} {m : Mem} {w w' : World} {B : fK} (h : R base ρ m w) (k : Made base ρ m w ρ' B w') : R base ρ' (m.new B) w' /\ Step ρ m w ρ' (m.new B) w' := by
 have iv : ∀ b, b ≠ m.next -> (m.new B).get b = m.get b := fun b iM => by rw [Mem.fq, if_neg iM]
 refine ⟨⟨?_, k.de, k.inj, k.base, fun b hb => by rw [Mem.jl] at hb; rw [iv b (by omega)]; exact h.clean b (by omega)⟩, ⟨k.ext, ?_, ?_, ?_, fun b hb hd => by rw [iv b (by omega)]; exact hd, by have := k.size; omega, ?_, fun i hi _ => k.old i hi, k.os, k.tape, k.output⟩⟩
 ·intro b M hM
  rw [Mem.jl];by_cases e : b = m.next
  ·omega
  ·rw [k.YE b e] at hM; have := h.lt b M hM; omega
 ·intro b AU Pg
  by_cases e : b = m.next
  ·omega
  ·rw [k.YE b e] at Pg; exact absurd AU Pg
 ·rw [Mem.jl]; omega
 ·intro b bn _
  exact iv b (by omega)
 ·rintro i hi ⟨b, M, hM, hl, qY, xl⟩
  by_cases e : b = m.next
  ·subst e
   obtain ⟨L, h1, h2⟩ := k.loc
   rw [h1] at hM; cases hM; omega
  ·rw [k.YE b e] at hM
   exact ⟨b, M, hM, by unfold Live at hl ⊢; rwa [iv b e] at hl, qY, xl⟩
end
section
theorem run_typeInfo {P : Program} {t : TypeId} {i : TypeInfo} (h : P.info? t = some i) (w : World) : (typeInfo t).run P w = .ok i w := by
 simp [typeInfo, h]
theorem b8 {P : Program} {t : TypeId} {n : Nat} (h : gh P t = some n) (w : World) : (sizeOf t).run P w = .ok n w := by
 unfold gh at h;obtain ⟨i, hi, rfl⟩ := j8.1 h
 simp [sizeOf, run_typeInfo hi]
theorem GA {P : Program} {t : TypeId} {g : Option Nat} (h : x7 P t = some g) (w : World) :
  (isAgg t).run P w = .ok g.isSome w /\ ∀ n, g = some n -> (sizeOf t).run P w = .ok n w := by
 unfold x7 at h
 cases hu : P.underlying t with
 | none => rw [hu] at h; simp at h
 | some d =>
  cases hi : P.info? t with
  | none => rw [hu, hi] at h; cases d <;> simp at h
  | some i =>
   rw [hu, hi] at h;have hs : (sizeOf t).run P w = .ok i.size w := by simp [sizeOf, run_typeInfo hi]
   cases d <;> simp at h <;> subst h <;> simp [isAgg, run_underlying hu] <;> exact hs
theorem NY {w : World} {b o : Nat} {arr : Array Value} {e : TypeId} {fz : Nat × Nat} (h : w.heap[b]? = some (.cells arr e fz)) : w.cell? ⟨b, o, none⟩ = arr[o]? := by
 simp [World.cell?, h]
theorem Pk {w : World} {b o : Nat} {arr : Array Value} {e : TypeId} {fz : Nat × Nat} (h : w.heap[b]? = some (.cells arr e fz)) (hf : PM fz arr.size) (ho : o < arr.size) : w.frozen? ⟨b, o, none⟩ = false := by
 have := hf o ho
 simp [World.frozen?, h]
 omega
section
variable {base : Nat} {ρ : ev} {m : Mem} {w : World}
theorem R.cell (h : R base ρ m w) {b : Nat} {L : Loc} (hb : ρ b = some L) {cs : List EV} {esz el : Nat} {ro : Bool} (hg : m.get b = .cells cs esz el ro) (i : Nat) (v : EV) (hi : cs[i]? = some v) :
  ∃ v', w.cell? ⟨L.de, L.off + i, none⟩ = some v' /\ VR ρ v v' /\ v'.oneCell' = true := by
 have := h.de b L hb
 rw [hg] at this;obtain ⟨arr, e, fz, h1, _, _, _, _, h6, _⟩ := this
 obtain ⟨v', g1, g2, g3⟩ := h6 i v hi
 exact ⟨v', by rw [NY h1]; exact g1, g2, g3⟩
theorem R.cells (h : R base ρ m w) {b : Nat} {L : Loc} (hb : ρ b = some L) {cs : List EV} {esz el : Nat} {ro : Bool} (hg : m.get b = .cells cs esz el ro) (off n : Nat) (hl : off + n <= cs.length) :
  ∃ vs : List Value, vs.length = n /\ (∀ j, j < n -> w.cell? ⟨L.de, L.off + off + j, none⟩ = vs[j]?) /\ fx ρ ((cs.drop off).take n) vs /\ ∀ c ∈ vs, c.oneCell' = true := by
 induction n generalizing off with
 | zero => exact ⟨[], rfl, fun j hj => absurd hj (by omega), by simpa using fx.nil, by simp⟩
 | succ n ih =>
  obtain ⟨vs, h1, h2, h3, h4⟩ := ih (off + 1) (by omega)
  have bn : off < cs.length := by omega
  obtain ⟨v', g1, g2, g3⟩ := h.cell hb hg off cs[off] (nc bn)
  refine ⟨v' :: vs, by simp [h1], ?_, ?_, ?_⟩
  ·intro j hj
   cases j with
   | zero => simpa using g1
   | succ j => have := h2 j (by omega); rw [show L.off + off + (j + 1) = L.off + (off + 1) + j by omega]; simpa using this
  ·rw [List.drop_eq_getElem_cons bn, List.take_succ_cons]
   exact .cons g2 h3
  ·intro c hc
   rcases oU.1 hc with rfl | hc
   ·exact g3
   ·exact h4 c hc
end
theorem qj {P : Program} {w : World} {b o : Nat} : ∀ (vs : List Value) (i : Nat) (acc : Array Value), (∀ j, j < vs.length -> w.cell? ⟨b, o + i + j, none⟩ = vs[j]?) ->
  (loadCellsFrom ⟨b, o, none⟩ i vs.length acc).run P w = .ok (acc ++ (⟨vs⟩ : Array Value)) w
 | [], i, acc, _ => by simp [loadCellsFrom]
 | v :: vs, i, acc, h => by
  have h0 := h 0 (by simp)
  simp at h0
  have ih := qj (P := P) (w := w) (b := b) (o := o) vs (i + 1) (acc.push v) (fun j hj => by
   have := h (j + 1) (by simpa using hj)
   rw [show o + (i + 1) + j = o + i + (j + 1) by omega]; simpa using this)
  simp only [List.length_cons, loadCellsFrom, Sem.run_bind, run_load, Addr.add_lit, h0, Result.andThen_ok, ih]
  congr 1
  simp
theorem xv {P : Program} {w : World} {b o : Nat} (vs : List Value) (n : Nat) (hn : vs.length = n) (h : ∀ j, j < n -> w.cell? ⟨b, o + j, none⟩ = vs[j]?) :
  (loadCells ⟨b, o, none⟩ n).run P w = .ok ⟨vs⟩ w := by
 subst hn;have := qj (P := P) (w := w) (b := b) (o := o) vs 0 #[] (fun j hj => by simpa using h j hj)
 simpa [loadCells] using this
section
variable {base : Nat} {ρ : ev} {m : Mem} {w : World} {P : Program}
theorem xu (hR : R base ρ m w) {t : TypeId} {g : Option Nat} (hg : x7 P t = some g) {e v : EV} {a' : Value} (ha : VR ρ e a') (h : m.load g e = some v) :
  ∃ a v', a' = .pointer (some a) /\ (loadVar t a).run P w = .ok v' w /\ VR ρ v v' := by
 cases e <;> simp [Mem.load] at h
 case fI => cases ha
 rename_i b off
 cases ha with
 | @ptr _ _ L hb =>
 refine ⟨⟨L.de, L.off + off, none⟩, ?_⟩
 cases hm : m.get b with
 | dead => simp [hm] at h
 | map es => simp [hm] at h
 | cells cs esz el ro =>
  simp [hm] at h
  obtain ⟨Yg, uh⟩ := GA hg w
  cases g with
  | none =>
   simp [partOf] at h
   obtain ⟨v', h1, h2, _⟩ := hR.cell hb hm off v (by simpa using h)
   exact ⟨v', rfl, by simp [loadVar, Yg, h1], h2⟩
  | some n =>
   simp only [partOf] at h
   cases hl : (off + n).ble cs.length <;> simp [hl] at h
   subst h;obtain ⟨vs, h1, h2, h3, h4⟩ := hR.cells hb hm off n (qS hl)
   refine ⟨.agg ⟨vs⟩, rfl, ?_, .agg h3 h4⟩
   simp [loadVar, Yg, uh n rfl, xv vs n h1 h2]
theorem Gj (hR : R base ρ m w) {b off n : Nat} {L : Loc} (hb : ρ b = some L) {xs : List EV} (h : m.row b off n = some xs) :
  ∃ vs : List Value, vs.length = n /\ xs.length = n /\ (loadCells ⟨L.de, L.off + off, none⟩ n).run P w = .ok ⟨vs⟩ w /\ fx ρ xs vs /\ ∀ c ∈ vs, c.oneCell' = true := by
 by_cases hn : n = 0
 ·subst hn
  rw [Mem.nj] at h; cases h
  exact ⟨[], rfl, rfl, rfl, .nil, by simp⟩
 rw [Mem.p7 hn] at h;unfold Mem.Ho at h
 cases hm : m.get b with
 | dead => simp [hm] at h
 | map es => simp [hm] at h
 | cells cs esz el ro =>
  simp only [hm] at h
  cases hl : (off + n).ble cs.length <;> simp [hl] at h
  have zl := qS hl
  obtain ⟨vs, h1, h2, h3, h4⟩ := hR.cells hb hm off n zl
  refine ⟨vs, h1, ?_, xv vs n h1 h2, h ▸ h3, h4⟩
  subst h; simp; omega
theorem R.Qj {m1 : Mem} (hR : R base ρ m w) (hn : m1.next = m.next) (hg : ∀ b, m1.get b = m.get b) : R base ρ m1 w /\ Step ρ m w ρ m1 w := by
 have hl : ∀ b, Live m1 b ↔ Live m b := fun b => by unfold Live; rw [hg]
 refine ⟨⟨fun b L h => by rw [hn]; exact hR.lt b L h, fun b L h => by rw [hg]; exact hR.de b L h, fun b c L L' h1 h2 h3 h4 => hR.inj b c L L' h1 h2 ((hl b).1 h3) ((hl c).1 h4), hR.base, fun b h => by rw [hg]; exact hR.clean b (by rw [<- hn]; exact h)⟩,
  ⟨.refl ρ, fun _ h h' => absurd h h', by rw [hn]; exact fy _, fun b _ _ => hg b, fun b _ h => by rw [hg]; exact h, fy _, fun i _ h => ?_, fun _ _ _ => rfl, rfl, rfl, rfl⟩⟩
 obtain ⟨b, L, h1, h2, h3, h4⟩ := h
 exact ⟨b, L, h1, (hl b).1 h2, h3, h4⟩
theorem Ob {m m1 : Mem} {b off : Nat} (h : m.write b off [] = some m1) : m1.next = m.next /\ ∀ c, m1.get c = m.get c := by
 unfold Mem.write at h
 cases hm : m.get b with
 | dead => simp [hm] at h
 | map es => simp [hm] at h
 | cells cs e t ro =>
  simp only [hm] at h
  cases ro <;> simp only [cond_true, cond_false, reduceCtorEq] at h
  obtain ⟨cs1, h1, rfl⟩ := j8.1 h
  unfold iW at h1
  cases hl : (off + ([] : List EV).length).ble cs.length <;> simp only [hl, cond_true, cond_false, reduceCtorEq, bf] at h1
  have : cs1 = cs := by rw [<- h1]; simp
  subst this;refine ⟨rfl, fun c => ?_⟩
  rw [Mem.bW]
  split
  ·rename_i e; subst e; exact hm.symm
  ·rfl
theorem oX {b o : Nat} {e : TypeId} {fz : Nat × Nat} : ∀ (vs : List Value) (i : Nat) (w : World) (arr : Array Value), w.heap[b]? = some (.cells arr e fz) -> o + i + vs.length <= arr.size -> PM fz arr.size ->
  (∀ c ∈ vs, c.oneCell' = true) -> ∃ w' Iv, (storeCells ⟨b, o, none⟩ vs i).run P w = .ok () w' /\ w'.heap[b]? = some (.cells Iv e fz) /\ Iv.size = arr.size /\
   (∀ j, Iv[j]? = if o + i <= j /\ j < o + i + vs.length then vs[j - (o + i)]? else arr[j]?) /\ (∀ k, k ≠ b -> w'.heap[k]? = w.heap[k]?) /\ w'.heap.size = w.heap.size /\ w'.os = w.os /\ w'.tape = w.tape /\ w'.output = w.output
 | [], i, w, arr, h, _, _, _ => ⟨w, arr, rfl, h, rfl, fun j => by rw [if_neg (fun h => by have h2 := h.2; simp at h2; omega)], fun _ _ => rfl, rfl, rfl, rfl, rfl⟩
 | v :: vs, i, w, arr, h, hl, hf, hv => by
  simp at hl
  have bn : o + i < arr.size := by omega
  have hc : w.cell? ⟨b, o + i, none⟩ = some arr[o + i] := by rw [NY h, Array.getElem?_eq_getElem bn]
  have WW := Pk h hf bn
  have hv0 := hv v (by simp)
  have Yc : b < w.heap.size := (Array.getElem?_eq_some_iff.1 h).1
  have X5 : (w.setCell ⟨b, o + i, none⟩ v).heap[b]? = some (.cells (arr.setIfInBounds (o + i) v) e fz) := by
   simp [World.setCell, Array.getElem?_modify, h]
  have HV : ∀ k, k ≠ b -> (w.setCell ⟨b, o + i, none⟩ v).heap[k]? = w.heap[k]? := by
   intro k hk
   simp [World.setCell, Array.getElem?_modify, Ne.symm hk]
  obtain ⟨w', Iv, r1, r2, r3, r4, r5, r6, r7, r8, r9⟩ := oX (b := b) (o := o) vs (i + 1) (w.setCell ⟨b, o + i, none⟩ v) (arr.setIfInBounds (o + i) v) X5 (by simp; omega) (by simpa using hf) (fun c hc => hv c (by simp [hc]))
  refine ⟨w', Iv, ?_, r2, by simpa using r3, ?_, fun k hk => (r5 k hk).trans (HV k hk), by simpa using r6, r7, r8, r9⟩
  ·simp only [storeCells, Sem.run_bind, Addr.add_lit, run_store P w _ v _ hv0, hc, WW, if_false, Result.andThen_ok, re]
   exact r1
  ·intro j
   rw [r4 j];by_cases hj : j = o + i
   ·subst hj
    rw [if_neg (by omega), if_pos (by simp)];simp [bn]
   ·by_cases VP : o + (i + 1) <= j /\ j < o + (i + 1) + vs.length
    ·rw [if_pos VP, if_pos (by simp; omega)]
     rw [show j - (o + i) = (j - (o + (i + 1))) + 1 by omega];simp
    ·rw [if_neg VP, if_neg (by simp; omega)]
     rw [Array.getElem?_setIfInBounds_ne (by omega)]
end
theorem D3 {cs vs ds : List EV} {off : Nat} (h : iW cs off vs = some ds) : ds.length = cs.length /\ off + vs.length <= cs.length /\
  ∀ j, ds[j]? = if off <= j /\ j < off + vs.length then vs[j - off]? else cs[j]? := by
 unfold iW at h
 cases hl : (off + vs.length).ble cs.length <;> simp [hl] at h
 have zl := qS hl
 subst h;refine ⟨by simp; omega, zl, fun j => ?_⟩
 by_cases h1 : j < off
 ·rw [if_neg (by omega), BC (by simp; omega), List.getElem?_take, if_pos h1]
 ·rw [FA (by simp; omega)]
  have hm : min off cs.length = off := by omega
  simp only [List.length_take, hm];by_cases h2 : j < off + vs.length
  ·rw [if_pos ⟨by omega, h2⟩, BC (by omega)]
  ·rw [if_neg (by omega), FA (by omega), List.getElem?_drop]
   congr 1
   omega
section
variable {base : Nat} {ρ : ev} {m m' : Mem} {w : World} {P : Program}
theorem pO (hR : R base ρ m w) {b off : Nat} {L : Loc} (hb : ρ b = some L) {vs : List EV} {uE : List Value} (hv : fx ρ vs uE) (hf : ∀ c ∈ uE, c.oneCell' = true) (h : m.write b off vs = some m') :
  ∃ w', (storeCells ⟨L.de, L.off + off, none⟩ uE).run P w = .ok () w' /\ R base ρ m' w' /\ Step ρ m w ρ m' w' := by
 unfold Mem.write at h
 cases hm : m.get b with
 | dead => simp [hm] at h
 | map es => simp [hm] at h
 | cells cs esz el ro =>
  simp only [hm] at h
  cases ro with
  | true => simp at h
  | false =>
  simp only [cond_false] at h;obtain ⟨ds, hs, rfl⟩ := j8.1 h
  obtain ⟨s1, s2, s3⟩ := D3 hs
  have hB := hR.de b L hb
  rw [hm] at hB;obtain ⟨arr, e, fz, h1, h2, h3, h4, h5, h6, h7, h8⟩ := hB
  obtain ⟨JR, uj⟩ := h7 rfl
  have hlen := hv.length
  obtain ⟨w', Iv, r1, r2, r3, r4, r5, r6, r7, r8, r9⟩ := oX (P := P) (o := L.off + off) uE 0 w arr h1 (by omega) uj hf
  have xO : Live m b := by unfold Live; rw [hm]; simp
  have lQ : ∀ c, c ≠ b -> (m.set b (.cells ds esz el false)).get c = m.get c := fun c hc => by rw [Mem.bW, if_neg hc]
  have EF : ∀ c, Live (m.set b (.cells ds esz el false)) c -> Live m c := by
   intro c hc
   by_cases e : c = b
   ·subst e; exact xO
   ·unfold Live at hc ⊢; rwa [lQ c e] at hc
  have Yc : L.de < w.heap.size := (Array.getElem?_eq_some_iff.1 h1).1
  refine ⟨w', r1, ⟨hR.lt, ?_, ?_, by rw [r6]; exact hR.base, fun c hc => by rw [lQ c (fun e => by subst e; have := hR.lt _ _ hb; rw [Mem.cg] at hc; omega)]; exact hR.clean c hc⟩, ⟨.refl ρ, fun _ h h' => absurd h h', fy _, ?_, fun c hc hd => by rw [lQ c (fun e => by subst e; rw [hm] at hd; cases hd)]; exact hd, by omega, ?_, ?_, r7, r8, r9⟩⟩
  ·intro c M hM
   by_cases e : c = b
   ·subst e
    rw [hb] at hM; cases hM
    rw [Mem.bW, if_pos rfl];refine ⟨Iv, _, fz, r2, by omega, h3, h4, by omega, ?_, fun _ => ⟨JR, by rw [r3]; exact uj⟩, h8⟩
    intro i v hi
    rw [s3 i] at hi;rw [r4];by_cases EG : off <= i /\ i < off + vs.length
    ·rw [if_pos EG] at hi
     rw [if_pos (by omega)];obtain ⟨v', g1, g2⟩ := hv.get _ v hi
     rw [show L.off + i - (L.off + off + 0) = i - off by omega];exact ⟨v', g1, g2, hf v' (List.mem_of_getElem? g1)⟩
    ·rw [if_neg EG] at hi
     rw [if_neg (by omega)];exact h6 i v hi
   ·rw [lQ c e]
    by_cases hl : m.get c = .dead
    ·rw [hl]; trivial
    ·have iM : M.de ≠ L.de := fun xl => e (hR.inj b c L M hb hM xO hl (by rw [h4]) xl.symm).symm
     exact (hR.de c M hM).of_heap (.refl ρ) (r5 _ iM)
  ·intro c d M M' hM HY hl zl qY xl
   exact hR.inj c d M M' hM HY (EF c hl) (EF d zl) qY xl
  ·intro c hc hn
   exact lQ c (fun e => by subst e; rw [hb] at hn; cases hn)
  ·rintro i hi ⟨c, M, hM, hl, qY, xl⟩
   exact ⟨c, M, hM, EF c hl, qY, xl⟩
  ·intro i hi hr
   exact r5 i (fun e => hr ⟨b, L, hb, xO, by rw [h4], e.symm⟩)
theorem qh (hR : RN base ρ m w) {cs : List EV} {vs : List Value} (hv : fx ρ cs vs) (hf : ∀ c ∈ vs, c.oneCell' = true) (esz el : Nat) (t : TypeId) (extra : List Value) (fz : Nat × Nat) (uj : PM fz (vs.length + extra.length)) (w' : World)
  (g : IE w (.cells ⟨vs ++ extra⟩ t fz) w') : ∃ L, ρ.put m.next L m.next = some L /\ L.de = w.heap.size /\ L.off = 0 /\ L.total = vs.length + extra.length /\ L.esz = esz /\ L.ro = false /\
   Made base ρ m w (ρ.put m.next L) (.cells cs esz el false) w' := by
 let L : Loc := ⟨w.heap.size, 0, vs.length + extra.length, esz, false⟩
 have he := ev.H4 L hR.free
 have hlen := hv.length
 have a := Jp hR (.cells cs esz el false) _ g L rfl (by
  refine ⟨⟨vs ++ extra⟩, t, fz, g.new, by simp [L], rfl, rfl, by simp [L]; omega, ?_, fun _ => ⟨hR.base, by simpa using uj⟩, by simp⟩
  intro i v hi
  obtain ⟨v', g1, g2⟩ := hv.get i v hi
  refine ⟨v', ?_, g2.ext he, hf v' (List.mem_of_getElem? g1)⟩
  have bn : i < vs.length := (uz.1 g1).1
  simp [L, BC bn, g1])
 exact ⟨L, by simp [ev.put], rfl, rfl, rfl, rfl, rfl, a⟩
theorem Hz (hR : R base ρ m w) {cs : List EV} {vs : List Value} (hv : fx ρ cs vs) (hf : ∀ c ∈ vs, c.oneCell' = true) (esz el : Nat) (t : TypeId) (extra : List Value) (fz : Nat × Nat) (uj : PM fz (vs.length + extra.length)) (w' : World)
  (g : IE w (.cells ⟨vs ++ extra⟩ t fz) w') : ∃ L, ρ.put m.next L m.next = some L /\ L.de = w.heap.size /\ L.off = 0 /\ L.total = vs.length + extra.length /\ L.esz = esz /\ L.ro = false /\
   R base (ρ.put m.next L) (m.new (.cells cs esz el false)) w' /\ Step ρ m w (ρ.put m.next L) (m.new (.cells cs esz el false)) w' := by
 obtain ⟨L, h1, h2, h3, h4, h5, h6, h7⟩ := qh hR.n hv hf esz el t extra fz uj w' g
 exact ⟨L, h1, h2, h3, h4, h5, h6, h7.whole hR⟩
end
theorem AW (n : Nat) : PM (0, 0) n := fun i _ => by simp
theorem VR.cells {ρ : ev} {v : EV} {v' : Value} (h : VR ρ v v') {cs : List EV} (hc : v.cells = some cs) : fx ρ cs v'.cells.toList /\ ∀ c ∈ v'.cells.toList, c.oneCell' = true := by
 cases h <;> simp only [EV.cells, bf, reduceCtorEq] at hc <;> subst hc
 case agg h hf => exact ⟨h, hf⟩
 case ptr h => exact ⟨.cons (.ptr h) .nil, by simp [Value.cells, Value.oneCell']⟩
 case slice h1 h2 h3 h4 => exact ⟨.cons (.slice h1 h2 h3 h4) .nil, by simp [Value.cells, Value.oneCell']⟩
 case fG h1 h2 h3 => exact ⟨.cons (.fG h1 h2 h3) .nil, by simp [Value.cells, Value.oneCell']⟩
 case map h => exact ⟨.cons (.map h) .nil, by simp [Value.cells, Value.oneCell']⟩
 case func h1 h2 => exact ⟨.cons (.func h1 h2) .nil, by simp [Value.cells, Value.oneCell']⟩
 case iface h => exact ⟨.cons (.iface h) .nil, by simp [Value.cells, Value.oneCell']⟩
 all_goals exact ⟨.cons (by constructor) .nil, by simp [Value.cells, Value.oneCell']⟩
end
section
def H0 : List (Nat × List (List UInt8)) -> Nat -> Option (List (List UInt8))
 | [], _ => none
 | (g, l) :: r, b => if b = g then some l else H0 r b
def tabIn : List (Nat × List Int) -> Nat -> Option (List Int)
 | [], _ => none
 | (g, l) :: r, b => if b = g then some l else tabIn r b
end
section
def L_lex_words : List (List UInt8) := [[102, 110], [118, 97, 114], [105, 102], [101, 108, 115, 101], [119, 104, 105, 108, 101], [102, 111, 114], [98, 114, 101, 97, 107], [99, 111, 110, 116, 105, 110, 117, 101], [114, 101, 116, 117, 114, 110], [112, 114, 105, 110, 116], [108, 101, 110], [110, 101, 119], [116, 114, 117, 101], [102, 97, 108, 115, 101], [110, 105, 108], [105, 110, 116], [98, 111, 111, 108], [97, 114, 114]]
def L_lex_signs : List (List UInt8) := [[124, 124], [38, 38], [61, 61], [33, 61], [60, 61], [62, 61], [43, 37], [45, 37], [42, 37], [60], [62], [43], [45], [42], [47], [37], [33], [61], [40], [41], [123], [125], [91], [93], [44], [59]]
def globs : List (Nat × List (List UInt8)) := [(1, L_lex_words), (0, L_lex_signs)]
def FW (b : Nat) : Option (List (List UInt8)) := H0 globs b
def Xb : List (Nat × List Int) := []
def tabl (b : Nat) : Option (List Int) := tabIn Xb b
end
section
def jr (G : List Nat) (ρ : ev) : Prop := ∀ g, G.contains g = true -> ∃ L, ρ g = some L /\ L.de = g /\ L.off = 0 /\ ∀ l, tabl g = some l -> L.total = l.length
theorem jr.ext {G : List Nat} {ρ ρ' : ev} (e : Ext ρ ρ') (h : jr G ρ) : jr G ρ' := fun g hg => let ⟨L, a, b, c, d⟩ := h g hg; ⟨L, e _ _ a, b, c, d⟩
theorem mapM_some {α β : Type} (f : α -> Option β) : ∀ {l : List α} {r : List β}, l.mapM f = some r -> l.length = r.length /\ ∀ (i : Nat) (x : α) (y : β), l[i]? = some x -> r[i]? = some y -> f x = some y
 | [], r, h => by simp at h; subst h; simp
 | a :: l, r, h => by
  rw [List.mapM_cons] at h
  cases ha : f a with
  | none => simp [ha] at h
  | some b =>
   cases hl : l.mapM f with
   | none => simp [ha, hl] at h
   | some bs =>
    simp [ha, hl] at h
    subst h;obtain ⟨h1, h2⟩ := mapM_some f hl
    refine ⟨by simp [h1], fun i x y hx hy => ?_⟩
    cases i with
    | zero => simp at hx hy; subst hx hy; exact ha
    | succ i => simp at hx hy; exact h2 i x y hx hy
theorem RO {ρ : ev} {e : EV} {v : Value} (h : VR ρ e v) (hf : NF e = true) : v.oneCell' = true := by
 cases h <;> first | rfl | simp [NF] at hf
theorem Ki {ρ : ev} : ∀ (n : Nat) (v : Value) (e : EV), cV n v = some e -> VR ρ e v := by
 intro n
 induction n with
 | zero => intro v e h; simp [cV] at h
 | succ n ih =>
  have list : ∀ (l : List Value) (r : List EV), l.mapM (cV n) = some r -> fx ρ r l := by
   intro l r h
   obtain ⟨h1, h2⟩ := mapM_some _ h
   exact fx.qU h1.symm fun i v v' hv rM => ih _ _ (h2 i v' v rM hv)
  intro v e h
  unfold cV at h
  split at h
  ·cases h; constructor
  ·cases h; constructor
  ·cases h; constructor
  ·cases h; constructor
  ·cases h; constructor
  ·cases h; constructor
  ·cases h; constructor
  ·cases h; constructor
  ·rename_i f a c
   cases ha : a.toList.mapM (cV n) with
   | none => simp [ha] at h
   | some x =>
    cases hc : c.toList.mapM (cV n) with
    | none => simp [ha, hc] at h
    | some y => simp [ha, hc] at h; subst h; exact .func (list _ _ ha) (list _ _ hc)
  ·obtain ⟨x, hx, rfl⟩ := j8.1 h
   exact .iface (ih _ _ hx)
  ·rename_i cs
   cases hx : cs.toList.mapM (cV n) with
   | none => simp [hx] at h
   | some x =>
    simp only [hx] at h
    cases hf : x.all NF <;> simp [hf] at h
    subst h;have hl := list _ _ hx
    refine .agg hl fun c hc => ?_
    obtain ⟨i, hi⟩ := List.mem_iff_getElem?.1 hc
    have bn : i < x.length := by rw [hl.length]; exact (uz.1 hi).1
    obtain ⟨v', h1, h2⟩ := hl.get i x[i] (nc bn)
    rw [hi] at h1; cases h1
    exact RO h2 (List.all_eq_true.1 hf _ (Mv bn))
  ·obtain ⟨x, hx, rfl⟩ := j8.1 h
   exact .tuple (list _ _ hx)
  ·cases h
structure FR (ρ : ev) (n : Nat) (fr : Fr) (a : Act) : Prop where
 size : a.tmps.size = n
 tmp : ∀ t, VR ρ (fr.get t) (a.tmps.getD t undef)
theorem FR.ext {ρ ρ' : ev} {n : Nat} {fr : Fr} {a : Act} (e : Ext ρ ρ') (h : FR ρ n fr a) : FR ρ' n fr a := ⟨h.size, fun t => (h.tmp t).ext e⟩
theorem Fr.bW (fr : Fr) (d t : Nat) (v : EV) : (fr.set d v).get t = if t = d then v else fr.get t := by
 unfold Fr.get Fr.set;simp only [Tr.bW]
 split <;> rfl
theorem FR.put {ρ : ev} {n : Nat} {fr : Fr} {a : Act} (h : FR ρ n fr a) {d : Option Nat} (hd : ∀ x, d = some x -> x < n) {v : EV} {v' : Value} (hv : VR ρ v v') : FR ρ n (fr.put d v) (a.put d v') := by
 cases d with
 | none => exact h
 | some d =>
  have bn := hd d rfl
  refine ⟨by simp [Act.put, h.size], fun t => ?_⟩
  simp only [Fr.put, Fr.bW, Act.put];by_cases e : t = d
  ·subst e
   rw [if_pos rfl];rw [Array.getD_eq_getD_getElem?, Array.getElem?_setIfInBounds_self_of_lt (by rw [h.size]; exact bn)]
   exact hv
  ·rw [if_neg e]
   rw [Array.getD_eq_getD_getElem?, Array.getElem?_setIfInBounds_ne (by omega), <- Array.getD_eq_getD_getElem?];exact h.tmp t
section
variable {G : List Nat} {ρ : ev} {n : Nat} {fr : Fr} {a : Act}
theorem ia (hG : jr G ρ) (hF : FR ρ n fr a) {x : Operand} {y : aW} (h : fc G x = some y) : VR ρ (fr.eval y) (a.eval x) := by
 cases x with
 | tmp t => simp [fc] at h; subst h; exact hF.tmp t
 | const v => simp [fc] at h; obtain ⟨e, he, rfl⟩ := h; exact Ki _ _ _ he
 | global g =>
  simp only [fc] at h
  cases hg : G.contains g <;> simp only [hg, cond_true, cond_false, reduceCtorEq, bf] at h
  subst h;obtain ⟨L, h1, h2, h3, _⟩ := hG g hg
  have := VR.ptr (off := 0) h1
  rw [h2, h3] at this;exact this
 | func f => simp [fc] at h; subst h; exact .func .nil .nil
theorem nG (hG : jr G ρ) (hF : FR ρ n fr a) {xs : List Operand} {ys : List aW} (h : Ae G xs = some ys) : fx ρ (ys.map fr.eval) (xs.map a.eval) := by
 obtain ⟨h1, h2⟩ := mapM_some _ h
 exact fx.HG _ _ (R := fun y x => fc G x = some y) (fun y x hxy => ia hG hF hxy) h1.symm fun i y x hy hx => h2 i x y hx hy
inductive uc (ρ : ev) : Option EV -> Option Value -> Prop
 | none : uc ρ none none
 | some {v : EV} {v' : Value} (h : VR ρ v v') : uc ρ (some v) (some v')
theorem Me (hG : jr G ρ) (hF : FR ρ n fr a) {x : Option Operand} {y : Option aW} (h : Kj G x = some y) : uc ρ (y.map fr.eval) (x.map a.eval) := by
 cases x with
 | none => simp [Kj] at h; subst h; exact .none
 | some x => simp [Kj] at h; obtain ⟨z, hz, rfl⟩ := h; exact .some (ia hG hF hz)
end
def Good (base : Nat) (ρ : ev) (m : Mem) (w : World) (v : EV) (m' : Mem) (r : Result Next) : Prop :=
 ∃ ρ' w' v', (r = .ok (.value v') w' \/ (r = .ok .skip w' /\ v' = undef)) /\ VR ρ' v v' /\ R base ρ' m' w' /\ Step ρ m w ρ' m' w'
section
variable {base : Nat} {ρ : ev} {m : Mem} {w : World} {P : Program}
theorem Good.still (hR : R base ρ m w) {v : EV} {v' : Value} {s : Sem Value} (h : s.run P w = .ok v' w) (hv : VR ρ v v') :
  Good base ρ m w v m ((do pure (Next.value (<- s)) : Sem Next).run P w) :=
 ⟨ρ, w, v', .inl (by simp [h]), hv, hR, .refl _ _ _⟩
theorem Good.quiet (hR : R base ρ m w) {v : EV} {v' : Value} {s : Sem Value} {w' : World} (h : s.run P w = .ok v' w') (q : Fi w w') (hv : VR ρ v v') :
  Good base ρ m w v m ((do pure (Next.value (<- s)) : Sem Next).run P w) :=
 ⟨ρ, w', v', .inl (by simp [h]), hv, hR.quiet q, .quiet q⟩
theorem fE : ∀ {a b : List UInt8}, jY a b = decide (a = b)
 | [], [] => rfl
 | [], _ :: _ => by simp [jY]
 | _ :: _, [] => by simp [jY]
 | x :: a, y :: b => by
  simp only [jY, List.cons.injEq]
  cases h : x.toNat.beq y.toNat with
  | true =>
   have : x = y := UInt8.toNat_inj.1 (aS h)
   simp [this, fE (a := a) (b := b)]
  | false =>
   have : x ≠ y := fun e => jZ h (by rw [e])
   simp [this]
theorem jN {k l : IntKind} (h : (bZ k).beq (bZ l) = true) : k = l := by
 have := aS h
 cases k <;> cases l <;> simp [bZ] at this <;> rfl
theorem Fa {op : BinOp} {k : IntKind} {x y n : Int} (h : qZ op k x y = some n) : Op.intBits op k x y = (Pure.pure (.int k n) : Sem Value) := by
 cases op <;> simp only [qZ, reduceCtorEq, bf] at h <;> subst h <;> rfl
theorem Ps {op : BinOp} {t : TypeId} {k l : IntKind} {x y : Int} {v : EV} (h : ei op (.int k x) (.int l y) = some v) : ∃ v', VR ρ v v' /\ (binOp op t (.int k x) (.int l y)).run P w = .ok v' w := by
 simp only [ei] at h
 cases op
 case shl =>
  simp only [tC] at h
  split at h
  ·cases h
  ·rename_i hn; cases h; exact ⟨_, .int _ _, by simp [binOp, Op.shift, hn]⟩
 case shr =>
  simp only [tC] at h
  split at h
  ·cases h
  ·rename_i hn; cases h; exact ⟨_, .int _ _, by simp [binOp, Op.shift, hn]⟩
 all_goals
  simp only [] at h
  cases hk : (bZ k).beq (bZ l) <;> simp only [hk, cond_true, cond_false, reduceCtorEq] at h
  obtain rfl := jN hk
  simp only [nF] at h
 case add => cases h; exact ⟨_, .int _ _, by simp [binOp, Op.intArith]⟩
 case sub => cases h; exact ⟨_, .int _ _, by simp [binOp, Op.intArith]⟩
 case mul => cases h; exact ⟨_, .int _ _, by simp [binOp, Op.intArith]⟩
 case quo => split at h <;> cases h; rename_i hy; exact ⟨_, .int _ _, by simp [binOp, Op.intDiv, hy]⟩
 case rem => split at h <;> cases h; rename_i hy; exact ⟨_, .int _ _, by simp [binOp, Op.intDiv, hy]⟩
 case eql => cases h; exact ⟨_, .bool _, by simp [binOp, Op.intCmp]; rfl⟩
 case neq => cases h; exact ⟨_, .bool _, by simp [binOp, Op.intCmp]; rfl⟩
 case lss => cases h; exact ⟨_, .bool _, by simp [binOp, Op.intCmp]⟩
 case leq => cases h; exact ⟨_, .bool _, by simp [binOp, Op.intCmp]⟩
 case gtr => cases h; exact ⟨_, .bool _, by simp [binOp, Op.intCmp]⟩
 case geq => cases h; exact ⟨_, .bool _, by simp [binOp, Op.intCmp]⟩
 all_goals
  obtain ⟨n, hn, rfl⟩ := j8.1 h
  exact ⟨_, .int _ _, by simp [binOp, Fa hn]⟩
theorem x8 (s : ByteArray) : s.toList = s.data.toList := by
 have aux : ∀ (s : ByteArray) (i : Nat) (acc : List UInt8), ByteArray.toList.loop s i acc = acc.reverse ++ s.data.toList.drop i := by
  intro s i acc
  fun_induction ByteArray.toList.loop s i acc with
  | case1 i acc h ih =>
   rw [ih];have bn : i < s.data.toList.length := by simpa using h
   have hg : s.get! i = s.data.toList[i] := by
    simp [ByteArray.get!, getElem!_def]
    rw [Array.getElem?_eq_getElem (by simpa using h)]
   rw [List.drop_eq_getElem_cons bn, hg];simp
  | case2 i acc h =>
   rw [List.drop_of_length_le (by simpa using h)];simp
 simp [ByteArray.toList, aux]
theorem Ep (a b : List UInt8) : (a == b) = decide (a = b) := by rw [Bool.eq_iff_iff]; simp
theorem Pq {op : BinOp} {t : TypeId} {x y : ByteArray} {v : EV} (h : ei op (.str x.data.toList) (.str y.data.toList) = some v) : ∃ v', VR ρ v v' /\ (binOp op t (.string x) (.string y)).run P w = .ok v' w := by
 simp only [ei] at h
 cases op <;> simp only [reduceCtorEq, bf] at h
 case add =>
  cases hl : (x.data.toList.length + y.data.toList.length).ble 4294967296 <;> simp only [hl, cond_true, cond_false, reduceCtorEq, bf] at h
  subst h;have hle := qS hl
  refine ⟨.string (x ++ y), ?_, ?_⟩
  ·have := VR.str (ρ := ρ) (x ++ y)
   rw [ByteArray.data_append, Array.toList_append] at this;exact this
  ·have hx : x.size = x.data.toList.length := rfl
   have hy : y.size = y.data.toList.length := rfl
   have : ¬ ((x.size + y.size : Nat) : Int) > IntKind.i64.max := by
    rw [hx, hy]; simp only [IntKind.max_i64]; omega
   simp only [binOp, Op.stringOp];rw [if_neg this]
   rfl
 case eql =>
  subst h;exact ⟨_, .bool _, by simp only [binOp, Op.stringOp, x8, fE, Ep]; rfl⟩
 case neq =>
  subst h;exact ⟨_, .bool _, by simp only [binOp, Op.stringOp, x8, fE, Ep]; rfl⟩
theorem J4 {op : BinOp} {t : TypeId} {x y v : EV} {x' y' : Value} (hx : VR ρ x x') (hy : VR ρ y y') (h : ei op x y = some v) :
  ∃ v', VR ρ v v' /\ (binOp op t x' y').run P w = .ok v' w := by
 cases hx <;> cases hy <;> first
  | exact Ps h
  | exact Pq h
  | (simp [ei] at h; done)
theorem FZ {op : BinOp} {t : TypeId} {x y : Operand} {a b : Value} (h : op ≠ .eql) (h' : op ≠ .neq) : eqGuard op t x y a b = (Pure.pure () : Sem Unit) := by
 cases op <;> first | rfl | exact absurd rfl h | exact absurd rfl h'
theorem LW {op : UnOp} {x v : EV} {x' : Value} (hx : VR ρ x x') (h : ES op x = some v) : ∃ v', VR ρ v v' /\ (Op.unary op x').run P w = .ok v' w := by
 cases hx <;> cases op <;> simp only [ES, reduceCtorEq, bf] at h
 case int.neg => subst h; exact ⟨_, .int _ _, by simp [Op.unary, Op.intArith]⟩
 case int.xor =>
  obtain ⟨n, hn, rfl⟩ := j8.1 h
  exact ⟨_, .int _ _, by simp [Op.unary, Fa hn]⟩
 case bool.not => subst h; exact ⟨_, .bool _, by simp [Op.unary]⟩
end
end
section
section
variable {base : Nat} {ρ : ev} {m : Mem} {w : World} {P : Program}
theorem sY {t : TypeId} {g : Option Nat} (hg : x7 P t = some g) {cs : List EV} {lT : List Value} (hv : fx ρ cs lT) (hf : ∀ c ∈ lT, c.oneCell' = true) {off : Nat} {v : EV} (h : partOf g cs off = some v) :
  ∃ v', VR ρ v v' /\ (part t (⟨lT⟩ : Array Value) off).run P w = .ok v' w := by
 obtain ⟨Yg, uh⟩ := GA (P := P) hg w
 cases g with
 | none =>
  obtain ⟨v', h1, h2⟩ := hv.get off v h
  exact ⟨v', h2, by simp [part, Yg, h1]⟩
 | some n =>
  simp only [partOf] at h
  cases hl : (off + n).ble cs.length <;> simp only [hl, cond_true, cond_false, reduceCtorEq, bf] at h
  subst h;refine ⟨.agg ⟨(lT.drop off).take n⟩, .agg ((hv.drop off).take n) (fun c hc => hf c (List.mem_of_mem_drop (List.mem_of_mem_take hc))), ?_⟩
  simp only [part, Sem.run_bind, Yg, Result.andThen_ok, Option.isSome_some, if_true, uh n rfl, Sem.run_pure]
  congr 2
  apply Array.ext'
  simp [List.extract_eq_take_drop]
def Ft (t : Nat) (d : TypeDesc) : Prop :=
 match t with
 | 0 => d = .bool
 | 1 => ∃ k, d = .int k
 | 2 => d = .string
 | 3 => ∃ e, d = .pointer e
 | 4 => ∃ e, d = .slice e
 | 5 => ∃ k e, d = .map k e
 | 6 => ∃ p r v, d = .func p r v
 | 7 => ∃ ms, d = .interface ms
 | _ => False
theorem bytes_beq (a b : ByteArray) : (a == b) = decide (a.data.toList = b.data.toList) := by
 cases a; cases b
 rename_i x y
 show (x == y) = decide (x.toList = y.toList)
 rw [Bool.eq_iff_iff];simp [Array.toList_inj]
theorem Ib {k : Nat} {t : TypeId} {d : TypeDesc} (hu : P.underlying t = some d) (hk : Ft k d) {x y : EV} {x' y' : Value} (hx : VR ρ x x') (hy : VR ρ y y') {b : Bool} (h : dP k x y = some b) (n : Nat) :
  (Op.equalIn (n + 1) t x' y').run P w = .ok b w := by
 cases hx <;> cases hy <;> simp only [dP, reduceCtorEq] at h
 case bool.bool a c =>
  cases hb : k.beq 0 <;> simp only [hb, cond_true, cond_false, reduceCtorEq, bf] at h
  rw [aS hb] at hk; subst hk; subst h
  simp [Op.equalIn, run_underlying hu]
 case int.int k1 a l c =>
  cases hb : k.beq 1 <;> simp only [hb, cond_true, cond_false, reduceCtorEq] at h
  cases KD : (bZ k1).beq (bZ l) <;> simp only [KD, cond_true, cond_false, reduceCtorEq, bf] at h
  obtain rfl := jN KD
  rw [aS hb] at hk; obtain ⟨kk, rfl⟩ := hk; subst h
  simp [Op.equalIn, run_underlying hu]; rfl
 case str.str a c =>
  cases hb : k.beq 2 <;> simp only [hb, cond_true, cond_false, reduceCtorEq, bf] at h
  rw [aS hb] at hk; subst hk; subst h
  simp [Op.equalIn, run_underlying hu, fE, bytes_beq]
 case bL.bL =>
  cases hb : k.beq 3 <;> simp only [hb, cond_true, cond_false, reduceCtorEq, bf] at h
  rw [aS hb] at hk; obtain ⟨e, rfl⟩ := hk; subst h
  simp [Op.equalIn, run_underlying hu]
 case bL.ptr =>
  cases hb : k.beq 3 <;> simp only [hb, cond_true, cond_false, reduceCtorEq, bf] at h
  rw [aS hb] at hk; obtain ⟨e, rfl⟩ := hk; subst h
  simp [Op.equalIn, run_underlying hu]
 case ptr.bL =>
  cases hb : k.beq 3 <;> simp only [hb, cond_true, cond_false, reduceCtorEq, bf] at h
  rw [aS hb] at hk; obtain ⟨e, rfl⟩ := hk; subst h
  simp [Op.equalIn, run_underlying hu]
 case ae.ae =>
  cases hb : k.beq 4 <;> simp only [hb, cond_true, cond_false, reduceCtorEq, bf] at h
  rw [aS hb] at hk; obtain ⟨e, rfl⟩ := hk; subst h
  simp [Op.equalIn, run_underlying hu]
 case ae.slice =>
  cases hb : k.beq 4 <;> simp only [hb, cond_true, cond_false, reduceCtorEq, bf] at h
  rw [aS hb] at hk; obtain ⟨e, rfl⟩ := hk; subst h
  simp [Op.equalIn, run_underlying hu]
 case ae.gN =>
  cases hb : k.beq 4 <;> simp only [hb, cond_true, cond_false, reduceCtorEq, bf] at h
  rw [aS hb] at hk; obtain ⟨e, rfl⟩ := hk; subst h
  simp [Op.equalIn, run_underlying hu]
 case ae.fG =>
  cases hb : k.beq 4 <;> simp only [hb, cond_true, cond_false, reduceCtorEq, bf] at h
  rw [aS hb] at hk; obtain ⟨e, rfl⟩ := hk; subst h
  simp [Op.equalIn, run_underlying hu]
 case slice.ae =>
  cases hb : k.beq 4 <;> simp only [hb, cond_true, cond_false, reduceCtorEq, bf] at h
  rw [aS hb] at hk; obtain ⟨e, rfl⟩ := hk; subst h
  simp [Op.equalIn, run_underlying hu]
 case gN.ae =>
  cases hb : k.beq 4 <;> simp only [hb, cond_true, cond_false, reduceCtorEq, bf] at h
  rw [aS hb] at hk; obtain ⟨e, rfl⟩ := hk; subst h
  simp [Op.equalIn, run_underlying hu]
 case fG.ae =>
  cases hb : k.beq 4 <;> simp only [hb, cond_true, cond_false, reduceCtorEq, bf] at h
  rw [aS hb] at hk; obtain ⟨e, rfl⟩ := hk; subst h
  simp [Op.equalIn, run_underlying hu]
 case bz.bz =>
  cases hb : k.beq 5 <;> simp only [hb, cond_true, cond_false, reduceCtorEq, bf] at h
  rw [aS hb] at hk; obtain ⟨e, f, rfl⟩ := hk; subst h
  simp [Op.equalIn, run_underlying hu]
 case bz.map =>
  cases hb : k.beq 5 <;> simp only [hb, cond_true, cond_false, reduceCtorEq, bf] at h
  rw [aS hb] at hk; obtain ⟨e, f, rfl⟩ := hk; subst h
  simp [Op.equalIn, run_underlying hu]
 case map.bz =>
  cases hb : k.beq 5 <;> simp only [hb, cond_true, cond_false, reduceCtorEq, bf] at h
  rw [aS hb] at hk; obtain ⟨e, f, rfl⟩ := hk; subst h
  simp [Op.equalIn, run_underlying hu]
 case aO.aO =>
  cases hb : k.beq 6 <;> simp only [hb, cond_true, cond_false, reduceCtorEq, bf] at h
  rw [aS hb] at hk; obtain ⟨p, r, v, rfl⟩ := hk; subst h
  simp [Op.equalIn, run_underlying hu]
 case aO.func =>
  cases hb : k.beq 6 <;> simp only [hb, cond_true, cond_false, reduceCtorEq, bf] at h
  rw [aS hb] at hk; obtain ⟨p, r, v, rfl⟩ := hk; subst h
  simp [Op.equalIn, run_underlying hu]
 case func.aO =>
  cases hb : k.beq 6 <;> simp only [hb, cond_true, cond_false, reduceCtorEq, bf] at h
  rw [aS hb] at hk; obtain ⟨p, r, v, rfl⟩ := hk; subst h
  simp [Op.equalIn, run_underlying hu]
 case aD.iface =>
  cases hb : k.beq 7 <;> simp only [hb, cond_true, cond_false, reduceCtorEq, bf] at h
  rw [aS hb] at hk; obtain ⟨ms, rfl⟩ := hk; subst h
  simp [Op.equalIn, run_underlying hu]
 case iface.aD =>
  cases hb : k.beq 7 <;> simp only [hb, cond_true, cond_false, reduceCtorEq, bf] at h
  rw [aS hb] at hk; obtain ⟨ms, rfl⟩ := hk; subst h
  simp [Op.equalIn, run_underlying hu]
theorem Mf {n : Nat} {t : TypeId} {k : Nat} (h : nH P (n + 1) t = some (.aG k)) : ∃ d, P.underlying t = some d /\ Ft k d := by
 unfold nH at h
 cases hu : P.underlying t with
 | none => simp [hu] at h
 | some d =>
  rw [hu] at h;refine ⟨d, rfl, ?_⟩
  cases d <;> simp at h <;> (try (subst h; simp [Ft]; done))
  ·cases hs : P.stoodInHeld t <;> simp [hs] at h
def Ic (n : Nat) (xs ys : Array Value) : Field -> Option Bool × Unit -> Sem (ForInStep (Option Bool × Unit)) := fun f _ =>
 if f.name ≠ "_" then do
  let a <- part f.type xs f.offset
  let b <- part f.type ys f.offset
  let r <- Op.equalIn n f.type a b
  if (!r) = true then pure (ForInStep.done (some false, ())) else pure (ForInStep.yield (none, ()))
 else pure (ForInStep.yield (none, ()))
theorem Ip {n : Nat} {t : TypeId} {es : List (Option Nat × Nat × sj)} (h : nH P (n + 1) t = some (.agg es)) :
  ∃ fs, P.underlying t = some (.struct fs) /\ P.stoodInHeld t = false /\ fs.toList.mapM (fun (f : Field) => match x7 P f.type, nH P n f.type with
    | some g, some e => bif f.name != "_" then some (g, f.offset, e) else none
    | _, _ => none) = some es := by
 unfold nH at h
 cases hu : P.underlying t with
 | none => simp [hu] at h
 | some d =>
  rw [hu] at h
  cases d <;> simp only [reduceCtorEq, bf] at h
  rename_i fs
  cases hs : P.stoodInHeld t <;> simp only [hs, cond_true, cond_false, reduceCtorEq] at h
  obtain ⟨q9, he, h2⟩ := j8.1 h
  cases h2
  exact ⟨fs, rfl, rfl, he⟩
theorem RT (n : Nat) {a b : List EV} {a' b' : List Value} (ha : fx ρ a a') (hb : fx ρ b b') (fa : ∀ c ∈ a', c.oneCell' = true) (fb : ∀ c ∈ b', c.oneCell' = true) (k : Nat)
  (ih : ∀ (t : TypeId) (e : sj), nH P n t = some e -> ∀ (x y : EV) (x' y' : Value), VR ρ x x' -> VR ρ y y' -> ∀ r, eL e x y = some r -> (Op.equalIn k t x' y').run P w = .ok r w) :
  ∀ (fs : List Field) (es : List (Option Nat × Nat × sj)), fs.mapM (fun (f : Field) => match x7 P f.type, nH P n f.type with
    | some g, some e => bif f.name != "_" then some (g, f.offset, e) else none
    | _, _ => none) = some es -> ∀ r, pA es a b = some r -> (forIn fs (none, ()) (Ic k ⟨a'⟩ ⟨b'⟩)).run P w = .ok (if r then (none, ()) else (some false, ())) w := by
 intro fs
 induction fs with
 | nil =>
  intro es h r hr
  simp at h
  subst h;simp [pA] at hr
  subst hr
  rfl
 | cons f fs ihf =>
  intro es h r hr
  rw [List.mapM_cons] at h
  cases hg : x7 P f.type with
  | none => simp [hg] at h
  | some g =>
  cases he : nH P n f.type with
  | none => simp [hg, he] at h
  | some e =>
  cases hn : f.name != "_" with
  | false => simp [hg, he, hn] at h
  | true =>
  cases hm : fs.mapM (fun (f : Field) => match x7 P f.type, nH P n f.type with
    | some g, some e => bif f.name != "_" then some (g, f.offset, e) else none
    | _, _ => none) with
  | none => simp [hg, he, hn, hm] at h
  | some q9 =>
   simp [hg, he, hn, hm] at h
   subst h;simp only [pA] at hr
   cases hx : partOf g a f.offset with
   | none => simp [hx] at hr
   | some x =>
   cases hy : partOf g b f.offset with
   | none => simp [hx, hy] at hr
   | some y =>
   simp only [hx, hy] at hr;obtain ⟨x', vx, rx⟩ := sY (P := P) (w := w) hg ha fa hx
   obtain ⟨y', vy, ry⟩ := sY (P := P) (w := w) hg hb fb hy
   have iM : f.name ≠ "_" := by simpa using hn
   cases hq : eL e x y with
   | none => simp [hq] at hr
   | some q =>
    have j0 := ih _ _ he x y x' y' vx vy q hq
    rw [hq] at hr
    cases q with
    | true =>
     simp only [] at hr;have := ihf q9 hm r hr
     simp only [List.forIn_cons, Ic, if_pos iM, Sem.run_bind, rx, ry, j0, Result.andThen_ok]
     simpa using this
    | false =>
     simp at hr
     subst hr;simp only [List.forIn_cons, Ic, if_pos iM, Sem.run_bind, rx, ry, j0, Result.andThen_ok]
     rfl
theorem LX : ∀ (n : Nat) (t : TypeId) (e : sj), nH P n t = some e -> ∀ k, n <= k -> ∀ (x y : EV) (x' y' : Value), VR ρ x x' -> VR ρ y y' -> ∀ r, eL e x y = some r -> (Op.equalIn k t x' y').run P w = .ok r w := by
 intro n
 induction n with
 | zero => intro t e h; simp [nH] at h
 | succ n ih =>
  intro t e h k hk x y x' y' hx hy r hr
  obtain ⟨k, rfl⟩ : ∃ j, k = j + 1 := ⟨k - 1, by omega⟩
  cases e with
  | aG q =>
   obtain ⟨d, hu, hd⟩ := Mf h
   exact Ib hu hd hx hy (by simpa [eL] using hr) k
  | agg es =>
   obtain ⟨fs, hu, hs, hm⟩ := Ip h
   cases x <;> (try (simp [eL] at hr; done))
   cases y <;> (try (simp [eL] at hr; done))
   cases hx with
   | agg ha fa =>
   cases hy with
   | agg hb fb =>
   simp only [eL] at hr;have hl := RT n ha hb fa fb k (fun t e he x y x' y' vx vy r hr => ih t e he k (by omega) x y x' y' vx vy r hr) fs.toList es hm r hr
   unfold Op.equalIn;simp only [Sem.run_bind, run_underlying hu, Result.andThen_ok, run_program, hs, re, if_false];rw [Array.forIn_toList] at hl;unfold Ic at hl;rw [hl]
   cases r <;> rfl
theorem gT {x : Option EV} {x' : Option Value} (hx : uc ρ x x') {TJ nu r : Nat} (h : aw x TJ nu = some r) :
  (x' = none /\ r = TJ) \/ (∃ v', x' = some v' /\ r <= nu /\ ∀ code, (Instr.sliceBound v' nu code).run P w = .ok r w) := by
 cases hx with
 | none => simp [aw] at h; exact .inl ⟨rfl, h.symm⟩
 | some hv =>
  right
  cases hv <;> simp only [aw, reduceCtorEq] at h
  rename_i k n
  cases n with
  | negSucc n => simp at h
  | ofNat i =>
   simp only [] at h
   cases hl : i.ble nu <;> simp only [hl, cond_true, cond_false, reduceCtorEq, bf] at h
   subst h;have hle := qS hl
   refine ⟨_, rfl, hle, fun code => ?_⟩
   simp only [Instr.sliceBound, asIntOf, Sem.run_bind, Sem.run_pure, Result.andThen_ok];rw [if_pos ⟨Int.natCast_nonneg _, Int.ofNat_le.2 hle⟩]
   rfl
theorem j5 {lo hi mx : Option EV} {Eo xw El : Option Value} (qm : uc ρ lo Eo) (xk : uc ρ hi xw) (AS : uc ρ mx El) (Pc : El.isSome = true -> xw.isSome = true) (s : Bool) {n len t h l c : Nat} (hn : len = n)
  (h1 : (mx = none /\ t = c) \/ (∃ k, aw mx k c = some t /\ mx ≠ none)) (h2 : aw hi len t = some h) (h3 : aw lo 0 h = some l) :
  (Instr.sliceBounds s n c Eo xw El).run P w = .ok (l, h, t) w /\ l <= h /\ (hi ≠ none -> h <= t) /\ (mx ≠ none -> t <= c) := by
 subst hn;have e1 : (El = none /\ t = c /\ mx = none) \/ (∃ v', El = some v' /\ (∀ code, (Instr.sliceBound v' c code).run P w = .ok t w) /\ t <= c) := by
  rcases h1 with ⟨rfl, rfl⟩ | ⟨k, hb, iM⟩
  ·cases AS; exact .inl ⟨rfl, rfl, rfl⟩
  ·rcases gT (P := P) (w := w) AS hb with ⟨rfl, _⟩ | ⟨v', rfl, hle, hr⟩
   ·cases AS; exact absurd rfl iM
   ·exact .inr ⟨v', rfl, hr, hle⟩
 have e2 : l <= h /\ (hi ≠ none -> h <= t) /\ (mx ≠ none -> t <= c) := by
  refine ⟨?_, fun iM => ?_, fun iM => ?_⟩
  ·rcases gT (P := P) (w := w) qm h3 with ⟨_, rfl⟩ | ⟨vl, _, VJ, _⟩ <;> omega
  ·rcases gT (P := P) (w := w) xk h2 with ⟨rfl, _⟩ | ⟨vl, _, VJ, _⟩
   ·cases xk; exact absurd rfl iM
   ·exact VJ
  ·rcases e1 with ⟨_, _, rfl⟩ | ⟨_, _, _, h⟩
   ·exact absurd rfl iM
   ·exact h
 refine ⟨?_, e2⟩
 unfold Instr.sliceBounds;rcases e1 with ⟨rfl, rfl, _⟩ | ⟨vm, rfl, Nf, _⟩ <;> rcases gT (P := P) (w := w) xk h2 with ⟨rfl, rfl⟩ | ⟨vh, rfl, hlh, Za⟩
 ·rcases gT (P := P) (w := w) qm h3 with ⟨rfl, rfl⟩ | ⟨vl, rfl, VJ, XO⟩
  ·simp only [Sem.run_bind, Result.andThen_ok, Sem.run_pure]
  ·simp only [Sem.run_bind, Result.andThen_ok, Sem.run_pure, XO]
 ·rcases gT (P := P) (w := w) qm h3 with ⟨rfl, rfl⟩ | ⟨vl, rfl, VJ, XO⟩
  ·simp only [Sem.run_bind, Result.andThen_ok, Sem.run_pure, Za]
  ·simp only [Sem.run_bind, Result.andThen_ok, Sem.run_pure, XO, Za]
 ·simp at Pc
 ·rcases gT (P := P) (w := w) qm h3 with ⟨rfl, rfl⟩ | ⟨vl, rfl, VJ, XO⟩
  ·simp only [Sem.run_bind, Result.andThen_ok, Sem.run_pure, Nf, Za]
  ·simp only [Sem.run_bind, Result.andThen_ok, Sem.run_pure, Nf, XO, Za]
end
end
section
section
variable {base : Nat} {ρ : ev} {m : Mem} {w : World} {P : Program}
theorem E6 {x : Option EV} {d k k' r : Nat} (hk : k <= k') (h : aw x d k = some r) : aw x d k' = some r := by
 unfold aw at *
 split at h
 ·exact h
 ·rename_i i
  cases hl : i.ble k <;> simp only [hl, cond_true, cond_false, reduceCtorEq, bf] at h
  subst h;have : i.ble k' = true := Be (pN (qS hl) hk)
  simp [this]
 ·cases h
def EZ (a : Option Addr) (size l h t : Nat) : Value := .slice (if t = l then a else a.map (·.add (l * size))) (h - l) (t - l)
theorem add_eq (b o n : Nat) : (⟨b, o, none⟩ : Addr).add n = ⟨b, o + n, none⟩ := Addr.add_lit b o n
theorem Bh {esz b off len c : Nat} {lo hi mx : Option EV} {Eo xw El : Option Value} (qm : uc ρ lo Eo) (xk : uc ρ hi xw) (AS : uc ρ mx El) (Pc : El.isSome = true -> xw.isSome = true)
  {L : Loc} (hL : ρ b = some L) (hlen : len <= c) {o : Nat} (ho : 0 < c -> o = L.off + off) (s : Bool) {v : EV} (h : ek esz b off len (some c) lo hi mx = some v) :
  ∃ l hh t, (Instr.sliceBounds s len c Eo xw El).run P w = .ok (l, hh, t) w /\ VR ρ v (EZ (some ⟨L.de, o, none⟩) esz l hh t) := by
 unfold ek at h
 cases h1 : aw mx c c with
 | none => simp [h1] at h
 | some t =>
 cases h2 : aw hi len t with
 | none => simp [h1, h2] at h
 | some hh =>
 cases h3 : aw lo 0 hh with
 | none => simp [h1, h2, h3] at h
 | some l =>
  simp only [h1, h2, h3, bf] at h;subst h;obtain ⟨r, hle, Pd, VL⟩ := j5 (P := P) (w := w) qm xk AS Pc s (n := len) rfl (t := t) (h := hh) (l := l) (c := c) (by
   cases mx with
   | none => simp [aw] at h1; exact .inl ⟨rfl, h1.symm⟩
   | some x => exact .inr ⟨c, h1, by simp⟩) h2 h3
  refine ⟨l, hh, t, r, ?_⟩
  have ht : hh <= t := by
   cases hi with
   | some x => exact Pd (by simp)
   | none =>
    simp [aw] at h2
    cases mx with
    | none => simp [aw] at h1; omega
    | some x => cases AS; cases xk; simp at Pc
  have htc : t <= c := by
   cases mx with
   | none => simp [aw] at h1; omega
   | some x => exact VL (by simp)
  unfold EZ;by_cases e : t = l
  ·subst e
   rw [if_pos rfl, dR, cond_true];exact .fG hL (by omega) (fun hp => by omega)
  ·rw [if_neg e, jR e, cond_false]
   simp only [Option.map_some, add_eq];exact .fG hL (by omega) (fun hp => by rw [ho (by omega)]; omega)
theorem I4 {esz b off : Nat} {a : Addr} {lo hi mx : Option EV} {Eo xw El : Option Value} (qm : uc ρ lo Eo) (xk : uc ρ hi xw) (AS : uc ρ mx El) (Pc : El.isSome = true -> xw.isSome = true)
  (s : Bool) {v : EV} (h : ek esz b off 0 (some 0) lo hi mx = some v) :
  ∃ l hh t, (Instr.sliceBounds s 0 0 Eo xw El).run P w = .ok (l, hh, t) w /\ VR ρ v (EZ (some a) esz l hh t) := by
 unfold ek at h
 cases h1 : aw mx 0 0 with
 | none => simp [h1] at h
 | some t =>
 cases h2 : aw hi 0 t with
 | none => simp [h1, h2] at h
 | some hh =>
 cases h3 : aw lo 0 hh with
 | none => simp [h1, h2, h3] at h
 | some l =>
  simp only [h1, h2, h3, bf] at h;subst h;obtain ⟨r, hle, Pd, VL⟩ := j5 (P := P) (w := w) qm xk AS Pc s (n := 0) rfl (t := t) (h := hh) (l := l) (c := 0) (by
   cases mx with
   | none => simp [aw] at h1; exact .inl ⟨rfl, h1.symm⟩
   | some x => exact .inr ⟨0, h1, by simp⟩) h2 h3
  refine ⟨l, hh, t, r, ?_⟩
  have ht : hh <= t := by
   cases hi with
   | some x => exact Pd (by simp)
   | none =>
    simp [aw] at h2
    cases mx with
    | none => simp [aw] at h1; omega
    | some x => cases AS; cases xk; simp at Pc
  have htc : t <= 0 := by
   cases mx with
   | none => simp [aw] at h1; omega
   | some x => exact VL (by simp)
  have e1 : t = 0 := by omega
  have e2 : hh = 0 := by omega
  have e3 : l = 0 := by omega
  subst e1 e2 e3
  unfold EZ;exact .gN
theorem KW {esz b off len c : Nat} {lo hi mx : Option EV} {Eo xw El : Option Value} (qm : uc ρ lo Eo) (xk : uc ρ hi xw) (AS : uc ρ mx El) (Pc : El.isSome = true -> xw.isSome = true)
  {L : Loc} (hL : ρ b = some L) (hlen : len <= c) {o : Nat} (ho : 0 < len -> o = L.off + off) (hr : L.ro = false -> o + c * L.esz <= L.total) (he : L.esz = esz) (s : Bool) {v : EV} (h : ek esz b off len none lo hi mx = some v) :
  ∃ l hh t, (Instr.sliceBounds s len c Eo xw El).run P w = .ok (l, hh, t) w /\ VR ρ v (EZ (some ⟨L.de, o, none⟩) esz l hh t) := by
 unfold ek at h
 cases mx with
 | some x =>
  simp only [] at h
  cases h1 : aw (some x) len len with
  | none => simp [h1] at h
  | some t =>
  cases h2 : aw hi len t with
  | none => simp [h1, h2] at h
  | some hh =>
  cases h3 : aw lo 0 hh with
  | none => simp [h1, h2, h3] at h
  | some l =>
   simp only [h1, h2, h3, bf] at h;subst h;obtain ⟨r, hle, Pd, _⟩ := j5 (P := P) (w := w) qm xk AS Pc s (n := len) rfl (t := t) (h := hh) (l := l) (c := c) (.inr ⟨len, E6 hlen h1, by simp⟩) h2 h3
   refine ⟨l, hh, t, r, ?_⟩
   have ht : hh <= t := by
    cases hi with
    | some x => exact Pd (by simp)
    | none => cases AS; cases xk; simp at Pc
   have LM : t <= len := by
    rcases gT (P := P) (w := w) AS h1 with ⟨e, _⟩ | ⟨_, _, h, _⟩
    ·cases AS; cases e
    ·exact h
   unfold EZ;by_cases e : t = l
   ·subst e
    rw [if_pos rfl, dR, cond_true];exact .fG hL (by omega) (fun hp => by omega)
   ·rw [if_neg e, jR e, cond_false]
    simp only [Option.map_some, add_eq];exact .fG hL (by omega) (fun hp => by rw [ho (by omega)]; omega)
 | none =>
  simp only [] at h
  cases h2 : aw hi len len with
  | none => simp [h2] at h
  | some hh =>
  cases h3 : aw lo 0 hh with
  | none => simp [h2, h3] at h
  | some l =>
   simp only [h2, h3, bf] at h;subst h;obtain ⟨r, hle, Pd, _⟩ := j5 (P := P) (w := w) qm xk AS Pc s (n := len) rfl (t := c) (h := hh) (l := l) (c := c) (.inl ⟨rfl, rfl⟩) (E6 hlen h2) h3
   refine ⟨l, hh, c, r, ?_⟩
   have ht : hh <= len := by
    rcases gT (P := P) (w := w) xk h2 with ⟨_, e⟩ | ⟨_, _, h, _⟩ <;> omega
   unfold EZ;by_cases e : c = l
   ·rw [if_pos e]
    refine .slice hL (by omega) (fun hp => by omega) (fun qY => ?_)
    have := hr qY
    subst e;rw [Nat.sub_self, Nat.zero_mul];omega
   ·rw [if_neg e]
    simp only [Option.map_some, add_eq];refine .slice hL (by omega) (fun hp => by rw [ho (by omega)]; omega) (fun qY => ?_)
    have := hr qY
    subst he;have : l * L.esz + (c - l) * L.esz = c * L.esz := by rw [<- Nat.add_mul]; congr 1; omega
    omega
theorem RQ (hR : R base ρ m w) {b : Nat} {L : Loc} (hL : ρ b = some L) {cs : List EV} {e el : Nat} {ro : Bool} (hm : m.get b = .cells cs e el ro) : L.esz = e := by
 have := hR.de b L hL
 rw [hm] at this;obtain ⟨_, _, _, _, _, h, _⟩ := this
 exact h
theorem wD {n i : Nat} {x : EV} {x' : Value} (hx : VR ρ x x') (h : idx n x = some i) : ∃ k, x' = .int k (i : Int) /\ i < n := by
 cases hx <;> simp only [idx, reduceCtorEq] at h
 rename_i k z
 cases z with
 | negSucc z => simp at h
 | ofNat z =>
  simp only [] at h
  cases hl : (z + 1).ble n <;> simp only [hl, cond_true, cond_false, reduceCtorEq, bf] at h
  subst h;exact ⟨k, rfl, qS hl⟩
theorem JI {t e : TypeId} {s : Nat} (hu : P.underlying t = some (.slice e)) (hs : gh P e = some s) {b off len : Nat} {cap : Option Nat} {x' y' : Value} {y : EV} (hx : VR ρ (.slice b off len cap) x') (hy : VR ρ y y') {i : Nat} (h : idx len y = some i) :
  ∃ v', VR ρ (.ptr b (off + i * s)) v' /\ (Instr.indexAt t x' y').run P w = .ok v' w := by
 obtain ⟨k, rfl, bn⟩ := wD hy h
 cases hx with
 | @slice _ _ _ c o L hL hc ho hr =>
  refine ⟨_, .ptr hL, ?_⟩
  simp only [Instr.indexAt, asIntOf, Sem.run_bind, Sem.run_pure, Result.andThen_ok, run_underlying hu];rw [if_pos ⟨Int.natCast_nonneg _, Int.ofNat_lt.2 bn⟩];simp [b8 hs, add_eq, ho (by omega), Nat.add_assoc]
 | gN => omega
 | @fG _ _ _ c o L hL hc ho =>
  refine ⟨_, .ptr hL, ?_⟩
  simp only [Instr.indexAt, asIntOf, Sem.run_bind, Sem.run_pure, Result.andThen_ok, run_underlying hu];rw [if_pos ⟨Int.natCast_nonneg _, Int.ofNat_lt.2 bn⟩];simp [b8 hs, add_eq, ho (by omega), Nat.add_assoc]
theorem EC {t e : TypeId} {n s : Nat} (hu : P.underlying t = some (.array n e)) (hs : gh P e = some s) {b off : Nat} {x' y' : Value} {y : EV} (hx : VR ρ (.ptr b off) x') (hy : VR ρ y y') {i : Nat} (h : idx n y = some i) :
  ∃ v', VR ρ (.ptr b (off + i * s)) v' /\ (Instr.indexAt t x' y').run P w = .ok v' w := by
 obtain ⟨k, rfl, bn⟩ := wD hy h
 cases hx with
 | @ptr _ _ L hL =>
  refine ⟨_, .ptr hL, ?_⟩
  simp only [Instr.indexAt, asIntOf, Sem.run_bind, Sem.run_pure, Result.andThen_ok, run_underlying hu, Instr.sureAddr];rw [if_pos ⟨Int.natCast_nonneg _, Int.ofNat_lt.2 bn⟩];simp [b8 hs, add_eq, Nat.add_assoc]
theorem J1 {t : TypeId} {fs : Array Field} {k : Nat} {f : Field} {s : Nat} (hu : P.underlying t = some (.struct fs)) (hf : fs[k]? = some f) (hs : gh P f.type = some (s + 1)) {b off : Nat} {x' : Value} (hx : VR ρ (.ptr b off) x') :
  ∃ v', VR ρ (.ptr b (off + f.offset)) v' /\ (Instr.fieldAt t x' k).run P w = .ok v' w := by
 cases hx with
 | @ptr _ _ L hL =>
  refine ⟨_, .ptr hL, ?_⟩
  simp only [Instr.fieldAt, Sem.run_bind, run_underlying hu, Result.andThen_ok, hf, Instr.sureAddr, Sem.run_pure, fieldPlace, b8 hs];rw [if_neg (by omega)];simp [add_eq, Nat.add_assoc]
theorem JZ {t : TypeId} {fs : Array Field} {k : Nat} {f : Field} {g : Option Nat} (hu : P.underlying t = some (.struct fs)) (hf : fs[k]? = some f) (hg : x7 P f.type = some g) {cs : List EV} {x' : Value} (hx : VR ρ (.agg cs) x') {v : EV} (h : partOf g cs f.offset = some v) :
  ∃ v', VR ρ v v' /\ (Instr.field t x' k).run P w = .ok v' w := by
 cases hx with
 | agg hv HW =>
  obtain ⟨v', h1, h2⟩ := sY (P := P) (w := w) hg hv HW h
  exact ⟨v', h1, by simp only [Instr.field, Sem.run_bind, run_underlying hu, Result.andThen_ok, hf, asAgg, Sem.run_pure, h2]⟩
theorem HR {t e : TypeId} {n s : Nat} {g : Option Nat} (hu : P.underlying t = some (.array n e)) (hs : gh P e = some s) (hg : x7 P e = some g) {cs : List EV} {x' y' : Value} {y : EV} (hx : VR ρ (.agg cs) x') (hy : VR ρ y y') {i : Nat} (hi : idx n y = some i) {v : EV} (h : partOf g cs (i * s) = some v) :
  ∃ v', VR ρ v v' /\ (Instr.index t x' y').run P w = .ok v' w := by
 obtain ⟨k, rfl, bn⟩ := wD hy hi
 cases hx with
 | agg hv HW =>
  obtain ⟨v', h1, h2⟩ := sY (P := P) (w := w) hg hv HW h
  refine ⟨v', h1, ?_⟩
  simp only [Instr.index, asIntOf, Sem.run_bind, Sem.run_pure, Result.andThen_ok, run_underlying hu];rw [if_pos ⟨Int.natCast_nonneg _, Int.ofNat_lt.2 bn⟩];simp only [Sem.run_bind, b8 hs, Result.andThen_ok, Int.toNat_natCast, h2]
theorem HQ {t : TypeId} (hu : P.underlying t = some .string) {s : ByteArray} {y : EV} {y' : Value} (hy : VR ρ y y') {i : Nat} (hi : idx s.data.toList.length y = some i) {c : UInt8} (h : s.data.toList[i]? = some c) :
  (Instr.index t (.string s) y').run P w = .ok (.int .u8 (c.toNat : Int)) w := by
 obtain ⟨k, rfl, bn⟩ := wD hy hi
 simp only [Instr.index, asIntOf, Sem.run_bind, Sem.run_pure, Result.andThen_ok, run_underlying hu];have : s[i]? = some c := by
  have hl : i < s.size := bn
  rw [getElem?_pos s i hl];rw [nc bn] at h
  injection h with h
  show some (s.data[i]'hl) = some c
  rw [<- h];simp
 simp [this]
theorem I3 {t : TypeId} (hu : P.underlying t = some .string) {s : ByteArray} {lo hi : Option EV} {Eo xw : Option Value} (qm : uc ρ lo Eo) (xk : uc ρ hi xw) {l h : Nat} (h2 : aw hi s.data.toList.length s.data.toList.length = some h) (h3 : aw lo 0 h = some l) :
  ∃ v', VR ρ (.str ((s.data.toList.take h).drop l)) v' /\ (Instr.sliceAt t (.string s) Eo xw none).run P w = .ok v' w := by
 obtain ⟨r, hle, _⟩ := j5 (P := P) (w := w) qm xk .none (by simp) false (n := s.size) (len := s.data.toList.length) rfl (t := s.size) (h := h) (l := l) (c := s.size) (.inl ⟨rfl, rfl⟩) h2 h3
 refine ⟨.string (s.extract l h), ?_, ?_⟩
 ·have := VR.str (ρ := ρ) (s.extract l h)
  rw [show (s.extract l h).data.toList = (s.data.toList.take h).drop l by
   rw [ByteArray.data_extract, Array.toList_extract, List.extract_eq_take_drop, List.drop_take]] at this
  exact this
 ·simp only [Instr.sliceAt, Instr.slice, Sem.run_bind, run_underlying hu, Result.andThen_ok, Option.isSome_none, re, if_false, r, Sem.run_pure]
end
end
section
section
variable {base : Nat} {ρ : ev} {m : Mem} {w : World} {P : Program}
theorem DM {t : TypeId} {e : EV} (h : GS P t = some e) : ∃ v, (∀ w, (zeroValue t).run P w = .ok v w) /\ VR ρ e v := by
 unfold GS at h
 cases hi : P.info? t with
 | none => simp [hi] at h
 | some i =>
  cases hz : i.zero with
  | none => simp [hi, hz] at h
  | some v =>
   simp [hi, hz] at h
   exact ⟨v, fun w => by simp [zeroValue, run_typeInfo hi, hz], Ki _ _ _ h⟩
theorem nf {t : TypeId} {z : List EV} (h : nS P t = some z) : ∃ v, (∀ w, (zeroValue t).run P w = .ok v w) /\ fx ρ z v.cells.toList /\ ∀ c ∈ v.cells.toList, c.oneCell' = true := by
 unfold nS at h
 cases he : GS P t with
 | none => simp [he] at h
 | some e =>
  simp [he] at h
  obtain ⟨v, h1, h2⟩ := DM (ρ := ρ) he
  exact ⟨v, h1, h2.cells h⟩
theorem Pm (vs : List Value) : ∀ (k : Nat) (cs : Array Value) (off : Nat), off + k + vs.length <= cs.size ->
  ∃ ds : Array Value, (vs.zipIdx k).foldl (fun (cs : Array Value) (x : Value × Nat) => cs.setIfInBounds (off + x.2) x.1) cs = ds /\ ds.size = cs.size /\
   ∀ j : Nat, ds[j]? = if off + k <= j /\ j < off + k + vs.length then vs[j - (off + k)]? else cs[j]? := by
 induction vs with
 | nil => intro k cs off _; exact ⟨cs, rfl, rfl, fun j => by rw [if_neg (fun h => by have := h.2; simp at this; omega)]⟩
 | cons v vs ih =>
  intro k cs off h
  simp at h
  obtain ⟨ds, h1, h2, h3⟩ := ih (k + 1) (cs.setIfInBounds (off + k) v) off (by simp; omega)
  refine ⟨ds, by simpa [List.zipIdx_cons] using h1, by simpa using h2, fun j => ?_⟩
  rw [h3 j];by_cases hj : j = off + k
  ·subst hj
   rw [if_neg (by omega), if_pos (by simp)];simp [show off + k < cs.size by omega]
  ·by_cases VP : off + (k + 1) <= j /\ j < off + (k + 1) + vs.length
   ·rw [if_pos VP, if_pos (by simp; omega), show j - (off + k) = (j - (off + (k + 1))) + 1 by omega]
    simp
   ·rw [if_neg VP, if_neg (by simp; omega), Array.getElem?_setIfInBounds_ne (by omega)]
theorem xT {place : Nat -> Option (Nat × Nat)} : ∀ (ps : List (Nat × Nat × EV)) (qs : List (Nat × Value)) (cs : List EV) (lT : Array Value), fx ρ cs lT.toList -> (∀ c ∈ lT.toList, c.oneCell' = true) -> ps.length = qs.length ->
  (∀ (i : Nat) (p : Nat × Nat × EV) (q : Nat × Value), ps[i]? = some p -> qs[i]? = some q -> place q.1 = some (p.1, p.2.1) /\ VR ρ p.2.2 q.2) -> ∀ ds, fB cs ps = some ds ->
  ∃ vj, Instr.fill place lT qs = some vj /\ fx ρ ds vj.toList /\ (∀ c ∈ vj.toList, c.oneCell' = true) /\ vj.size = lT.size := by
 intro ps
 induction ps with
 | nil =>
  intro qs cs lT hv hf hl hp ds h
  cases qs with
  | nil => simp [fB] at h; subst h; exact ⟨lT, rfl, hv, hf, rfl⟩
  | cons q qs => simp at hl
 | cons p ps ih =>
  intro qs cs lT hv hf hl hp ds h
  cases qs with
  | nil => simp at hl
  | cons q qs =>
   obtain ⟨off, size, x⟩ := p
   obtain ⟨i, x'⟩ := q
   obtain ⟨Rn, hx⟩ := hp 0 _ _ rfl rfl
   simp only at Rn hx
   simp only [fB] at h
   cases hc : x.cells with
   | none => simp [hc] at h
   | some vs =>
    simp only [hc] at h
    cases hb : vs.length.beq size <;> simp only [hb, cond_true, cond_false, reduceCtorEq] at h
    have BQ := aS hb
    cases hs : iW cs off vs with
    | none => simp [hs] at h
    | some es =>
     simp only [hs] at h;obtain ⟨yd, hfs⟩ := hx.cells hc
     have hlen := yd.length
     have VM := hv.length
     obtain ⟨s1, s2, s3⟩ := D3 hs
     obtain ⟨q9, e1, e2, e3⟩ := Pm x'.cells.toList 0 lT off (by rw [<- hlen]; simp at VM; omega)
     have abv : fx ρ es q9.toList := by
      refine fx.qU (by simp at VM ⊢; omega) fun j v v' hj To => ?_
      rw [s3 j] at hj;rw [Array.getElem?_toList, e3 j] at To
      by_cases EG : off <= j /\ j < off + vs.length
      ·rw [if_pos EG] at hj
       rw [if_pos (by omega)] at To
       obtain ⟨u, g1, g2⟩ := yd.get _ _ hj
       rw [show j - (off + 0) = j - off by omega, g1] at To
       cases To; exact g2
      ·rw [if_neg EG] at hj
       rw [if_neg (by omega)] at To
       obtain ⟨u, g1, g2⟩ := hv.get _ _ hj
       rw [Array.getElem?_toList, To] at g1
       cases g1; exact g2
     have BP : ∀ c ∈ q9.toList, c.oneCell' = true := by
      intro c hc
      obtain ⟨j, hj⟩ := List.mem_iff_getElem?.1 hc
      rw [Array.getElem?_toList, e3 j] at hj;by_cases EG : off + 0 <= j /\ j < off + 0 + x'.cells.toList.length
      ·rw [if_pos EG] at hj; exact hfs c (List.mem_of_getElem? hj)
      ·rw [if_neg EG] at hj; exact hf c (by rw [<- Array.getElem?_toList] at hj; exact List.mem_of_getElem? hj)
     obtain ⟨vj, f1, f2, f3, f4⟩ := ih qs es q9 abv BP (by simpa using hl) (fun i p q hp' GC => hp (i + 1) p q (by simpa using hp') (by simpa using GC)) ds h
     refine ⟨vj, ?_, f2, f3, by rw [f4, e2]⟩
     unfold Instr.fill;simp only [Rn];have uh : x'.cells.size = size := by rw [<- BQ, hlen]; simp
     rw [if_neg]
     ·have he : Array.foldl (fun (cs : Array Value) (x : Value × Nat) => cs.setIfInBounds (off + x.2) x.1) lT x'.cells.zipIdx = q9 := by
       rw [<- e1, <- Array.foldl_toList, Array.toList_zipIdx]
      exact he ▸ f1
     ·simp [uh]
      simp at VM
      omega
theorem Bl {G : List Nat} (hG : jr G ρ) {n : Nat} {fr : Fr} {a : Act} (hF : FR ρ n fr a) {places : Nat -> Option (Nat × Nat)} {parts : List (Nat × Operand)} {ps : List (Nat × Nat × aW)} (h : Md G places parts = some ps) :
  (ps.map fun p => (p.1, p.2.1, fr.eval p.2.2)).length = (parts.map fun p => (p.1, a.eval p.2)).length /\
  ∀ (i : Nat) (p : Nat × Nat × EV) (q : Nat × Value), (ps.map fun p => (p.1, p.2.1, fr.eval p.2.2))[i]? = some p -> (parts.map fun p => (p.1, a.eval p.2))[i]? = some q -> places q.1 = some (p.1, p.2.1) /\ VR ρ p.2.2 q.2 := by
 obtain ⟨h1, h2⟩ := mapM_some _ h
 refine ⟨by simp [h1], fun i p q hp hq => ?_⟩
 rw [List.getElem?_map] at hp hq;obtain ⟨p0, LO, rfl⟩ := j8.1 hp
 obtain ⟨q0, XR, rfl⟩ := j8.1 hq
 have := h2 i q0 p0 XR LO
 cases IN : places q0.1 with
 | none => simp [IN] at this
 | some os =>
  obtain ⟨o, s⟩ := os
  cases hx : fc G q0.2 with
  | none => simp [IN, hx] at this
  | some x =>
   simp [IN, hx] at this
   subst this;exact ⟨rfl, ia hG hF hx⟩
theorem E0 (z : List EV) : ∀ (n i : Nat), i < n * z.length -> (eD n z)[i]? = z[i % z.length]?
 | 0, i, h => by simp at h
 | n + 1, i, h => by
  unfold eD at *
  rw [List.replicate_succ, List.flatten_cons];by_cases hi : i < z.length
  ·rw [BC hi, Nat.mod_eq_of_lt hi]
  ·rw [FA (by omega)]
   have := E0 z n (i - z.length) (by rw [Nat.add_mul] at h; omega)
   unfold eD at this;rw [this, Nat.mod_eq_sub_mod (by omega : i >= z.length)]
theorem F3 (n : Nat) (z : List EV) : (eD n z).length = n * z.length := by
 simp [eD]
theorem z0 {z : List EV} {z' : Array Value} (hz : fx ρ z z'.toList) (hf : ∀ c ∈ z'.toList, c.oneCell' = true) (n : Nat) :
  fx ρ (eD n z) ((Array.range (n * z.length)).map (fun i => z'[i % z'.size]!)).toList /\ (∀ c ∈ ((Array.range (n * z.length)).map (fun i => z'[i % z'.size]!)).toList, c.oneCell' = true) := by
 have hl := hz.length
 have key : ∀ i v', ((Array.range (n * z.length)).map (fun i => z'[i % z'.size]!)).toList[i]? = some v' -> i < n * z.length /\ z'[i % z'.size]? = some v' := by
  intro i v' h
  rw [Array.getElem?_toList, Array.getElem?_map] at h;obtain ⟨j, hj, rfl⟩ := j8.1 h
  rw [Array.getElem?_range] at hj
  split at hj
  ·rename_i bn
   cases hj
   refine ⟨bn, ?_⟩
   have dx : 0 < z'.size := by
    rcases Nat.eq_zero_or_pos z'.size with h0 | h0
    ·simp at hl; rw [hl, h0] at bn; simp at bn
    ·exact h0
   have hm : i % z'.size < z'.size := Nat.mod_lt _ dx
   rw [getElem!_pos z' _ hm, Array.getElem?_eq_getElem hm]
  ·cases hj
 refine ⟨fx.qU (by simp [F3]) fun i v v' hv rM => ?_, fun c hc => ?_⟩
 ·obtain ⟨bn, h2⟩ := key i v' rM
  rw [E0 z n i bn] at hv;obtain ⟨u, g1, g2⟩ := hz.get _ _ hv
  rw [Array.getElem?_toList, show z.length = z'.size by simpa using hl, h2] at g1
  cases g1; exact g2
 ·obtain ⟨i, hi⟩ := List.mem_iff_getElem?.1 hc
  obtain ⟨_, h2⟩ := key i c hi
  rw [<- Array.getElem?_toList] at h2;exact hf c (List.mem_of_getElem? h2)
theorem RZ {s d : TypeId} {ds : TypeDesc} {k : IntKind} (hs : P.underlying s = some ds) (hd : P.underlying d = some (.int k)) (l : IntKind) (n : Int) : (convert s d (.int l n)).run P w = .ok (.int k (k.wrap n)) w := by
 simp [convert, run_underlying hs, run_underlying hd, Conv.intToInt]
theorem Pw {s d : TypeId} {ds : TypeDesc} (hs : P.underlying s = some ds) (hd : P.underlying d = some .string) (x : ByteArray) : (convert s d (.string x)).run P w = .ok (.string x) w := by
 simp [convert, run_underlying hs, run_underlying hd]
theorem Mg : ∀ (vs : List Value) (xs : List EV) (s : List UInt8) (acc : ByteArray), fx ρ xs vs -> bytesOf xs = some s ->
  (forIn vs acc fun c (s : ByteArray) => (match c with
   | .int .u8 n => pure (ForInStep.yield (s.push (UInt8.ofNat n.toNat)))
   | _ => do
    stuck "bytesToString: byte expected"
    pure (ForInStep.yield s) : Sem (ForInStep ByteArray))).run P w = .ok ⟨⟨acc.data.toList ++ s⟩⟩ w := by
 intro vs
 induction vs with
 | nil =>
  intro xs s acc hv h
  cases hv
  simp [bytesOf] at h
  subst h;simp
 | cons v vs ih =>
  intro xs s acc hv h
  cases hv with
  | @cons x _ xs _ hx PQ =>
   cases hx with
   | int k n =>
    cases k <;> (try (simp [bytesOf] at h; done))
    simp only [bytesOf] at h;obtain ⟨s', HT, rfl⟩ := j8.1 h
    have := ih xs s' (acc.push (UInt8.ofNat n.toNat)) PQ HT
    simp only [List.forIn_cons, Sem.run_bind, Sem.run_pure, Result.andThen_ok, this];simp
   | _ => simp [bytesOf] at h
end
end
section
section
variable {base : Nat} {ρ : ev} {m : Mem} {w : World} {P : Program}
def Ai (P : Program) (s : Sem Value) (base : Nat) (ρ : ev) (m : Mem) (w : World) (v : EV) (m' : Mem) : Prop :=
 ∃ ρ' w' v', s.run P w = .ok v' w' /\ VR ρ' v v' /\ R base ρ' m' w' /\ Step ρ m w ρ' m' w'
theorem Ai.ux {s : Sem Value} {v : EV} {m' : Mem} (h : Ai P s base ρ m w v m') : Good base ρ m w v m' ((do pure (Next.value (<- s)) : Sem Next).run P w) := by
 obtain ⟨ρ', w', v', h1, h2, h3, h4⟩ := h
 exact ⟨ρ', w', v', .inl (by simp [h1]), h2, h3, h4⟩
def vt (P : Program) (s : Sem Value) (base : Nat) (ρ : ev) (m : Mem) (w : World) (v : EV) (B : fK) : Prop :=
 ∃ ρ' w' v', s.run P w = .ok v' w' /\ VR ρ' v v' /\ Made base ρ m w ρ' B w'
theorem vt.runs {s : Sem Value} {v : EV} {B : fK} (hR : R base ρ m w) (h : vt P s base ρ m w v B) : Ai P s base ρ m w v (m.new B) := by
 obtain ⟨ρ', w', v', h1, h2, h3⟩ := h
 obtain ⟨a, b⟩ := h3.whole hR
 exact ⟨ρ', w', v', h1, h2, a, b⟩
theorem xR (w : World) (o : Obj) : IE w o { w with heap := w.heap.push o } := ⟨rfl, rfl, rfl, rfl⟩
theorem Bo (hR : RN base ρ m w) {cs : List EV} {x : Value} (hv : fx ρ cs x.cells.toList) (hf : ∀ c ∈ x.cells.toList, c.oneCell' = true) (el : Nat) (t : TypeId) :
  vt P (do pure (.pointer (some (<- newVar t x)))) base ρ m w (.ptr m.next 0) (.cells cs cs.length el false) := by
 obtain ⟨L, h1, h2, h3, _, _, _, h4⟩ := qh hR hv hf cs.length el t [] (0, 0) (AW _) { w with heap := w.heap.push (.cells x.cells t) } (by
  have := xR w (.cells x.cells t)
  simpa using this)
 refine ⟨_, _, _, ?_, .ptr h1, h4⟩
 simp only [newVar, newRow, Sem.run_bind, run_newObj, Result.andThen_ok, Sem.run_pure];rw [h2, h3]
theorem Ff (hR : RN base ρ m w) {t : TypeId} {z : List EV} (hz : nS P t = some z) :
  vt P (Instr.alloc t true (.tuple #[])) base ρ m w (.ptr m.next 0) (.cells z z.length t false) := by
 obtain ⟨v, h1, h2, h3⟩ := nf (ρ := ρ) hz
 have := Bo (P := P) hR h2 h3 t t
 obtain ⟨ρ', w', v', e1, e2⟩ := this
 exact ⟨ρ', w', v', by
  rw [<- e1];simp only [Instr.alloc, Sem.run_bind, h1, Result.andThen_ok], e2⟩
theorem Km (hR : RN base ρ m w) {t : TypeId} {x : EV} {x' : Value} (hx : VR ρ x x') {cs : List EV} (hc : x.cells = some cs) :
  vt P (Instr.box t x') base ρ m w (.ptr m.next 0) (.cells cs cs.length t false) :=
 Bo hR (hx.cells hc).1 (hx.cells hc).2 t t
theorem ME (hR : RN base ρ m w) {cs : List EV} {vs : Array Value} (hv : fx ρ cs vs.toList) (hf : ∀ c ∈ vs.toList, c.oneCell' = true) (esz el : Nat) (t : TypeId) {n c : Nat} (hn : n <= c) (hc : c * esz = vs.size) (known : Bool) :
  vt P (do pure (.slice (some (<- newRow t vs)) n c)) base ρ m w (.slice m.next 0 n (if known then some c else none)) (.cells cs esz el false) := by
 obtain ⟨L, h1, h2, h3, h4, h5, h6, h7⟩ := qh hR hv hf esz el t [] (0, 0) (AW _) { w with heap := w.heap.push (.cells vs t) } (by
  have := xR w (.cells vs t)
  simpa using this)
 refine ⟨_, _, .slice (some ⟨w.heap.size, 0, none⟩) n c, ?_, ?_, h7⟩
 ·simp only [newRow, Sem.run_bind, run_newObj, Result.andThen_ok, Sem.run_pure]
 ·rw [<- h2]
  cases known with
  | true => exact .fG h1 hn (fun _ => by rw [h3])
  | false =>
   refine .slice h1 hn (fun _ => by rw [h3]) (fun _ => ?_)
   rw [h5, h4, hc]; simp
theorem BA (hR : RN base ρ m w) {t e : TypeId} {s len : Nat} {z : List EV} (hu : P.underlying t = some (.slice e)) (hs : gh P e = some s) (hz : nS P e = some z) (HS : z.length = s) (hl : len * s <= 2 ^ 24)
  {ps : List (Nat × Nat × EV)} {qs : List (Nat × Value)} (hlen : ps.length = qs.length)
  (hp : ∀ (i : Nat) (p : Nat × Nat × EV) (q : Nat × Value), ps[i]? = some p -> qs[i]? = some q -> (p.1 = q.1 * s /\ p.2.1 = s) /\ VR ρ p.2.2 q.2) {cs : List EV} (h : fB (eD len z) ps = some cs) :
  vt P (Instr.buildSlice t len ⟨qs⟩) base ρ m w (.slice m.next 0 len (some len)) (.cells cs s e false) := by
 obtain ⟨zv, z1, z2, z3⟩ := nf (ρ := ρ) hz
 have XE : zv.cells.size = s := by have := z2.length; simp at this; omega
 obtain ⟨c1, c2⟩ := z0 z2 z3 len
 rw [HS] at c1 c2;have rQ : ∀ zc : Array Value, len * s = 0 -> ((Array.range (len * s)).map fun i => zc[i % zc.size]!) = (Array.range (len * s)).map fun i => zv.cells[i % zv.cells.size]! := by
  intro zc h0
  rw [h0]; simp only [Array.range_zero', List.map_toArray, List.map_nil]
 obtain ⟨vj, f1, f2, f3, f4⟩ := xT (ρ := ρ) (place := fun i => some (i * s, s)) ps qs _ _ c1 c2 hlen (fun i p q hp' GC => by
  obtain ⟨⟨e1, e2⟩, e3⟩ := hp i p q hp' GC
  exact ⟨by rw [e1, e2], e3⟩) cs h
 obtain ⟨ρ', w', v', r1, r2⟩ := ME (P := P) hR f2 f3 s e e (fy len) (by rw [f4]; simp) true
 refine ⟨ρ', w', v', ?_, r2⟩
 rw [<- r1];unfold Instr.buildSlice;simp only [Sem.run_bind, run_underlying hu, Result.andThen_ok, b8 hs];rw [if_neg (by omega)];by_cases h0 : len * s = 0
 ·simp only [if_pos h0, Sem.run_bind, Sem.run_pure, Result.andThen_ok, rQ _ h0, f1]
 ·simp only [if_neg h0, Sem.run_bind, Sem.run_pure, Result.andThen_ok, z1, f1]
theorem yY (hR : RN base ρ m w) {t e : TypeId} {i : TypeInfo} {z : List EV} (hu : P.underlying t = some (.slice e)) (hi : P.info? e = some i) (hz : nS P e = some z) (HS : z.length = i.size) (hb : i.bytes <= 65536) {l c : Nat} (LP : l <= c) (hc : c <= room) :
  vt P (Instr.makeSlice t (.int .i64 (l : Int)) (.int .i64 (c : Int))) base ρ m w (.slice m.next 0 l (some c)) (.cells (eD c z) i.size e false) := by
 obtain ⟨zv, z1, z2, z3⟩ := nf (ρ := ρ) hz
 obtain ⟨c1, c2⟩ := z0 z2 z3 c
 rw [HS] at c1 c2;have hs : gh P e = some i.size := by simp [gh, hi]
 have rQ : ∀ zc : Array Value, c * i.size = 0 -> ((Array.range (c * i.size)).map fun i => zc[i % zc.size]!) = (Array.range (c * i.size)).map fun i => zv.cells[i % zv.cells.size]! := by
  intro zc h0
  rw [h0]; simp only [Array.range_zero', List.map_toArray, List.map_nil]
 obtain ⟨ρ', w', v', r1, r2⟩ := ME (P := P) hR c1 c2 i.size e e LP (by simp) true
 refine ⟨ρ', w', v', ?_, r2⟩
 rw [<- r1];unfold room at hc;have wl : IntKind.i64.wrap (l : Int) = l := by unfold IntKind.wrap; simp [IntKind.bits, IntKind.signed]; omega
 have wc : IntKind.i64.wrap (c : Int) = c := by unfold IntKind.wrap; simp [IntKind.bits, IntKind.signed]; omega
 have Rz : (i.bytes : Int) * (c : Int) <= 2 ^ 48 := by
  have : i.bytes * c <= 65536 * 1073741824 := Nat.mul_le_mul hb hc
  have h2 : ((i.bytes * c : Nat) : Int) <= ((65536 * 1073741824 : Nat) : Int) := Int.ofNat_le.2 this
  simp at h2
  omega
 unfold Instr.makeSlice;simp only [Sem.run_bind, run_underlying hu, Result.andThen_ok, asInt, asIntOf, Sem.run_pure, run_typeInfo hi, wl, wc];have t1 : (decide ((c : Int) < 0) || decide ((i.bytes : Int) * (c : Int) > 2 ^ 48)) = false := by
  simp only [Bool.or_eq_false_iff, decide_eq_false_iff_not];exact ⟨by omega, by omega⟩
 rw [if_neg (by
  simp only [t1, Bool.false_or, Bool.or_eq_true, decide_eq_true_eq, not_or];exact ⟨by omega, by omega⟩)]
 simp only [Sem.run_bind, run_askRoom, Result.andThen_ok, b8 hs, Int.toNat_natCast];by_cases h0 : c * i.size = 0
 ·simp only [if_pos h0, Sem.run_bind, Sem.run_pure, Result.andThen_ok, rQ _ h0]
 ·simp only [if_neg h0, Sem.run_bind, Sem.run_pure, Result.andThen_ok, z1]
theorem s4 (hR : RN base ρ m w) : vt P (do pure (.map (some (<- newObj (.map #[] 0))))) base ρ m w (.map m.next) (.map []) := by
 have g := xR w (.map #[] 0)
 let L : Loc := ⟨w.heap.size, 0, 0, 0, false⟩
 have a := Jp hR (.map []) _ g L rfl ⟨#[], 0, g.new, rfl, fun i e d he => by simp at he, hR.base, rfl⟩
 refine ⟨_, _, .map (some w.heap.size), ?_, VR.map (L := L) (by simp [ev.put]), a⟩
 simp only [Sem.run_bind, run_newObj, Result.andThen_ok, Sem.run_pure]
theorem uM {b off n : Nat} {xs : List EV} (h : m.row b off n = some xs) : xs.length = n := by
 by_cases hn : n = 0
 ·subst hn
  rw [Mem.nj] at h; cases h; rfl
 rw [Mem.p7 hn] at h;unfold Mem.Ho at h
 split at h
 ·rename_i cs _ _ _ _
  cases hl : (off + n).ble cs.length <;> simp only [hl, cond_true, cond_false, reduceCtorEq, bf] at h
  subst h;have := qS hl
  simp; omega
 ·cases h
theorem Qn {b off : Nat} {xs : List EV} (h : m.row b off 0 = some xs) : xs = [] := List.eq_nil_of_length_eq_zero (uM h)
theorem nh (hR : R base ρ m w) {b off len n : Nat} {cap : Option Nat} {x' : Value} (hx : VR ρ (.slice b off len cap) x') (size : Nat) (hn : n <= len) {xs : List EV} (h : m.row b off (n * size) = some xs) :
  ∃ (a : Addr) (c : Nat) (vs : List Value), x' = .slice (some a) len c /\ (loadCells a (n * size)).run P w = .ok ⟨vs⟩ w /\ fx ρ xs vs /\ (∀ c ∈ vs, c.oneCell' = true) /\ vs.length = n * size := by
 rcases Nat.eq_zero_or_pos (n * size) with h0 | h0
 ·rw [h0] at h ⊢
  obtain rfl := Qn h
  cases hx with
  | slice => exact ⟨_, _, [], rfl, rfl, .nil, by simp, rfl⟩
  | fG => exact ⟨_, _, [], rfl, rfl, .nil, by simp, rfl⟩
  | gN => exact ⟨_, _, [], rfl, rfl, .nil, by simp, rfl⟩
 ·have hp : 0 < n := Nat.pos_of_mul_pos_right h0
  cases hx with
  | @slice _ _ _ c o L hL hc ho hr =>
   obtain ⟨vs, h1, h2, h3, h4, h5⟩ := Gj (P := P) hR hL h
   rw [<- ho (by omega)] at h3;exact ⟨_, _, vs, rfl, h3, h4, h5, h1⟩
  | gN => omega
  | @fG _ _ _ c o L hL hc ho =>
   obtain ⟨vs, h1, h2, h3, h4, h5⟩ := Gj (P := P) hR hL h
   rw [<- ho (by omega)] at h3;exact ⟨_, _, vs, rfl, h3, h4, h5, h1⟩
theorem KQ (hR : R base ρ m w) {s d e : TypeId} (hs : P.underlying s = some (.slice e)) (he : P.underlying e = some (.int .u8)) (hd : P.underlying d = some .string) {x : EV} {x' : Value} (hx : VR ρ x x') {v : EV} {m' : Mem} (h : kY .text m x = some (v, m')) :
  Ai P (convert s d x') base ρ m w v m' := by
 cases x <;> simp only [kY, reduceCtorEq, bf, eO] at h
 case ae =>
  obtain ⟨rfl, rfl⟩ := h
  cases hx
  exact ⟨ρ, w, .string .empty, by simp [convert, run_underlying hs, run_underlying he, run_underlying hd, Conv.bytesToString], .str .empty, hR, .refl _ _ _⟩
 case slice b off n cap =>
  cases hr : m.row b off n with
  | none => simp [hr] at h
  | some cs =>
   simp only [hr] at h;obtain ⟨t, ht, h2⟩ := j8.1 h
   cases h2
   obtain ⟨a, c, vs, rfl, h3, h4, h5, h6⟩ := nh (P := P) (n := n) hR hx 1 (fy n) (by rw [Nat.mul_one]; exact hr)
   rw [Nat.mul_one] at h3;have hl := Mg (P := P) (w := w) vs cs t .empty h4 ht
   refine ⟨ρ, w, .string ⟨⟨t⟩⟩, ?_, .str ⟨⟨t⟩⟩, hR, .refl _ _ _⟩
   simp only [convert, Sem.run_bind, run_underlying hs, run_underlying hd, run_underlying he, Result.andThen_ok, Conv.bytesToString, h3];rw [<- Array.forIn_toList];have e0 : (ByteArray.empty.data.toList ++ t) = t := rfl
   rw [e0] at hl;have Pe := congrArg (fun r : Result ByteArray => r.andThen fun a w' => (pure (Value.string a) : Sem Value).run P w') hl
   exact Pe
theorem yZ (h : Array Obj) (arr : Array Value) (e : TypeId) (tape : Nat -> Question -> Nat) (d : Nat) (os : Os) (out : Array (Nat × ByteArray)) :
  (markStringish ⟨h.size, 0, none⟩).run P ⟨h.push (.cells arr e), tape, d, os, out⟩ = .ok () ⟨h.push (.cells arr e (arr.size, arr.size + 1)), tape, d, os, out⟩ := by
 have hsh : World.shape? ⟨h.push (.cells arr e), tape, d, os, out⟩ h.size = some (e, arr.size) := by simp [World.shape?]
 simp only [markStringish, Sem.run_bind, run_shape, Result.andThen_ok, hsh, run_freeze];simp only [World.freeze, if_neg (show ¬ (1 = 0) by decide)]
 congr 2
 apply Array.ext_getElem?
 intro i
 rw [Array.getElem?_modify, Array.getElem?_push, Array.getElem?_push];by_cases hi : i = h.size
 ·subst hi; simp
 ·rw [if_neg (fun e => hi e.symm)]
  simp [hi]
theorem E4 (hR : RN base ρ m w) {s d e : TypeId} (hs : P.underlying s = some .string) (hd : P.underlying d = some (.slice e)) (he : P.underlying e = some (.int .u8)) {x : EV} {x' : Value} (hx : VR ρ x x') {v : EV} {m' : Mem} (h : kY (.bytes e) m x = some (v, m')) :
  ∃ B, m' = m.new B /\ vt P (convert s d x') base ρ m w v B := by
 cases hx <;> simp only [kY, reduceCtorEq, bf, eO] at h
 rename_i s'
 obtain ⟨rfl, rfl⟩ := h
 let q : Question := .appendCap s'.size 0 e
 have hq : q.forced = false := rfl
 let cap := q.cut (w.tape w.drawn q)
 have JQ : s'.size <= cap := Nat.le_add_right _ _
 let pB : Array Value := s'.data.map fun b => .int .u8 (b.toNat : Int)
 let o : Obj := .cells (pB ++ Array.replicate (cap - s'.size) (.int .u8 0)) e (pB.size + (cap - s'.size), pB.size + (cap - s'.size) + 1)
 let w' : World := { w with drawn := w.drawn + 1, heap := w.heap.push o }
 have hlen : s'.data.toList.length = s'.size := rfl
 have hv : fx ρ (s'.data.toList.map fun b => EV.int .u8 (b.toNat : Int)) pB.toList := by
  rw [show pB.toList = s'.data.toList.map fun b => Value.int .u8 (b.toNat : Int) by simp [pB]]
  exact fx.HG _ _ (R := fun a b => a = b) (fun a b e => by subst e; exact .int _ _) rfl fun i a b h1 h2 => by rw [h1] at h2; cases h2; rfl
 have hf : ∀ c ∈ pB.toList, c.oneCell' = true := by
  intro c hc
  simp [pB] at hc
  obtain ⟨b, _, rfl⟩ := hc
  rfl
 have uB : pB.size = s'.size := by simp [pB]
 obtain ⟨L, h1, h2, h3, h4, h5, h6, h7⟩ := qh hR hv hf 1 e e (List.replicate (cap - s'.size) (.int .u8 0)) (pB.size + (cap - s'.size), pB.size + (cap - s'.size) + 1) (fun i hi => by simp at hi; simp; omega) w' (by
  have e1 : (⟨pB.toList ++ List.replicate (cap - s'.size) (.int .u8 0)⟩ : Array Value) = pB ++ Array.replicate (cap - s'.size) (.int .u8 0) := by
   apply Array.ext'; simp
  rw [e1];exact ⟨rfl, rfl, rfl, rfl⟩)
 refine ⟨_, rfl, _, w', .slice (some ⟨w.heap.size, 0, none⟩) s'.size cap, ?_, ?_, h7⟩
 ·simp only [convert, Sem.run_bind, run_underlying hs, run_underlying hd, run_underlying he, Result.andThen_ok, Conv.stringToBytes, run_choose]
  rw [show (Question.appendCap s'.size 0 e).forced = false from rfl];simp only [re, if_false, Result.andThen_ok, newRow, Sem.run_bind, run_newObj, Sem.run_pure, yZ];simp only [Array.size_append, Array.size_replicate, Array.size_map, w', o, pB, cap, q]
 ·have : VR (ρ.put m.next L) (.slice m.next 0 s'.data.toList.length none) (.slice (some ⟨L.de, 0, none⟩) s'.size cap) := by
   rw [hlen];refine .slice h1 JQ (fun _ => by rw [h3]) (fun _ => ?_)
   rw [h5, h4]; simp [uB]; omega
  rw [<- h2]; exact this
end
end
end Go.Proofs.YtdiccmapankckaaDoor.Ev
